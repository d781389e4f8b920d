/- The law FnExactRunBallot: the program's function tells what the reference tells, for all arguments; here: of the two as plain functions of numbers and lists. -/
import Derived.Test.YtlabpbkeaelecaaQFnExactRunBallot
namespace Go.Proofs.Ytlabpbkeaelecaa.Pure
open Go.RowKit Go.Proofs.Ytlabpbkeaelecaa.PFnExactRunBallot Go.Proofs.YtlabpbkeaelecaaW.PrintWords Go.Proofs.YtlabpbkeaelecaaW.PrintLast Go.Proofs.YtlabpbkeaelecaaW.PrintMore
set_option linter.unusedVariables false
set_option linter.unusedSimpArgs false
set_option linter.unnecessarySimpa false

theorem sin_tells (a b c : Int) : spec_l1In.f a b c = some (decide (b ≤ a) && decide (a ≤ c)) := by
  unfold spec_l1In.f
  by_cases h : a ≥ b
  · rw [if_pos h]; simp [show b ≤ a from h]
  · rw [if_neg h]; simp [show ¬ b ≤ a from h]

def manyB (n : Int) : Bool := (decide (3 ≤ n) && decide (n ≤ 9)) && (Int.tmod n 2 == 1)
theorem many_tells (n : Int) : impl_isMany.f n = some (manyB n) := by
  unfold impl_isMany.f manyB
  rw [within_tells, Option.bind_some]
  cases (decide (3 ≤ n) && decide (n ≤ 9)) <;> simp
theorem smany_tells (n : Int) : spec_l11Places.f n = some (manyB n) := by
  unfold spec_l11Places.f manyB
  rw [sin_tells, Option.bind_some]
  cases (decide (3 ≤ n) && decide (n ≤ 9)) <;> simp
theorem many_bd {n : Int} (h : manyB n = true) : 3 ≤ n ∧ n ≤ 9 := by
  unfold manyB at h
  simp only [Bool.and_eq_true, decide_eq_true_eq] at h
  omega

theorem drop_pl (l : List S111) (i : Nat) (h : i < l.length) : l.drop i = rd_T111 l i :: l.drop (i + 1) := by
  rw [List.drop_eq_getElem_cons h]
  simp [rd_T111, List.getD, List.getElem?_eq_getElem h]
def placesB (l : List S111) : Bool := l.all goodPl && manyB (l.length : Int)
theorem sgood_l (l : List S111) (hl : l.length ≤ 1048576) : ∀ (d i : Nat), i + d = l.length → Ev (fun k => spec_GoodPlaces.l0 k l l (l.length : Int) (i : Int)) ((l.drop i).all goodPl && manyB (l.length : Int))
  | 0, i, h => ev_stop fun k => by
    rw [spec_GoodPlaces.l0, if_neg (by omega), smany_tells, List.drop_of_length_le (by omega)]
    rfl
  | d + 1, i, h => by
    have ih := sgood_l l hl d (i + 1) (by omega)
    rw [drop_pl l i (by omega), List.all_cons, Bool.and_assoc]
    refine Ev.step (f := fun k => if goodPl (rd_T111 l i) = true then spec_GoodPlaces.l0 k l l (l.length : Int) ((i + 1 : Nat) : Int) else some false) (fun k => ?_) ?_
    · rw [spec_GoodPlaces.l0, if_pos (by omega), if_pos (by omega), if_pos (by omega)]
      simp only [sin_tells, Option.bind_some, next i (by omega), show ∀ a : Int, (a == 0) = decide (a = 0) from fun _ => rfl]
      generalize rd_T111 l i = x
      unfold goodPl inB
      cases (decide (0 ≤ x.f0) && decide (x.f0 ≤ 40)) <;> cases (decide (0 ≤ x.f1) && decide (x.f1 ≤ x.f0)) <;> cases (decide (0 ≤ x.f2) && decide (x.f2 ≤ 99)) <;> by_cases h1 : x.f1 = 0 <;> by_cases h2 : x.f2 = 0 <;> simp [h1, h2]
    · cases goodPl (rd_T111 l i) with
      | true => simpa using ih
      | false => exact ev_some fun k => by simp
theorem sgood_tells (l : List S111) (hl : l.length ≤ 1048576) : Ev (fun k => spec_GoodPlaces.f k l) (placesB l) := by
  have h := sgood_l l hl l.length 0 (by omega)
  rw [List.drop_zero] at h
  exact h
theorem igood_tells (l : List S111) : impl_GoodPlaces.f l = some (placesB l) := by
  unfold impl_GoodPlaces.f placesB
  rw [many_tells, Option.bind_some, any_bad, Bool.and_comm]
  cases manyB (l.length : Int) <;> simp
theorem placesB_ok {l : List S111} (h : placesB l = true) : 3 ≤ (l.length : Int) ∧ (l.length : Int) ≤ 9 ∧ ∀ x ∈ l, goodPl x = true := by
  unfold placesB at h
  simp only [Bool.and_eq_true] at h
  obtain ⟨h1, h2⟩ := h
  obtain ⟨a, b⟩ := many_bd h2
  exact ⟨a, b, fun x hx => List.all_eq_true.1 h1 x hx⟩

def okAt (l : List Int) (a b : Int) (i : Nat) : Bool := (decide (a ≤ l.getD i 0) && decide (l.getD i 0 ≤ b)) && (decide (i = 0) || decide (l.getD (i - 1) 0 < l.getD i 0))
/-- Rising numbers from a to b. -/
def riseB (l : List Int) (a b : Int) : Bool := (List.range l.length).all (okAt l a b)
theorem rise_l (l : List Int) (a b : Int) (hl : l.length ≤ 4611686018427387904) : ∀ (d i : Nat), i + d = l.length → Ev (fun k => impl_isRising.l0 k l a b l (l.length : Int) (i : Int)) ((List.range' i d).all (okAt l a b))
  | 0, i, h => ev_stop fun k => by
    rw [impl_isRising.l0, if_neg (by omega)]
    rfl
  | d + 1, i, h => by
    have ih := rise_l l a b hl d (i + 1) (by omega)
    have h1 : wrap64 ((i : Int) + 1) = ((i + 1 : Nat) : Int) := by rw [w64 (by omega) (by omega)]; omega
    have key : ∀ k, impl_isRising.l0 (k + 1) l a b l (l.length : Int) (i : Int) = if okAt l a b i = true then impl_isRising.l0 k l a b l (l.length : Int) ((i + 1 : Nat) : Int) else some false := by
      intro k
      rw [impl_isRising.l0, if_pos (by omega), if_pos (by omega), if_pos (by omega), within_tells, Option.bind_some, h1, rdn]
      unfold okAt
      cases hw : (decide (a ≤ l.getD i 0) && decide (l.getD i 0 ≤ b)) with
      | false => simp
      | true =>
        rw [if_pos rfl]
        by_cases h0 : i = 0
        · rw [if_neg (by omega)]
          simp [h0]
        · have h2 : wrap64 ((i : Int) - 1) = ((i - 1 : Nat) : Int) := by rw [w64 (by omega) (by omega)]; omega
          rw [if_pos (by omega), h2, if_pos (by omega), if_pos (by omega), rdn]
          by_cases h3 : l.getD (i - 1) 0 ≥ l.getD i 0
          · rw [if_pos h3, if_neg]
            simp only [Bool.true_and, Bool.or_eq_true, decide_eq_true_eq]
            omega
          · rw [if_neg h3, if_pos]
            simp only [Bool.true_and, Bool.or_eq_true, decide_eq_true_eq]
            omega
    rw [List.range'_succ, List.all_cons]
    refine Ev.step key ?_
    cases okAt l a b i with
    | true => simpa using ih
    | false => exact ⟨0, fun k _ => by simp⟩
theorem rise_tells (l : List Int) (a b : Int) (hl : l.length ≤ 4611686018427387904) : Ev (fun k => impl_isRising.f k l a b) (riseB l a b) := by
  have h := rise_l l a b hl l.length 0 (by omega)
  unfold riseB
  rw [List.range_eq_range']
  exact h

abbrev Ris (l : List Int) : Prop := l.Pairwise (· < ·)
theorem ris_of_next : ∀ {l : List Int}, (∀ i, i + 1 < l.length → l.getD i 0 < l.getD (i + 1) 0) → Ris l
  | [], _ => List.Pairwise.nil
  | [a], _ => by simp
  | a :: b :: l, h => by
    have h1 : Ris (b :: l) := ris_of_next fun i hi => by
      have := h (i + 1) (by simpa using hi)
      simpa using this
    have h2 := List.pairwise_cons.1 h1
    have hab : a < b := by simpa using h 0 (by simp)
    refine List.pairwise_cons.2 ⟨fun y hy => ?_, h1⟩
    rcases List.mem_cons.1 hy with e | e
    · omega
    · have := h2.1 y e
      omega
theorem rise_ris {l : List Int} {a b : Int} (h : riseB l a b = true) : Ris l ∧ ∀ x ∈ l, a ≤ x ∧ x ≤ b := by
  unfold riseB okAt at h
  simp only [List.all_eq_true, List.mem_range, Bool.and_eq_true, Bool.or_eq_true, decide_eq_true_eq] at h
  refine ⟨ris_of_next fun i hi => ?_, fun x hx => ?_⟩
  · have := (h (i + 1) hi).2
    rcases this with e | e
    · omega
    · simpa using e
  · obtain ⟨i, hi, rfl⟩ := List.mem_iff_getElem.1 hx
    have := (h i hi).1
    simpa [List.getD, List.getElem?_eq_getElem hi] using this

theorem rise_same : ∀ (k : Nat) (x0 : List Int) (x1 x2 : Int) (x9 : List Int) (x10 x11 : Int), spec_l1Rising.l0 k x0 x1 x2 x9 x10 x11 = impl_isRising.l0 k x0 x1 x2 x9 x10 x11
  | 0, _, _, _, _, _, _ => rfl
  | k + 1, x0, x1, x2, x9, x10, x11 => by
    rw [spec_l1Rising.l0, impl_isRising.l0]
    simp only [rise_same k]
    rfl
theorem srise_tells (l : List Int) (a b : Int) (hl : l.length ≤ 4611686018427387904) : Ev (fun k => spec_l1Rising.f k l a b) (riseB l a b) :=
  Ev.congr (fun k => rise_same k _ _ _ _ _ _) (rise_tells l a b hl)

/-- Numbers of places: rising, each the place of one. -/
structure Who (l : List S111) (who : List Int) : Prop where
  up : Ris who
  mem : ∀ w ∈ who, 0 ≤ w ∧ w < (l.length : Int)
theorem who_of {l : List S111} {who : List Int} (h : riseB who 0 ((l.length : Int) - 1) = true) : Who l who := by
  obtain ⟨u, m⟩ := rise_ris h
  exact ⟨u, fun w hw => by have := m w hw; omega⟩
theorem who_head {l : List S111} {who : List Int} (h : Who l who) (i : Nat) (hi : i < who.length) : 0 ≤ who.getD i 0 ∧ who.getD i 0 < (l.length : Int) ∧ ∀ w ∈ who.drop (i + 1), who.getD i 0 < w := by
  have hm : who.getD i 0 ∈ who := by
    rw [show who.getD i 0 = who[i] from by simp [List.getD, List.getElem?_eq_getElem hi]]
    exact List.getElem_mem hi
  have h1 := h.mem _ hm
  refine ⟨h1.1, h1.2, fun w hw => ?_⟩
  have h2 : Ris (who.drop i) := h.up.drop
  rw [drop_at who i hi] at h2
  exact (List.pairwise_cons.1 h2).1 w hw
theorem rdpl_set_ne (o : List S111) (v w : Int) (x : S111) (h0 : 0 ≤ v) (h : v < w) : rd_T111 (o.set v.toNat x) w = rd_T111 o w := by
  unfold rd_T111
  have hne : v.toNat ≠ w.toNat := by omega
  simp only [List.getD_eq_getElem?_getD, List.getElem?_set_ne hne]
theorem rdpl_set_eq (o : List S111) (v : Int) (x : S111) (h0 : 0 ≤ v) (h : v < (o.length : Int)) : rd_T111 (o.set v.toNat x) v = x := by
  unfold rd_T111
  have hl : v.toNat < o.length := by omega
  simp [List.getD, hl]
theorem ris_len : ∀ {l : List Int} {a b : Int}, Ris l → (∀ x ∈ l, a ≤ x ∧ x < b) → a ≤ b → (l.length : Int) ≤ b - a
  | [], a, b, _, _, h => by simpa using h
  | c :: l, a, b, hu, hm, h => by
    have h1 := List.pairwise_cons.1 hu
    have hc := hm c (by simp)
    have := ris_len (a := c + 1) (b := b) h1.2 (fun x hx => ⟨by have := h1.1 x hx; omega, (hm x (List.mem_cons_of_mem _ hx)).2⟩) (by omega)
    rw [List.length_cons]
    omega

def slowB (n : Int) : Int := wrap64 (wrap64 (Int.tdiv n 2) + 1)
theorem islow_tells (n : Int) : impl_slow.f n = some (slowB n) := rfl
theorem sslow_tells (n : Int) : spec_l11Slow.f n = some (slowB n) := rfl
theorem slow_pos {n : Int} (h0 : 3 ≤ n) (h1 : n ≤ 9) : 1 ≤ slowB n := by
  unfold slowB
  rw [Int.tdiv_eq_ediv_of_nonneg (by omega), w64 (i := n / 2) (by omega) (by omega), w64 (by omega) (by omega)]
  omega

def askGo (l : List S111) (no : Int) : List Int → List S111 → Nat → Int → Int → List S111 × Nat × Int
  | [], o, n, b1, b2 => (o, n, b2)
  | w :: r, o, n, b1, b2 => if (rd_T111 l w).f0 ≥ no then askGo l no r o n b1 b2 else if (rd_T111 l w).f1 > b1 then askGo l no r (o.set w.toNat ⟨no, (rd_T111 l w).f1, (rd_T111 l w).f2⟩) (n + 1) (rd_T111 l w).f1 (rd_T111 l w).f2 else askGo l no r (o.set w.toNat ⟨no, (rd_T111 l w).f1, (rd_T111 l w).f2⟩) (n + 1) b1 b2
theorem askGo_len (l : List S111) (no : Int) : ∀ (r : List Int) (o : List S111) (n : Nat) (b1 b2 : Int), (askGo l no r o n b1 b2).1.length = o.length
  | [], o, n, b1, b2 => rfl
  | w :: r, o, n, b1, b2 => by
    rw [askGo]
    split
    · exact askGo_len l no r o n b1 b2
    · split
      · rw [askGo_len, List.length_set]
      · rw [askGo_len, List.length_set]
/-- What is told: the word, where enough have promised. -/
def askTold (l : List S111) (s : List S111 × Nat × Int) : List S111 × Int × Bool := if (s.2.1 : Int) < slowB (l.length : Int) then (s.1, 0, false) else (s.1, s.2.2, true)
theorem ask_s (l : List S111) (no : Int) (who : List Int) (hw : Who l who) (hwl : who.length ≤ 1048576) : ∀ (d i : Nat) (o : List S111) (n : Nat) (b0 b1 b2 : Int), i + d = who.length → o.length = l.length → (∀ w ∈ who.drop i, rd_T111 o w = rd_T111 l w) → n ≤ i →
    Ev (fun k => spec_l12Ask.l0 k o no (n : Int) who (who.length : Int) (i : Int) b0 b1 b2) ((askTold l (askGo l no (who.drop i) o n b1 b2)).2.1, (askTold l (askGo l no (who.drop i) o n b1 b2)).2.2, (askTold l (askGo l no (who.drop i) o n b1 b2)).1)
  | 0, i, o, n, b0, b1, b2, h, ho, hk, hn => ev_stop fun k => by
    rw [spec_l12Ask.l0, if_neg (by omega), List.drop_of_length_le (by omega), sslow_tells, Option.bind_some, ho]
    unfold askGo askTold
    by_cases hc : (n : Int) < slowB (l.length : Int)
    · simp only [if_pos hc]
    · simp only [if_neg hc]
  | d + 1, i, o, n, b0, b1, b2, h, ho, hk, hn => by
    obtain ⟨w0, w1, w2⟩ := who_head hw i (by omega)
    rw [drop_at who i (by omega)] at hk ⊢
    have e := hk _ List.mem_cons_self
    have hk' := fun w hw => hk w (List.mem_cons_of_mem _ hw)
    rw [askGo]
    by_cases hc : (rd_T111 l (who.getD i 0)).f0 ≥ no
    · rw [if_pos hc]
      have ih := ask_s l no who hw hwl d (i + 1) o n b0 b1 b2 (by omega) ho hk' (by omega)
      exact ev_step ih fun k => by rw [spec_l12Ask.l0, if_pos (by omega), if_pos (by omega), if_pos (by omega), rdn, if_pos w0, if_pos (by omega), e, if_pos hc, next i (by omega)]
    · rw [if_neg hc]
      have hset : rd_T111 (o.set (who.getD i 0).toNat ⟨no, (rd_T111 l (who.getD i 0)).f1, (rd_T111 l (who.getD i 0)).f2⟩) (who.getD i 0) = ⟨no, (rd_T111 l (who.getD i 0)).f1, (rd_T111 l (who.getD i 0)).f2⟩ := rdpl_set_eq o _ _ w0 (by omega)
      have hk2 : ∀ w ∈ who.drop (i + 1), rd_T111 (o.set (who.getD i 0).toNat ⟨no, (rd_T111 l (who.getD i 0)).f1, (rd_T111 l (who.getD i 0)).f2⟩) w = rd_T111 l w := fun w hw => (rdpl_set_ne o _ w _ w0 (w2 w hw)).trans (hk' w hw)
      by_cases hb : (rd_T111 l (who.getD i 0)).f1 > b1
      · rw [if_pos hb]
        have ih := ask_s l no who hw hwl d (i + 1) _ (n + 1) no (rd_T111 l (who.getD i 0)).f1 (rd_T111 l (who.getD i 0)).f2 (by omega) (by rw [List.length_set]; exact ho) hk2 (by omega)
        exact ev_step ih fun k => by rw [spec_l12Ask.l0, if_pos (by omega), if_pos (by omega), if_pos (by omega), rdn, if_pos w0, if_pos (by omega), e, if_neg hc, Option.bind_some, hset, if_pos hb, next i (by omega), next n (by omega)]
      · rw [if_neg hb]
        have ih := ask_s l no who hw hwl d (i + 1) _ (n + 1) b0 b1 b2 (by omega) (by rw [List.length_set]; exact ho) hk2 (by omega)
        exact ev_step ih fun k => by rw [spec_l12Ask.l0, if_pos (by omega), if_pos (by omega), if_pos (by omega), rdn, if_pos w0, if_pos (by omega), e, if_neg hc, Option.bind_some, hset, if_neg hb, next i (by omega), next n (by omega)]
theorem ask_i (l : List S111) (no : Int) (who : List Int) (hw : Who l who) (hwl : who.length ≤ 1048576) : ∀ (d i : Nat) (o : List S111) (n : Nat) (b0 b1 b2 : Int), i + d = who.length → o.length = l.length → (∀ w ∈ who.drop i, rd_T111 o w = rd_T111 l w) → n ≤ i →
    Ev (fun k => impl_askPlaces.l0 k l no o (n : Int) who (who.length : Int) (i : Int) b0 b1 b2) (askTold l (askGo l no (who.drop i) o n b1 b2))
  | 0, i, o, n, b0, b1, b2, h, ho, hk, hn => ev_stop fun k => by
    rw [impl_askPlaces.l0, if_neg (by omega), List.drop_of_length_le (by omega), islow_tells, Option.bind_some]
    unfold askGo askTold
    by_cases hc : (n : Int) < slowB (l.length : Int)
    · simp only [if_pos hc]
    · simp only [if_neg hc]
  | d + 1, i, o, n, b0, b1, b2, h, ho, hk, hn => by
    obtain ⟨w0, w1, w2⟩ := who_head hw i (by omega)
    rw [drop_at who i (by omega)] at hk ⊢
    have e := hk _ List.mem_cons_self
    have hk' := fun w hw => hk w (List.mem_cons_of_mem _ hw)
    rw [askGo]
    by_cases hc : (rd_T111 l (who.getD i 0)).f0 ≥ no
    · rw [if_pos hc]
      have ih := ask_i l no who hw hwl d (i + 1) o n b0 b1 b2 (by omega) ho hk' (by omega)
      exact ev_step ih fun k => by rw [impl_askPlaces.l0, if_pos (by omega), if_pos (by omega), if_pos (by omega), rdn, if_pos w0, if_pos w1, if_pos hc, next i (by omega)]
    · rw [if_neg hc]
      have hk2 : ∀ w ∈ who.drop (i + 1), rd_T111 (o.set (who.getD i 0).toNat ⟨no, (rd_T111 l (who.getD i 0)).f1, (rd_T111 l (who.getD i 0)).f2⟩) w = rd_T111 l w := fun w hw => (rdpl_set_ne o _ w _ w0 (w2 w hw)).trans (hk' w hw)
      by_cases hb : (rd_T111 l (who.getD i 0)).f1 > b1
      · rw [if_pos hb]
        have ih := ask_i l no who hw hwl d (i + 1) _ (n + 1) (rd_T111 l (who.getD i 0)).f0 (rd_T111 l (who.getD i 0)).f1 (rd_T111 l (who.getD i 0)).f2 (by omega) (by rw [List.length_set]; exact ho) hk2 (by omega)
        exact ev_step ih fun k => by rw [impl_askPlaces.l0, if_pos (by omega), if_pos (by omega), if_pos (by omega), rdn, if_pos w0, if_pos w1, if_neg hc, if_pos (by omega), e, Option.bind_some, if_pos hb, next i (by omega), next n (by omega)]
      · rw [if_neg hb]
        have ih := ask_i l no who hw hwl d (i + 1) _ (n + 1) b0 b1 b2 (by omega) (by rw [List.length_set]; exact ho) hk2 (by omega)
        exact ev_step ih fun k => by rw [impl_askPlaces.l0, if_pos (by omega), if_pos (by omega), if_pos (by omega), rdn, if_pos w0, if_pos w1, if_neg hc, if_pos (by omega), e, Option.bind_some, if_neg hb, next i (by omega), next n (by omega)]
def askAll (l : List S111) (no : Int) (who : List Int) : List S111 × Int × Bool := askTold l (askGo l no who l 0 0 0)
theorem askAll_len (l : List S111) (no : Int) (who : List Int) : (askAll l no who).1.length = l.length := by
  unfold askAll askTold
  split <;> exact askGo_len l no who l 0 0 0
theorem iask_tells (l : List S111) (no : Int) (who : List Int) (hw : Who l who) (hl0 : 0 < l.length) (hl : l.length ≤ 1048576) : Ev (fun k => impl_askPlaces.f k l no who) (askAll l no who) := by
  have hwl := ris_len hw.up hw.mem (by omega)
  unfold impl_askPlaces.f impl_Place_152.f
  rw [if_pos ⟨hl0, by omega⟩]
  have h := ask_i l no who hw (by omega) who.length 0 l 0 0 0 0 (by omega) rfl (fun _ _ => rfl) (by omega)
  rw [List.drop_zero] at h
  exact h
theorem sask_tells (l : List S111) (no : Int) (who : List Int) (hw : Who l who) (hl : l.length ≤ 1048576) : Ev (fun k => spec_l12Ask.f k l no who) ((askAll l no who).2.1, (askAll l no who).2.2, (askAll l no who).1) := by
  have hwl := ris_len hw.up hw.mem (by omega)
  have h := ask_s l no who hw (by omega) who.length 0 l 0 0 0 0 (by omega) rfl (fun _ _ => rfl) (by omega)
  rw [List.drop_zero] at h
  exact h

def takeGo (l : List S111) (no word : Int) : List Int → List S111 → List Int → List S111 × List Int
  | [], o, t => (o, t)
  | w :: r, o, t => if (rd_T111 l w).f0 ≤ no then takeGo l no word r (o.set w.toNat ⟨no, no, word⟩) (t ++ [w]) else takeGo l no word r o t
theorem takeGo_len (l : List S111) (no word : Int) : ∀ (r : List Int) (o : List S111) (t : List Int), (takeGo l no word r o t).1.length = o.length ∧ (takeGo l no word r o t).2.length ≤ t.length + r.length
  | [], o, t => ⟨rfl, Nat.le_refl _⟩
  | w :: r, o, t => by
    rw [takeGo]
    split
    · have := takeGo_len l no word r (o.set w.toNat ⟨no, no, word⟩) (t ++ [w])
      rw [List.length_set, List.length_append] at this
      refine ⟨this.1, ?_⟩
      have := this.2
      simp only [List.length_cons, List.length_nil] at this ⊢
      omega
    · have := takeGo_len l no word r o t
      refine ⟨this.1, ?_⟩
      have := this.2
      simp only [List.length_cons] at this ⊢
      omega
theorem take_s (l : List S111) (no word : Int) (who : List Int) (hw : Who l who) (hwl : who.length ≤ 1048576) : ∀ (d i : Nat) (o : List S111) (t : List Int), i + d = who.length → o.length = l.length → (∀ w ∈ who.drop i, rd_T111 o w = rd_T111 l w) → t.length ≤ i →
    Ev (fun k => spec_l12Take.l0 k o no word t who (who.length : Int) (i : Int)) ((takeGo l no word (who.drop i) o t).2, (takeGo l no word (who.drop i) o t).1)
  | 0, i, o, t, h, ho, hk, ht => ev_stop fun k => by
    rw [spec_l12Take.l0, if_neg (by omega), List.drop_of_length_le (by omega)]
    rfl
  | d + 1, i, o, t, h, ho, hk, ht => by
    obtain ⟨w0, w1, w2⟩ := who_head hw i (by omega)
    rw [drop_at who i (by omega)] at hk ⊢
    have e := hk _ List.mem_cons_self
    have hk' := fun w hw => hk w (List.mem_cons_of_mem _ hw)
    rw [takeGo]
    by_cases hc : (rd_T111 l (who.getD i 0)).f0 ≤ no
    · rw [if_pos hc]
      have ih := take_s l no word who hw hwl d (i + 1) (o.set (who.getD i 0).toNat ⟨no, no, word⟩) (t ++ [who.getD i 0]) (by omega) (by rw [List.length_set]; exact ho) (fun w hw => (rdpl_set_ne o _ w _ w0 (w2 w hw)).trans (hk' w hw)) (by simp; omega)
      exact ev_step ih fun k => by rw [spec_l12Take.l0, if_pos (by omega), if_pos (by omega), if_pos (by omega), rdn, if_pos w0, if_pos (by omega), e, if_pos hc, if_pos (by omega), next i (by omega)]
    · rw [if_neg hc]
      have ih := take_s l no word who hw hwl d (i + 1) o t (by omega) ho hk' (by omega)
      exact ev_step ih fun k => by rw [spec_l12Take.l0, if_pos (by omega), if_pos (by omega), if_pos (by omega), rdn, if_pos w0, if_pos (by omega), e, if_neg hc, next i (by omega)]
theorem take_i (l : List S111) (no word : Int) (who : List Int) (hw : Who l who) (hwl : who.length ≤ 1048576) : ∀ (d i : Nat) (o : List S111) (t : List Int), i + d = who.length → o.length = l.length → t.length ≤ i →
    Ev (fun k => impl_takeWord.l0 k l no word o t who (who.length : Int) (i : Int)) (takeGo l no word (who.drop i) o t)
  | 0, i, o, t, h, ho, ht => ev_stop fun k => by
    rw [impl_takeWord.l0, if_neg (by omega), List.drop_of_length_le (by omega)]
    rfl
  | d + 1, i, o, t, h, ho, ht => by
    obtain ⟨w0, w1, w2⟩ := who_head hw i (by omega)
    rw [drop_at who i (by omega)]
    rw [takeGo]
    by_cases hc : (rd_T111 l (who.getD i 0)).f0 ≤ no
    · rw [if_pos hc]
      have ih := take_i l no word who hw hwl d (i + 1) (o.set (who.getD i 0).toNat ⟨no, no, word⟩) (t ++ [who.getD i 0]) (by omega) (by rw [List.length_set]; exact ho) (by simp; omega)
      exact ev_step ih fun k => by rw [impl_takeWord.l0, if_pos (by omega), if_pos (by omega), if_pos (by omega), rdn, if_pos w0, if_pos w1, if_pos hc, if_pos (by omega), if_pos (by omega), next i (by omega)]
    · rw [if_neg hc]
      have ih := take_i l no word who hw hwl d (i + 1) o t (by omega) ho (by omega)
      exact ev_step ih fun k => by rw [impl_takeWord.l0, if_pos (by omega), if_pos (by omega), if_pos (by omega), rdn, if_pos w0, if_pos w1, if_neg hc, next i (by omega)]
theorem itake_tells (l : List S111) (no word : Int) (who : List Int) (hw : Who l who) (hl0 : 0 < l.length) (hl : l.length ≤ 1048576) : Ev (fun k => impl_takeWord.f k l no word who) (takeGo l no word who l []) := by
  have hwl := ris_len hw.up hw.mem (by omega)
  unfold impl_takeWord.f impl_Place_152.f
  rw [if_pos ⟨hl0, by omega⟩]
  have h := take_i l no word who hw (by omega) who.length 0 l [] (by omega) rfl (by simp)
  rw [List.drop_zero] at h
  exact h
theorem stake_tells (l : List S111) (no word : Int) (who : List Int) (hw : Who l who) (hl : l.length ≤ 1048576) : Ev (fun k => spec_l12Take.f k l no word who) ((takeGo l no word who l []).2, (takeGo l no word who l []).1) := by
  have hwl := ris_len hw.up hw.mem (by omega)
  have h := take_s l no word who hw (by omega) who.length 0 l [] (by omega) rfl (fun _ _ => rfl) (by simp)
  rw [List.drop_zero] at h
  exact h

theorem iplaces_tells (n : Int) (who : List Int) (hw : who.length ≤ 1048576) (hM : manyB n = true) : Ev (fun k => impl_arePlaces.f k n who) (riseB who 0 (n - 1)) := by
  obtain ⟨a, b⟩ := many_bd hM
  unfold impl_arePlaces.f
  refine ev_some_bind (many_tells n) ?_
  rw [hM, w64 (i := n - 1) (by omega) (by omega)]
  exact ev_ite_pos rfl (ev_bind (rise_tells who _ _ (by omega)) (ev_some fun _ => rfl))
theorem placesB_many {l : List S111} (h : placesB l = true) : manyB (l.length : Int) = true := by
  unfold placesB at h
  simp only [Bool.and_eq_true] at h
  exact h.2

def ballotB (n no word : Int) (a b : List Int) : Bool := inB 1 40 no && (inB 1 99 word && (riseB a 0 (n - 1) && riseB b 0 (n - 1)))
theorem sballot_tells (n no word : Int) (a b : List Int) (h0 : 0 ≤ n) (h1 : n ≤ 1048576) (ha : a.length ≤ 1048576) (hb : b.length ≤ 1048576) : Ev (fun k => spec_l12Ballot.f k n no word a b) (ballotB n no word a b) := by
  have s1 : spec_l1In.f no 1 40 = some (inB 1 40 no) := sin_tells no 1 40
  have s2 : spec_l1In.f word 1 99 = some (inB 1 99 word) := sin_tells word 1 99
  unfold spec_l12Ballot.f ballotB
  rw [s1, s2, w64 (i := n - 1) (by omega) (by omega)]
  cases inB 1 40 no with
  | false => exact ev_some fun _ => rfl
  | true =>
    cases inB 1 99 word with
    | false => exact ev_some fun _ => rfl
    | true =>
      refine ev_some_bind rfl (ev_ite_pos rfl (ev_some_bind rfl (ev_ite_pos rfl (ev_bind (srise_tells a _ _ (by omega)) ?_))))
      cases riseB a 0 (n - 1) with
      | false => exact ev_ite_neg (by simp) (ev_some fun _ => by simp)
      | true => exact ev_ite_pos rfl (ev_bind (srise_tells b _ _ (by omega)) (ev_some fun _ => by simp))
theorem iballot_tells (n no word : Int) (a b : List Int) (hM : manyB n = true) (ha : a.length ≤ 1048576) (hb : b.length ≤ 1048576) : Ev (fun k => impl_Ballot_isGood.f k no word a b n) (ballotB n no word a b) := by
  have isb : impl_isBallot.f no = some (inB 1 40 no) := by
    unfold impl_isBallot.f
    rw [within_tells]
    rfl
  have isw : impl_isWord.f word = some (inB 1 99 word) := by
    unfold impl_isWord.f
    rw [within_tells]
    rfl
  unfold impl_Ballot_isGood.f ballotB
  rw [isb, isw]
  cases inB 1 40 no with
  | false => exact ev_some fun _ => rfl
  | true =>
    cases inB 1 99 word with
    | false => exact ev_some fun _ => rfl
    | true =>
      refine ev_some_bind rfl (ev_ite_pos rfl (ev_some_bind rfl (ev_ite_pos rfl (ev_bind (iplaces_tells n a ha hM) ?_))))
      cases riseB a 0 (n - 1) with
      | false => exact ev_ite_neg (by simp) (ev_some fun _ => by simp)
      | true => exact ev_ite_pos rfl (ev_bind (iplaces_tells n b hb hM) (ev_some fun _ => by simp))
theorem ballotB_who {l : List S111} {no word : Int} {a b : List Int} (h : ballotB (l.length : Int) no word a b = true) : Who l a ∧ ∀ o : List S111, o.length = l.length → Who o b := by
  unfold ballotB at h
  simp only [Bool.and_eq_true] at h
  refine ⟨who_of h.2.2.1, fun o ho => who_of ?_⟩
  rw [ho]
  exact h.2.2.2
def takeTold (l : List S111) (no w : Int) (b : List Int) (o : List S111) : List S111 × Int := if ((takeGo o no w b o []).2.length : Int) < slowB (l.length : Int) then ((takeGo o no w b o []).1, 0) else ((takeGo o no w b o []).1, w)
def runTold (l : List S111) (no word : Int) (a b : List Int) : List S111 × Int := if (askAll l no a).2.2 = true then (if (askAll l no a).2.1 = 0 then takeTold l no word b (askAll l no a).1 else takeTold l no (askAll l no a).2.1 b (askAll l no a).1) else ((askAll l no a).1, 0)
theorem takeTold_len (l : List S111) (no w : Int) (b : List Int) (o : List S111) : (takeTold l no w b o).1.length = o.length := by
  have h := (takeGo_len o no w b o []).1
  unfold takeTold
  generalize takeGo o no w b o [] = s at h ⊢
  split <;> exact h
theorem runTold_len (l : List S111) (no word : Int) (a b : List Int) : (runTold l no word a b).1.length = l.length := by
  have h := askAll_len l no a
  unfold runTold
  generalize askAll l no a = s at h ⊢
  obtain ⟨o, w, ok⟩ := s
  simp only at h ⊢
  split
  · split
    · rw [takeTold_len, h]
    · rw [takeTold_len, h]
  · exact h
theorem irun_tells (l : List S111) (no word : Int) (a b : List Int) (h : ballotB (l.length : Int) no word a b = true) (hl0 : 0 < l.length) (hl : l.length ≤ 1048576) : Ev (fun k => impl_runBallot.f k l no word a b) (runTold l no word a b) := by
  obtain ⟨wa, wb⟩ := ballotB_who h
  have hlen := askAll_len l no a
  have hA := iask_tells l no a wa hl0 hl
  unfold impl_runBallot.f runTold
  refine ev_bind hA ?_
  generalize askAll l no a = s at hlen ⊢
  obtain ⟨o, w, ok⟩ := s
  simp only at hlen ⊢
  have J : ∀ w, Ev (fun k => impl_runBallot.j0 k l o w no word a b) (takeTold l no w b o) := fun w => by
    refine Ev.step (fun k => by rw [impl_runBallot.j0]) ?_
    refine ev_bind (itake_tells o no w b (wb o hlen) (by omega) (by omega)) (ev_some_bind (islow_tells _) ?_)
    unfold takeTold
    generalize takeGo o no w b o [] = s
    obtain ⟨x, y⟩ := s
    by_cases hc : (y.length : Int) < slowB (l.length : Int)
    · refine ev_ite_pos hc ?_
      simp only [if_pos hc]
      exact ev_some fun _ => rfl
    · refine ev_ite_neg hc ?_
      simp only [if_neg hc]
      exact ev_some fun _ => rfl
  cases ok with
  | false => exact ev_ite_neg (by simp) (ev_some fun _ => by simp)
  | true =>
    refine ev_ite_pos rfl ?_
    rw [if_pos rfl]
    by_cases h0 : w = 0
    · rw [if_pos h0]
      exact ev_ite_pos h0 (J word)
    · rw [if_neg h0]
      exact ev_ite_neg h0 (J w)
theorem srun_tells (l : List S111) (no word : Int) (a b : List Int) (h : ballotB (l.length : Int) no word a b = true) (hl : l.length ≤ 1048576) : Ev (fun k => spec_l12Run.f k l no word a b) ((runTold l no word a b).2, (runTold l no word a b).1) := by
  obtain ⟨wa, wb⟩ := ballotB_who h
  have hlen := askAll_len l no a
  have hA := sask_tells l no a wa hl
  unfold spec_l12Run.f runTold
  refine ev_bind hA ?_
  generalize askAll l no a = s at hlen ⊢
  obtain ⟨o, w, ok⟩ := s
  simp only at hlen ⊢
  have J : ∀ w, Ev (fun k => spec_l12Run.j0 k o w no word a b) ((takeTold l no w b o).2, (takeTold l no w b o).1) := fun w => by
    refine Ev.step (fun k => by rw [spec_l12Run.j0]) ?_
    refine ev_bind (stake_tells o no w b (wb o hlen) (by omega)) (ev_some_bind (sslow_tells _) ?_)
    unfold takeTold
    rw [hlen]
    generalize takeGo o no w b o [] = s
    obtain ⟨x, y⟩ := s
    by_cases hc : (y.length : Int) < slowB (l.length : Int)
    · refine ev_ite_pos hc ?_
      simp only [if_pos hc]
      exact ev_some fun _ => rfl
    · refine ev_ite_neg hc ?_
      simp only [if_neg hc]
      exact ev_some fun _ => rfl
  cases ok with
  | false => exact ev_ite_neg (by simp) (ev_some fun _ => by simp)
  | true =>
    refine ev_ite_pos rfl ?_
    rw [if_pos rfl]
    by_cases h0 : w = 0
    · rw [if_pos h0]
      exact ev_ite_pos h0 (J word)
    · rw [if_neg h0]
      exact ev_ite_neg h0 (J w)

theorem szplace (l : List S113) (hl : l.length ≤ maxLen) : laws_szPlaceS.f l 1048576 = some (if 1048576 < (l.length : Int) then -1 else 1048576 - (l.length : Int)) := by
  have hm : maxLen ≤ 9223372036854775807 := by decide
  unfold laws_szPlaceS.f
  rw [w64 (by omega) (by omega)]
  split <;> split <;> first | rfl | omega

theorem szint (l : List Int) (a : Int) (h0 : 0 ≤ a) (h1 : a ≤ 1048576) (hl : l.length ≤ maxLen) : laws_szIntS.f l a = some (if a < (l.length : Int) then -1 else a - (l.length : Int)) := by
  have hm : maxLen ≤ 9223372036854775807 := by decide
  unfold laws_szIntS.f
  rw [w64 (by omega) (by omega)]
  split <;> split <;> first | rfl | omega

def convPlace (x : S113) : S111 := ⟨x.f0, x.f1, x.f2⟩
theorem toPlace_l (l : List S113) (hl : l.length ≤ 4611686018427387903) : ∀ (d i : Nat) (m : List S111), m.length = l.length → i + d = l.length → m.take i = (l.map convPlace).take i → Ev (fun k => laws_toPlaceS.l0 k l m (i : Int)) (l.map convPlace)
  | 0, i, m, hm, h, ht => ev_stop fun k => by
    rw [laws_toPlaceS.l0, if_neg (by omega)]
    rw [List.take_of_length_le (by omega), List.take_of_length_le (by simp; omega)] at ht
    rw [ht]
  | d + 1, i, m, hm, h, ht => by
    refine ev_step (toPlace_l l hl d (i + 1) (m.set i (convPlace (l.getD i z113))) (by simpa using hm) (by omega) ?_) fun k => by
      rw [laws_toPlaceS.l0, if_pos (by omega), if_pos (by omega)]
      unfold laws_toPlace.f
      rw [Option.bind_some, if_pos (by omega), next i (by omega)]
      rfl
    rw [List.take_succ_eq_append_getElem (by simp; omega), List.take_succ_eq_append_getElem (by simp; omega), List.take_set_of_le (Nat.le_refl i), ht]
    simp [List.getD, List.getElem?_eq_getElem (show i < l.length by omega)]
theorem toPlace_tells (l : List S113) (hl : l.length ≤ 1048576) : Ev (fun k => laws_toPlaceS.f k l) (l.map convPlace) := by
  refine Ev.congr (g := fun k => laws_toPlaceS.f k l) (fun k => ?_) (toPlace_l l (by omega) l.length 0 (List.replicate l.length z111) (by simp) (by omega) (by simp))
  unfold laws_toPlaceS.f
  rw [if_pos (by omega), if_pos (by omega), Int.toNat_natCast]
  rfl
theorem eqPlace_l (l : List S111) (hl : l.length ≤ 4611686018427387903) : ∀ (d i : Nat), i + d = l.length → Ev (fun k => laws_eqPlaceS.l0 k l l (i : Int)) true
  | 0, i, h => ev_stop fun k => by
    rw [laws_eqPlaceS.l0, if_neg (by omega)]
  | d + 1, i, h => by
    refine ev_step (eqPlace_l l hl d (i + 1) (by omega)) fun k => by
      rw [laws_eqPlaceS.l0, if_pos (by omega), if_pos (by omega), if_pos (by omega)]
      unfold laws_eqPlace.f
      simp [next i (by omega)]
theorem eqPlace_tells (l : List S111) (hl : l.length ≤ 4611686018427387903) : Ev (fun k => laws_eqPlaceS.f k l l) true := by
  refine Ev.congr (g := fun k => laws_eqPlaceS.f k l l) (fun k => ?_) (eqPlace_l l hl l.length 0 (by omega))
  unfold laws_eqPlaceS.f
  rw [if_pos rfl]
  rfl

theorem toints_l (l : List Int) (hl : l.length ≤ 4611686018427387904) : ∀ (d i : Nat) (m : List Int), m.length = l.length → i + d = l.length → m.take i = l.take i → Ev (fun k => laws_toIntS.l0 k l m (i : Int)) l
  | 0, i, m, hm, h, ht => ev_stop fun k => by
    rw [laws_toIntS.l0, if_neg (by omega)]
    rw [List.take_of_length_le (by omega), List.take_of_length_le (by omega)] at ht
    rw [ht]
  | d + 1, i, m, hm, h, ht => by
    have h1 : wrap64 ((i : Int) + 1) = ((i + 1 : Nat) : Int) := by rw [w64 (by omega) (by omega)]; omega
    refine ev_step (toints_l l hl d (i + 1) (m.set i (l.getD i 0)) (by simpa using hm) (by omega) ?_) fun k => by
      rw [laws_toIntS.l0, if_pos (by omega), if_pos (by omega), if_pos (by omega), h1, rdn, Int.toNat_natCast]
    rw [List.take_succ_eq_append_getElem (by simp; omega), List.take_succ_eq_append_getElem (by omega), List.take_set_of_le (Nat.le_refl i), ht]
    simp [List.getD, List.getElem?_eq_getElem (show i < l.length by omega)]
theorem toints_tells (l : List Int) (hl : l.length ≤ 35184372088832) : Ev (fun k => laws_toIntS.f k l) l := by
  refine Ev.congr (g := fun k => laws_toIntS.f k l) (fun k => ?_) (toints_l l (by omega) l.length 0 (List.replicate l.length 0) (by simp) (by omega) (by simp))
  unfold laws_toIntS.f
  rw [if_pos (by omega), if_pos (by omega), Int.toNat_natCast]
  rfl

theorem eqints_l (l : List Int) (hl : l.length ≤ 4611686018427387904) : ∀ (d i : Nat), i + d = l.length → Ev (fun k => laws_eqIntS.l0 k l l (i : Int)) true
  | 0, i, h => ev_stop fun k => by
    rw [laws_eqIntS.l0, if_neg (by omega)]
  | d + 1, i, h => by
    have h1 : wrap64 ((i : Int) + 1) = ((i + 1 : Nat) : Int) := by rw [w64 (by omega) (by omega)]; omega
    refine ev_step (eqints_l l hl d (i + 1) (by omega)) fun k => by
      rw [laws_eqIntS.l0, if_pos (by omega), if_pos (by omega), if_pos (by omega), if_pos rfl, h1]
theorem eqints_tells (l : List Int) (hl : l.length ≤ 4611686018427387904) : Ev (fun k => laws_eqIntS.f k l l) true := by
  refine Ev.congr (g := fun k => laws_eqIntS.f k l l) (fun k => ?_) (eqints_l l hl l.length 0 (by omega))
  unfold laws_eqIntS.f
  rw [if_pos rfl]
  rfl

/-- The rising numbers from m on. -/
def upFrom (m : Int) : Nat → List Int
  | 0 => []
  | n + 1 => m :: upFrom (m + 1) n
theorem upFrom_len (m : Int) : ∀ n, (upFrom m n).length = n
  | 0 => rfl
  | n + 1 => by rw [upFrom, List.length_cons, upFrom_len (m + 1) n]
theorem take_set_succ (l : List Int) (i : Nat) (m : Int) (h : i < l.length) : (l.set i m).take (i + 1) = l.take i ++ [m] := by
  rw [List.take_succ_eq_append_getElem (by simpa using h), List.take_set_of_le (Nat.le_refl i)]
  simp
theorem markInt_l : ∀ (d i : Nat) (l : List Int) (m : Int), i + d = l.length → 0 ≤ m → m + d ≤ 4611686018427387903 → l.length ≤ 4611686018427387903 → Ev (fun k => laws_markIntS.l0 k l m (i : Int)) (m + d, l.take i ++ upFrom m d)
  | 0, i, l, m, h, _, _, _ => ev_stop fun k => by
    rw [laws_markIntS.l0, if_neg (by omega), List.take_of_length_le (by omega)]
    simp [upFrom]
  | d + 1, i, l, m, h, hm, hb, hl => by
    have ih := markInt_l d (i + 1) (l.set i m) (m + 1) (by simpa using by omega) (by omega) (by omega) (by simpa using hl)
    rw [take_set_succ l i m (by omega), List.append_assoc] at ih
    have e : m + 1 + (d : Int) = m + ((d + 1 : Nat) : Int) := by omega
    rw [e] at ih
    exact ev_step ih fun k => by rw [laws_markIntS.l0, if_pos (by omega), if_pos (by omega), w64 (by omega) (by omega), next i (by omega), Int.toNat_natCast]
theorem markInt_tells (l : List Int) (m : Int) (hm : 0 ≤ m) (hb : m + l.length ≤ 4611686018427387903) : Ev (fun k => laws_markIntS.f k l m) (m + l.length, upFrom m l.length) := by
  have h := markInt_l l.length 0 l m (by omega) hm hb (by omega)
  rw [List.take_zero, List.nil_append] at h
  exact h

def upPlaces (m : Int) : Nat → List S111
  | 0 => []
  | n + 1 => ⟨m, m + 1, m + 2⟩ :: upPlaces (m + 3) n
theorem upPlaces_len (m : Int) : ∀ n, (upPlaces m n).length = n
  | 0 => rfl
  | n + 1 => by rw [upPlaces, List.length_cons, upPlaces_len (m + 3) n]
theorem rdPlace_set (l : List S111) (i : Nat) (v : S111) (h : i < l.length) : rd_T111 (l.set i v) i = v := by
  simp [rd_T111, List.getD, h]
theorem drop_place (l : List S111) (i : Nat) (h : i < l.length) : l.drop i = rd_T111 l i :: l.drop (i + 1) := by
  rw [List.drop_eq_getElem_cons h]
  simp [rd_T111, List.getD, List.getElem?_eq_getElem h]
theorem take_set_place (l : List S111) (i : Nat) (m : S111) (h : i < l.length) : (l.set i m).take (i + 1) = l.take i ++ [m] := by
  rw [List.take_succ_eq_append_getElem (by simpa using h), List.take_set_of_le (Nat.le_refl i)]
  simp
theorem markPlace_l : ∀ (d i : Nat) (l : List S111) (m : Int), i + d = l.length → l.length ≤ 4611686018427387903 → 0 ≤ m → m + 3 * d ≤ 4611686018427387903 → Ev (fun k => laws_markPlaceS.l0 k l m (i : Int)) (m + 3 * d, l.take i ++ upPlaces m d)
  | 0, i, l, m, h, _, _, _ => ev_stop fun k => by
    rw [laws_markPlaceS.l0, if_neg (by omega), List.take_of_length_le (by omega)]
    simp [upPlaces]
  | d + 1, i, l, m, h, hl, hm, hb => by
    have ih := markPlace_l d (i + 1) (l.set i ⟨m, m + 1, m + 2⟩) (m + 3) (by rw [List.length_set]; omega) (by rw [List.length_set]; omega) (by omega) (by omega)
    rw [take_set_place l i _ (by omega), List.append_assoc] at ih
    have e : m + 3 + 3 * (d : Int) = m + 3 * ((d + 1 : Nat) : Int) := by omega
    rw [e] at ih
    exact ev_step ih fun k => by
      rw [laws_markPlaceS.l0, if_pos (by omega), if_pos (by omega)]
      simp only [Option.bind_some, Int.toNat_natCast]
      rw [rdPlace_set _ _ _ (by omega)]
      rw [rdPlace_set _ _ _ (by rw [List.length_set]; omega)]
      simp only [List.set_set]
      rw [w64 (i := m + 1) (by omega) (by omega), w64 (i := m + 1 + 1) (by omega) (by omega), w64 (i := m + 1 + 1 + 1) (by omega) (by omega), next i (by omega), show m + 1 + 1 + 1 = m + 3 by omega, show m + 1 + 1 = m + 2 by omega]
theorem markPlace_tells (l : List S111) (m : Int) (hm : 0 ≤ m) (hb : m ≤ 1000000000) (hl : l.length ≤ 1048576) : Ev (fun k => laws_markPlaceS.f k l m) (m + 3 * l.length, upPlaces m l.length) := by
  have h := markPlace_l l.length 0 l m (by omega) (by omega) (by omega) (by omega)
  rw [List.take_zero, List.nil_append] at h
  exact h
theorem heldPlace_l (l : List S111) (hl : l.length ≤ 4611686018427387903) : ∀ (d i : Nat) (m : Int), i + d = l.length → l.drop i = upPlaces m d → 0 ≤ m → m + 3 * d ≤ 4611686018427387903 → Ev (fun k => laws_heldPlaceS.l0 k l m (i : Int)) (m + 3 * d)
  | 0, i, m, h, _, _, _ => ev_stop fun k => by
    rw [laws_heldPlaceS.l0, if_neg (by omega)]
    simp
  | d + 1, i, m, h, he, hm, hb => by
    rw [drop_place l i (by omega), upPlaces] at he
    injection he with e1 e2
    have ih := heldPlace_l l hl d (i + 1) (m + 3) (by omega) e2 (by omega) (by omega)
    have e : m + 3 + 3 * (d : Int) = m + 3 * ((d + 1 : Nat) : Int) := by omega
    rw [e] at ih
    exact ev_step ih fun k => by
      rw [laws_heldPlaceS.l0, if_pos (by omega), if_pos (by omega), e1, if_pos rfl, w64 (i := m + 1) (by omega) (by omega), if_pos rfl, w64 (i := m + 1 + 1) (by omega) (by omega), if_pos (show m + 2 = m + 1 + 1 by omega), w64 (i := m + 1 + 1 + 1) (by omega) (by omega), next i (by omega), show m + 1 + 1 + 1 = m + 3 by omega]
theorem heldPlace_tells (m : Int) (n : Nat) (hm : 0 ≤ m) (hb : m ≤ 1000000000) (hn : n ≤ 1048576) : Ev (fun k => laws_heldPlaceS.f k (upPlaces m n) m) (m + 3 * n) := by
  have h := heldPlace_l (upPlaces m n) (by rw [upPlaces_len]; omega) n 0 m (by rw [upPlaces_len]; omega) (by simp) hm (by omega)
  exact h

theorem runballot_same (l : List S111) (no word : Int) (a b : List Int) (hl : l.length ≤ 1048576) (ha : a.length ≤ 1048576) (hb : b.length ≤ 1048576) : ∃ r : List S111 × Int × Bool, Ev (fun k => spec_RunBallot.f k l no word a b) r ∧ Ev (fun k => impl_RunBallot.f k l no word a b) r ∧ r.1.length ≤ 1048576 := by
  have hg := sgood_tells l hl
  have sb := sballot_tells (l.length : Int) no word a b (by omega) (by omega) ha hb
  unfold spec_RunBallot.f impl_RunBallot.f
  rw [igood_tells]
  cases h1 : placesB l with
  | false =>
    rw [h1] at hg
    exact ⟨([], 0, false), ev_bind hg (ev_ite_neg (by simp) (ev_some fun _ => rfl)), ev_some fun _ => rfl, by simp⟩
  | true =>
    obtain ⟨q0, q1, _⟩ := placesB_ok h1
    have ib := iballot_tells (l.length : Int) no word a b (placesB_many h1) ha hb
    rw [h1] at hg
    cases h2 : ballotB (l.length : Int) no word a b with
    | false =>
      rw [h2] at sb ib
      exact ⟨([], 0, false), ev_bind hg (ev_ite_pos rfl (ev_bind sb (ev_ite_neg (by simp) (ev_some fun _ => rfl)))), ev_some_bind rfl (ev_ite_pos rfl (ev_bind ib (ev_ite_neg (by simp) (ev_some fun _ => rfl)))), by simp⟩
    | true =>
      rw [h2] at sb ib
      have hs := srun_tells l no word a b h2 hl
      have hi := irun_tells l no word a b h2 (by omega) hl
      have hlen := runTold_len l no word a b
      generalize runTold l no word a b = s at hs hi hlen
      obtain ⟨o, w⟩ := s
      simp only at hs hi hlen
      refine ⟨(o, w, true), ?_, ?_, by simp only; rw [hlen]; exact hl⟩
      · refine ev_bind hg (ev_ite_pos rfl (ev_bind sb (ev_ite_pos rfl (ev_some_bind rfl (ev_ite_pos (by simp; omega) ?_)))))
        exact ev_bind hs (ev_some fun _ => rfl)
      · refine ev_some_bind rfl (ev_ite_pos rfl (ev_bind ib (ev_ite_pos rfl ?_)))
        exact ev_bind hi (ev_some fun _ => rfl)
theorem FnExactRunBallot : laws_FnExactRunBallot.Good := by
  rintro l0 ⟨no, word, a, b⟩ ⟨hm, _⟩ ⟨_, _, ⟨ha0, _⟩, ⟨hb0, _⟩⟩
  simp only at ha0 hb0
  refine Ev.rounds ?_
  unfold laws_FnExactRunBallot.f
  rw [szplace l0 hm]
  refine Ev.congr (fun k => Option.bind_some ..) ?_
  by_cases hg : 1048576 < (l0.length : Int)
  · rw [if_pos hg]
    exact ev_ite_pos (by decide) (ev_some fun _ => rfl)
  rw [if_neg hg]
  refine ev_ite_neg (by omega) ?_
  have hsz : ∃ t, laws_szBallot.f no word a b (1048576 - (l0.length : Int)) = some t ∧ (0 ≤ t → a.length ≤ 1048576 ∧ b.length ≤ 1048576) := by
    unfold laws_szBallot.f
    rw [szint a _ (by omega) (by omega) ha0, Option.bind_some]
    by_cases h : 1048576 - (l0.length : Int) < (a.length : Int)
    · exact ⟨-1, by simp [h], by omega⟩
    · rw [if_neg h, if_neg (by omega), szint b _ (by omega) (by omega) hb0, Option.bind_some]
      by_cases h2 : 1048576 - (l0.length : Int) - (a.length : Int) < (b.length : Int)
      · exact ⟨-1, by simp [h2], by omega⟩
      · rw [if_neg h2, if_neg (by omega)]
        exact ⟨_, rfl, by omega⟩
  obtain ⟨z, hz, hzb⟩ := hsz
  refine ev_some_bind hz ?_
  by_cases hzn : z < 0
  · exact ev_ite_pos hzn (ev_some fun _ => rfl)
  refine ev_ite_neg hzn ?_
  obtain ⟨ha, hb⟩ := hzb (by omega)
  have hB : Ev (fun k => laws_toBallot.f k no word a b) (no, word, a, b) := by
    unfold laws_toBallot.f
    exact ev_bind (toints_tells a (by omega)) (ev_bind (toints_tells b (by omega)) (ev_some fun _ => rfl))
  have eB : Ev (fun k => laws_eqBallot.f k no word a b no word a b) true := by
    unfold laws_eqBallot.f
    exact ev_ite_pos rfl (ev_ite_pos rfl (ev_bind (eqints_tells a (by omega)) (ev_ite_pos rfl (ev_bind (eqints_tells b (by omega)) (ev_ite_pos rfl (ev_some fun _ => rfl))))))
  have hT := toPlace_tells l0 (by omega)
  have hl : (l0.map convPlace).length ≤ 1048576 := by simp; omega
  generalize l0.map convPlace = t at hT hl
  obtain ⟨⟨x, n, ok⟩, hs, hi, hx⟩ := runballot_same t no word a b hl ha hb
  simp only at hx
  have ex := eqPlace_tells x (by omega)
  have m0 := markPlace_tells t 1 (by omega) (by omega) hl
  have mB : ∃ r, 0 ≤ r.1 ∧ Ev (fun k => laws_markBallot.f k no word a b (1 + 3 * t.length)) r := by
    refine ⟨_, ?_, by
      unfold laws_markBallot.f
      exact ev_bind (markInt_tells a (1 + 3 * t.length) (by omega) (by omega)) (ev_bind (markInt_tells b (1 + 3 * t.length + a.length) (by omega) (by omega)) (ev_some fun _ => rfl))⟩
    simp only
    omega
  obtain ⟨rB, hr0, mB⟩ := mB
  have m1 := markPlace_tells x 1 (by omega) (by omega) hx
  have h1 := heldPlace_tells 1 x.length (by omega) (by omega) hx
  refine ev_bind hT (ev_bind hB (ev_bind hs (ev_bind hT (ev_bind hB (ev_bind hi (ev_bind ex (ev_ite_pos rfl (ev_ite_pos rfl ?_))))))))
  refine Ev.step (fun k => by rw [laws_FnExactRunBallot.j0]) ?_
  refine ev_ite_neg (by simp) (ev_bind hT (ev_bind (eqPlace_tells t (by omega)) (ev_ite_pos rfl (ev_bind hB (ev_bind eB (ev_ite_pos rfl (ev_bind m0 (ev_bind mB (ev_ite_neg (by omega) (ev_bind ex (ev_ite_pos rfl (ev_ite_pos rfl ?_))))))))))))
  refine Ev.step (fun k => by rw [laws_FnExactRunBallot.j1]) ?_
  refine ev_ite_neg (by simp) (ev_bind m1 (ev_bind h1 (ev_ite_neg (by omega) (ev_ite_pos rfl ?_))))
  refine ev_bind hT (ev_bind hB (ev_bind hi (ev_bind ex (ev_ite_pos rfl (ev_ite_pos rfl ?_)))))
  refine Ev.step (fun k => by rw [laws_FnExactRunBallot.j2]) ?_
  exact ev_ite_neg (by simp) (ev_bind h1 (ev_ite_neg (by omega) (ev_ite_pos rfl (ev_some fun _ => rfl))))

end Go.Proofs.Ytlabpbkeaelecaa.Pure
