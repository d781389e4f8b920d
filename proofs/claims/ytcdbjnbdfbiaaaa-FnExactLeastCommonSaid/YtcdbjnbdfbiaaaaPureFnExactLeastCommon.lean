/- The law FnExactLeastCommon: the program's function tells what the reference tells, for all arguments; here: of the two as plain functions of numbers and lists. -/
import Derived.Test.YtcdbjnbdfbiaaaaQFnExactLeastCommon
namespace Go.Proofs.Ytcdbjnbdfbiaaaa.Pure
open Go.RowKit Go.Proofs.Ytcdbjnbdfbiaaaa.PFnExactLeastCommon Go.Proofs.YtcdbjnbdfbiaaaaW.PrintWords Go.Proofs.YtcdbjnbdfbiaaaaW.PrintLast Go.Proofs.YtcdbjnbdfbiaaaaW.PrintMore
set_option linter.unusedVariables false
set_option linter.unusedSimpArgs false

theorem w64 {i : Int} (h0 : -9223372036854775808 ≤ i) (h1 : i ≤ 9223372036854775807) : wrap64 i = i := by
  unfold wrap64
  omega

theorem rdn (l : List Int) (i : Nat) : rd l (i : Int) = l.getD i 0 := by simp [rd]

/-- A round of a loop, then what it comes to. -/
theorem ev_step {α : Type} {g f : Nat → Option α} {r : α} (k : Ev f r) (h : ∀ k, g (k + 1) = f k) : Ev g r := Ev.step h k
theorem ev_some {α : Type} {g : Nat → Option α} {r : α} (h : ∀ k, g k = some r) : Ev g r := ⟨0, fun k _ => h k⟩
theorem ev_stop {α : Type} {g : Nat → Option α} {r : α} (h : ∀ k, g (k + 1) = some r) : Ev g r := Ev.step h (Ev.now r)
theorem ev_bind {α β : Type} {g : Nat → Option α} {f : Nat → α → Option β} {a : α} {r : β} (h : Ev g a) (k : Ev (fun n => f n a) r) : Ev (fun n => (g n).bind (f n)) r := Ev.bind h k
theorem ev_some_bind {α β : Type} {g : Option α} {f : Nat → α → Option β} {a : α} {r : β} (h : g = some a) (k : Ev (fun n => f n a) r) : Ev (fun n => g.bind (f n)) r := by
  subst h
  exact k
theorem ev_ite_pos {α : Type} {c : Prop} [Decidable c] {g f : Nat → Option α} {r : α} (hc : c) (h : Ev g r) : Ev (fun n => if c then g n else f n) r := Ev.congr (fun _ => if_pos hc) h
theorem ev_ite_neg {α : Type} {c : Prop} [Decidable c] {g f : Nat → Option α} {r : α} (hc : ¬ c) (h : Ev f r) : Ev (fun n => if c then g n else f n) r := Ev.congr (fun _ => if_neg hc) h

theorem within_tells (a b c : Int) : impl_within.f a b c = some (decide (b ≤ a) && decide (a ≤ c)) := by
  unfold impl_within.f
  by_cases h : a ≥ b
  · rw [if_pos h]; simp [show b ≤ a from h]
  · rw [if_neg h]; simp [show ¬ b ≤ a from h]

theorem sin_tells (a b c : Int) : spec_l1In.f a b c = some (decide (b ≤ a) && decide (a ≤ c)) := by
  unfold spec_l1In.f
  by_cases h : a ≥ b
  · rw [if_pos h]; simp [show b ≤ a from h]
  · rw [if_neg h]; simp [show ¬ b ≤ a from h]

def manyB (n : Int) : Bool := (decide (3 ≤ n) && decide (n ≤ 9)) && (Int.tmod n 2 == 1)
theorem many_tells (n : Int) : impl_isMany.f n = some (manyB n) := by
  unfold impl_isMany.f manyB
  rw [within_tells, Option.bind_some]
  cases (decide (3 ≤ n) && decide (n ≤ 9)) <;> simp
theorem smany_tells (n : Int) : spec_l11Places.f n = some (manyB n) := by
  unfold spec_l11Places.f manyB
  rw [sin_tells, Option.bind_some]
  cases (decide (3 ≤ n) && decide (n ≤ 9)) <;> simp
theorem many_bd {n : Int} (h : manyB n = true) : 3 ≤ n ∧ n ≤ 9 := by
  unfold manyB at h
  simp only [Bool.and_eq_true, decide_eq_true_eq] at h
  omega

def inB (a b x : Int) : Bool := decide (a ≤ x) && decide (x ≤ b)
theorem drop_at (l : List Int) (i : Nat) (h : i < l.length) : l.drop i = l.getD i 0 :: l.drop (i + 1) := by
  rw [List.drop_eq_getElem_cons h]
  simp [List.getD, List.getElem?_eq_getElem h]
theorem sall_l (l : List Int) (a b : Int) (hl : l.length ≤ 4611686018427387904) : ∀ (d i : Nat), i + d = l.length → Ev (fun k => spec_l1All.l0 k a b l (l.length : Int) (i : Int)) ((l.drop i).all (inB a b))
  | 0, i, h => ev_stop fun k => by
    rw [spec_l1All.l0, if_neg (by omega), List.drop_of_length_le (by omega)]
    rfl
  | d + 1, i, h => by
    have ih := sall_l l a b hl d (i + 1) (by omega)
    have h1 : wrap64 ((i : Int) + 1) = ((i + 1 : Nat) : Int) := by rw [w64 (by omega) (by omega)]; omega
    rw [drop_at l i (by omega), List.all_cons]
    refine Ev.step (f := fun k => if inB a b (l.getD i 0) = true then spec_l1All.l0 k a b l (l.length : Int) ((i + 1 : Nat) : Int) else some false) (fun k => by
      rw [spec_l1All.l0, if_pos (by omega), if_pos (by omega), if_pos (by omega), sin_tells, Option.bind_some, h1, rdn]
      rfl) ?_
    cases inB a b (l.getD i 0) with
    | true => simpa using ih
    | false => exact ⟨0, fun k _ => by simp⟩
theorem sall_tells (l : List Int) (a b : Int) (hl : l.length ≤ 4611686018427387904) : Ev (fun k => spec_l1All.f k l a b) (l.all (inB a b)) := by
  have h := sall_l l a b hl l.length 0 (by omega)
  rw [List.drop_zero] at h
  exact h

theorem toints_l (l : List Int) (hl : l.length ≤ 4611686018427387904) : ∀ (d i : Nat) (m : List Int), m.length = l.length → i + d = l.length → m.take i = l.take i → Ev (fun k => laws_toIntS.l0 k l m (i : Int)) l
  | 0, i, m, hm, h, ht => ev_stop fun k => by
    rw [laws_toIntS.l0, if_neg (by omega)]
    rw [List.take_of_length_le (by omega), List.take_of_length_le (by omega)] at ht
    rw [ht]
  | d + 1, i, m, hm, h, ht => by
    have h1 : wrap64 ((i : Int) + 1) = ((i + 1 : Nat) : Int) := by rw [w64 (by omega) (by omega)]; omega
    refine ev_step (toints_l l hl d (i + 1) (m.set i (l.getD i 0)) (by simpa using hm) (by omega) ?_) fun k => by
      rw [laws_toIntS.l0, if_pos (by omega), if_pos (by omega), if_pos (by omega), h1, rdn, Int.toNat_natCast]
    rw [List.take_succ_eq_append_getElem (by simp; omega), List.take_succ_eq_append_getElem (by omega), List.take_set_of_le (Nat.le_refl i), ht]
    simp [List.getD, List.getElem?_eq_getElem (show i < l.length by omega)]
theorem toints_tells (l : List Int) (hl : l.length ≤ 35184372088832) : Ev (fun k => laws_toIntS.f k l) l := by
  refine Ev.congr (g := fun k => laws_toIntS.f k l) (fun k => ?_) (toints_l l (by omega) l.length 0 (List.replicate l.length 0) (by simp) (by omega) (by simp))
  unfold laws_toIntS.f
  rw [if_pos (by omega), if_pos (by omega), Int.toNat_natCast]
  rfl

theorem eqints_l (l : List Int) (hl : l.length ≤ 4611686018427387904) : ∀ (d i : Nat), i + d = l.length → Ev (fun k => laws_eqIntS.l0 k l l (i : Int)) true
  | 0, i, h => ev_stop fun k => by
    rw [laws_eqIntS.l0, if_neg (by omega)]
  | d + 1, i, h => by
    have h1 : wrap64 ((i : Int) + 1) = ((i + 1 : Nat) : Int) := by rw [w64 (by omega) (by omega)]; omega
    refine ev_step (eqints_l l hl d (i + 1) (by omega)) fun k => by
      rw [laws_eqIntS.l0, if_pos (by omega), if_pos (by omega), if_pos (by omega), if_pos rfl, h1]
theorem eqints_tells (l : List Int) (hl : l.length ≤ 4611686018427387904) : Ev (fun k => laws_eqIntS.f k l l) true := by
  refine Ev.congr (g := fun k => laws_eqIntS.f k l l) (fun k => ?_) (eqints_l l hl l.length 0 (by omega))
  unfold laws_eqIntS.f
  rw [if_pos rfl]
  rfl

def sumW (s : Int) (l : List Int) : Int := l.foldl (fun s x => wrap64 (s + x)) s
def leastOf (n : Int) (len : Int) (s : Int) : Int := mx 0 (wrap64 (s - wrap64 (wrap64 (len - 1) * n)))
theorem most_tells (a b : Int) : spec_l1Most.f a b = some (mx a b) := by
  unfold spec_l1Most.f mx
  by_cases h : a > b
  · rw [if_pos h, if_neg (by omega)]
  · rw [if_neg h]
    by_cases h2 : a < b
    · rw [if_pos h2]
    · rw [if_neg h2, show a = b by omega]
theorem least_s (n : Int) (l : List Int) (hl : l.length ≤ 4611686018427387904) : ∀ (d i : Nat) (s : Int), i + d = l.length → Ev (fun k => spec_LeastCommon.l0 k n l s l (l.length : Int) (i : Int)) (leastOf n l.length (sumW s (l.drop i)), true)
  | 0, i, s, h => ev_stop fun k => by
    rw [spec_LeastCommon.l0, if_neg (by omega), most_tells, List.drop_of_length_le (by omega)]
    rfl
  | d + 1, i, s, h => by
    have ih := least_s n l hl d (i + 1) (wrap64 (s + l.getD i 0)) (by omega)
    have h1 : wrap64 ((i : Int) + 1) = ((i + 1 : Nat) : Int) := by rw [w64 (by omega) (by omega)]; omega
    rw [drop_at l i (by omega)]
    exact ev_step ih fun k => by
      rw [spec_LeastCommon.l0, if_pos (by omega), if_pos (by omega), if_pos (by omega), h1, rdn]
theorem least_i (n : Int) (l : List Int) (hl : l.length ≤ 4611686018427387904) : ∀ (d i : Nat) (s : Int), i + d = l.length → Ev (fun k => impl_LeastCommon.l0 k n l s l (l.length : Int) (i : Int)) (if (l.drop i).all (inB 0 n) = true then (leastOf n l.length (sumW s (l.drop i)), true) else (0, false))
  | 0, i, s, h => ev_stop fun k => by
    rw [impl_LeastCommon.l0, if_neg (by omega), List.drop_of_length_le (by omega)]
    rfl
  | d + 1, i, s, h => by
    have ih := least_i n l hl d (i + 1) (wrap64 (s + l.getD i 0)) (by omega)
    have h1 : wrap64 ((i : Int) + 1) = ((i + 1 : Nat) : Int) := by rw [w64 (by omega) (by omega)]; omega
    rw [drop_at l i (by omega), List.all_cons]
    refine Ev.step (f := fun k => if inB 0 n (l.getD i 0) = true then impl_LeastCommon.l0 k n l (wrap64 (s + l.getD i 0)) l (l.length : Int) ((i + 1 : Nat) : Int) else some (0, false)) (fun k => by
      rw [impl_LeastCommon.l0, if_pos (by omega), if_pos (by omega), if_pos (by omega), within_tells, Option.bind_some, h1, rdn]
      rfl) ?_
    cases inB 0 n (l.getD i 0) with
    | true => simpa [sumW] using ih
    | false => exact ⟨0, fun k _ => by simp⟩
theorem least_same (n : Int) (l : List Int) (hl : l.length ≤ 1048576) : ∃ x, Ev (fun k => spec_LeastCommon.f k n l) x ∧ Ev (fun k => impl_LeastCommon.f k n l) x := by
  have stopS : Ev (fun k => spec_LeastCommon.j0 k n l true) (0, false) := ev_stop fun k => by rw [spec_LeastCommon.j0, if_pos rfl]
  have stopI : Ev (fun k => impl_LeastCommon.j0 k n l true) (0, false) := ev_stop fun k => by rw [impl_LeastCommon.j0, if_pos rfl]
  cases hm : manyB n with
  | false =>
    refine ⟨(0, false), ?_, ?_⟩
    · unfold spec_LeastCommon.f
      simpa only [smany_tells, hm, Option.bind_some, Bool.false_eq_true, ↓reduceIte] using stopS
    · unfold impl_LeastCommon.f
      simpa only [many_tells, hm, Option.bind_some, Bool.false_eq_true, ↓reduceIte] using stopI
  | true =>
    cases hw : inB 1 4 (l.length : Int) with
    | false =>
      unfold inB at hw
      refine ⟨(0, false), ?_, ?_⟩
      · unfold spec_LeastCommon.f
        simpa only [smany_tells, hm, sin_tells, hw, Option.bind_some, Bool.false_eq_true, ↓reduceIte] using stopS
      · unfold impl_LeastCommon.f
        simpa only [many_tells, hm, within_tells, hw, Option.bind_some, Bool.false_eq_true, Bool.not_false, ↓reduceIte] using stopI
    | true =>
      unfold inB at hw
      refine ⟨if l.all (inB 0 n) = true then (leastOf n l.length (sumW 0 l), true) else (0, false), ?_, ?_⟩
      · unfold spec_LeastCommon.f
        simp only [smany_tells, hm, sin_tells, hw, Option.bind_some, ↓reduceIte]
        refine ev_bind (sall_tells l 0 n (by omega)) ?_
        cases l.all (inB 0 n) with
        | false => simpa using stopS
        | true =>
          have h := least_s n l (by omega) l.length 0 0 (by omega)
          rw [List.drop_zero] at h
          exact ev_step h fun k => by rw [spec_LeastCommon.j0]; rfl
      · unfold impl_LeastCommon.f
        simp only [many_tells, hm, within_tells, hw, Option.bind_some, ↓reduceIte]
        have h := least_i n l (by omega) l.length 0 0 (by omega)
        rw [List.drop_zero] at h
        exact ev_step h fun k => by rw [impl_LeastCommon.j0]; rfl
theorem FnExactLeastCommon : laws_FnExactLeastCommon.Good := by
  intro a0 l1 _ ⟨_, _⟩
  refine Ev.rounds ?_
  unfold laws_FnExactLeastCommon.f
  by_cases hg : (l1.length : Int) > 1048576
  · exact ev_ite_pos hg (ev_some fun _ => rfl)
  refine ev_ite_neg hg ?_
  have hT := toints_tells l1 (by omega)
  obtain ⟨x, hs, hi⟩ := least_same a0 l1 (by omega)
  refine ev_bind hT (ev_bind hs (ev_bind hT (ev_bind hi ?_)))
  refine Ev.congr (f := fun k => laws_FnExactLeastCommon.j0 k l1 l1 false) (fun k => by simp) ?_
  refine Ev.step (fun k => by rw [laws_FnExactLeastCommon.j0]) ?_
  refine ev_ite_neg (by simp) (ev_bind hT (ev_bind (eqints_tells l1 (by omega)) (ev_some fun _ => rfl)))

end Go.Proofs.Ytcdbjnbdfbiaaaa.Pure
