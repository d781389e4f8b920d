/- The law FnSizes: the program's function tells what the reference tells, for all arguments; here: of the two as plain functions of numbers and lists. -/
import Derived.Test.YtfhhjfhogepfpaaQFnSizes
namespace Go.Proofs.Ytfhhjfhogepfpaa.Pure
open Go.RowKit Go.Proofs.Ytfhhjfhogepfpaa.PFnSizes Go.Proofs.YtfhhjfhogepfpaaW.PrintWords Go.Proofs.YtfhhjfhogepfpaaW.PrintLast Go.Proofs.YtfhhjfhogepfpaaW.PrintMore
set_option linter.unusedVariables false
set_option linter.unusedSimpArgs false
set_option linter.unnecessarySimpa false

theorem w64 {i : Int} (h0 : -9223372036854775808 ≤ i) (h1 : i ≤ 9223372036854775807) : wrap64 i = i := by
  unfold wrap64
  omega

theorem rdn (l : List Int) (i : Nat) : rd l (i : Int) = l.getD i 0 := by simp [rd]

/-- A round of a loop, then what it comes to. -/
theorem ev_step {α : Type} {g f : Nat → Option α} {r : α} (k : Ev f r) (h : ∀ k, g (k + 1) = f k) : Ev g r := Ev.step h k
theorem ev_some {α : Type} {g : Nat → Option α} {r : α} (h : ∀ k, g k = some r) : Ev g r := ⟨0, fun k _ => h k⟩
theorem ev_stop {α : Type} {g : Nat → Option α} {r : α} (h : ∀ k, g (k + 1) = some r) : Ev g r := Ev.step h (Ev.now r)
theorem ev_bind {α β : Type} {g : Nat → Option α} {f : Nat → α → Option β} {a : α} {r : β} (h : Ev g a) (k : Ev (fun n => f n a) r) : Ev (fun n => (g n).bind (f n)) r := Ev.bind h k
theorem ev_some_bind {α β : Type} {g : Option α} {f : Nat → α → Option β} {a : α} {r : β} (h : g = some a) (k : Ev (fun n => f n a) r) : Ev (fun n => g.bind (f n)) r := by
  subst h
  exact k
theorem ev_ite_pos {α : Type} {c : Prop} [Decidable c] {g f : Nat → Option α} {r : α} (hc : c) (h : Ev g r) : Ev (fun n => if c then g n else f n) r := Ev.congr (fun _ => if_pos hc) h
theorem ev_ite_neg {α : Type} {c : Prop} [Decidable c] {g f : Nat → Option α} {r : α} (hc : ¬ c) (h : Ev f r) : Ev (fun n => if c then g n else f n) r := Ev.congr (fun _ => if_neg hc) h

def inB (a b x : Int) : Bool := decide (a ≤ x) && decide (x ≤ b)
theorem drop_at (l : List Int) (i : Nat) (h : i < l.length) : l.drop i = l.getD i 0 :: l.drop (i + 1) := by
  rw [List.drop_eq_getElem_cons h]
  simp [List.getD, List.getElem?_eq_getElem h]
/-- What a search for a fault comes to, round by round. -/
theorem all_ends {F : Nat → Nat → Option Bool} {p : Nat → Bool} {r : Bool} {n : Nat} (stop : Ev (fun k => F k n) r) (go : ∀ i, i < n → p i = true → ∀ q, Ev (fun k => F k (i + 1)) q → Ev (fun k => F k i) q) (no : ∀ i, i < n → p i = false → Ev (fun k => F k i) false) :
    ∀ (d i : Nat), i + d = n → Ev (fun k => F k i) ((List.range' i d).all p && r)
  | 0, i, h => by
    obtain rfl : i = n := by omega
    simpa using stop
  | d + 1, i, h => by
    have ih := all_ends stop go no d (i + 1) (by omega)
    rw [List.range'_succ, List.all_cons, Bool.and_assoc]
    cases hp : p i with
    | true => simpa using go i (by omega) hp _ ih
    | false => simpa using no i (by omega) hp
theorem all_from {F : Nat → Nat → Option Bool} {p : Nat → Bool} {r : Bool} {n : Nat} (stop : Ev (fun k => F k n) r) (go : ∀ i, i < n → p i = true → ∀ q, Ev (fun k => F k (i + 1)) q → Ev (fun k => F k i) q) (no : ∀ i, i < n → p i = false → Ev (fun k => F k i) false) :
    Ev (fun k => F k 0) ((List.range n).all p && r) := by
  rw [List.range_eq_range']
  exact all_ends stop go no n 0 (by omega)
theorem next (i : Nat) (h : i < 4611686018427387904) : wrap64 ((i : Int) + 1) = ((i + 1 : Nat) : Int) := by
  rw [w64 (by omega) (by omega)]
  omega

theorem u8_of {x : Int} (h : (Lit.int .u8 x).wf = true) : 0 ≤ x ∧ x ≤ 255 := by
  simp [Lit.wf, IntKind.min, IntKind.max, IntKind.bits, IntKind.signed] at h
  omega
theorem and255 (x : Int) (h0 : 0 ≤ x) (h1 : x < 18446744073709551616) : 0 ≤ Go.bits .and .u64 x 255 ∧ Go.bits .and .u64 x 255 ≤ 255 := by
  have h := bits_mask .u64 64 (by decide) (fun n h0 h1 => by rw [IntKind.wrap_u64]; omega) 8 (by decide) x h0 (by omega)
  have e : Go.bits .and .u64 x 255 = x % 256 := by simpa using h
  rw [e]
  omega
theorem u64w (x : Int) : 0 ≤ IntKind.u64.wrap x ∧ IntKind.u64.wrap x < 18446744073709551616 := by
  rw [IntKind.wrap_u64]
  omega
theorem next_ok (code : List Int) (hc : ∀ x ∈ code, 0 ≤ x ∧ x ≤ 255) (x1 x2 : Int) (h0 : 0 ≤ x1) (h1 : x1 ≤ 1000000) : ∃ r1 r3, spec_l1Cur_next.f code x1 x2 = some (r1, x1 + 1, r3) ∧ 0 ≤ r1 ∧ r1 ≤ 255 := by
  have ew : wrap64 (x1 + 1) = x1 + 1 := w64 (by omega) (by omega)
  have hb : ∀ s : Int, 0 ≤ wrap64 (Go.bits .and .u64 (IntKind.u64.wrap s / 1099511627776) 255) ∧ wrap64 (Go.bits .and .u64 (IntKind.u64.wrap s / 1099511627776) 255) ≤ 255 := fun s => by
    have h := u64w s
    have h2 := and255 (IntKind.u64.wrap s / 1099511627776) (by omega) (by omega)
    rw [w64 (by omega) (by omega)]
    exact h2
  unfold spec_l1Cur_next.f
  rw [ew]
  by_cases c1 : x1 < (code.length : Int)
  · obtain ⟨i, rfl⟩ := Int.eq_ofNat_of_zero_le h0
    have hx := hc (rd code (i : Int)) (by rw [rdn, List.getD_eq_getElem?_getD, List.getElem?_eq_getElem (show i < code.length by omega)]; exact List.getElem_mem _)
    rw [if_pos c1, if_pos h0]
    by_cases c2 : (i : Int) + 1 ≤ (code.length : Int)
    · rw [if_pos c2]
      exact ⟨_, _, rfl, by rw [w64 (by omega) (by omega)]; omega, by rw [w64 (by omega) (by omega)]; omega⟩
    · rw [if_neg c2]
      exact ⟨_, _, rfl, (hb _).1, (hb _).2⟩
  · rw [if_neg c1]
    by_cases c2 : x1 + 1 ≤ (code.length : Int)
    · rw [if_pos c2]
      exact ⟨_, _, rfl, by omega, by omega⟩
    · rw [if_neg c2]
      exact ⟨_, _, rfl, (hb _).1, (hb _).2⟩
theorem pick_ok (code : List Int) (hc : ∀ x ∈ code, 0 ≤ x ∧ x ≤ 255) (x1 x2 a : Int) (h0 : 0 ≤ x1) (h1 : x1 ≤ 1000000) (ha : a ≤ 200) : ∃ r1 r2 r3, spec_l1Cur_pick.f code x1 x2 a = some (r1, r2, r3) ∧ 0 ≤ r1 ∧ (1 ≤ a → r1 < a) ∧ 0 ≤ r2 ∧ r2 ≤ x1 + 1 := by
  unfold spec_l1Cur_pick.f
  by_cases c1 : a ≤ 1
  · rw [if_pos c1]
    exact ⟨0, x1, x2, rfl, by omega, by omega, by omega, by omega⟩
  · obtain ⟨r1, r3, hr, b0, b1⟩ := next_ok code hc x1 x2 h0 h1
    rw [if_neg c1, hr, Option.bind_some, if_neg (by omega), if_neg (by omega)]
    exact ⟨Int.tmod r1 a, x1 + 1, r3, rfl, Int.tmod_nonneg _ b0, fun _ => Int.tmod_lt_of_pos _ (by omega), by omega, by omega⟩
theorem places_ok (code : List Int) (hc : ∀ x ∈ code, 0 ≤ x ∧ x ≤ 255) : ∃ n r2 r3, spec_l1Cur_places.f code 0 0 = some (n, r2, r3) ∧ 2 ≤ n ∧ n ≤ 11 ∧ 0 ≤ r2 ∧ r2 ≤ 1 := by
  unfold spec_l1Cur_places.f spec_l1Cur_among.f
  obtain ⟨r1, r2, r3, hr, b0, b1, b2, b3⟩ := pick_ok code hc 0 0 8 (by omega) (by omega) (by omega)
  have e : (([3, 5, 5, 7, 9, 2, 4, 11] : List Int).length : Int) = 8 := rfl
  have b1 := b1 (by omega)
  rw [e, hr, Option.bind_some, if_pos b0, if_pos b1, Option.bind_some]
  have hv : r1 = 0 ∨ r1 = 1 ∨ r1 = 2 ∨ r1 = 3 ∨ r1 = 4 ∨ r1 = 5 ∨ r1 = 6 ∨ r1 = 7 := by omega
  refine ⟨rd ([3, 5, 5, 7, 9, 2, 4, 11] : List Int) r1, r2, r3, rfl, ?_, ?_, b2, by omega⟩ <;> rcases hv with h | h | h | h | h | h | h | h <;> subst h <;> decide
theorem drawL_ok (n : Int) (hn : n ≤ 100) (code : List Int) (hc : ∀ x ∈ code, 0 ≤ x ∧ x ≤ 255) : ∀ (m : Nat) (x1 x2 : Int) (l : List Int), 0 ≤ x1 → x1 + m ≤ 1000 → n + 2 ≤ 200 → -1000 ≤ n → ∃ l', drawL n code m x1 x2 l = some l' ∧ l'.length = l.length + m
  | 0, _, _, l, _, _, _, _ => ⟨l, rfl, rfl⟩
  | m + 1, x1, x2, l, h0, h1, h2, h3 => by
    obtain ⟨r1, r2, r3, hr, b0, b1, b2, b3⟩ := pick_ok code hc x1 x2 (wrap64 (n + 2)) h0 (by omega) (by rw [w64 (by omega) (by omega)]; omega)
    obtain ⟨l', hl, he⟩ := drawL_ok n hn code hc m r2 r3 (l ++ [r1]) b2 (by omega) h2 h3
    rw [drawL, hr, Option.bind_some]
    exact ⟨l', hl, by rw [he, List.length_append, List.length_singleton]; omega⟩
theorem drawLeast_ok (code : List Int) (hc : ∀ x ∈ code, 0 ≤ x ∧ x ≤ 255) : ∃ n l, spec_DrawLeastCommon.f code = some (n, l) ∧ 2 ≤ n ∧ n ≤ 11 ∧ l.length ≤ 6 := by
  unfold spec_DrawLeastCommon.f
  obtain ⟨n, r2, r3, hn, n0, n1, n2, n3⟩ := places_ok code hc
  obtain ⟨p1, p2, p3, hp, b0, b1, b2, b3⟩ := pick_ok code hc r2 r3 6 n2 (by omega) (by omega)
  have b1 := b1 (by omega)
  obtain ⟨l, hl, he⟩ := drawL_ok n (by omega) code hc p1.toNat p2 p3 [] b2 (by omega) (by omega) (by omega)
  rw [hn, Option.bind_some, hp, Option.bind_some, if_pos ⟨b0, by omega⟩, hl, Option.bind_some]
  exact ⟨n, l, rfl, n0, n1, by rw [he]; simp; omega⟩
theorem drawSlow_ok (code : List Int) (hc : ∀ x ∈ code, 0 ≤ x ∧ x ≤ 255) : ∃ u, spec_DrawSlowSize.f code = some u := by
  unfold spec_DrawSlowSize.f
  obtain ⟨n, r2, r3, hn, _⟩ := places_ok code hc
  rw [hn, Option.bind_some]
  exact ⟨n, rfl⟩
theorem drawGroup_ok (code : List Int) (hc : ∀ x ∈ code, 0 ≤ x ∧ x ≤ 255) : ∃ v s q, spec_DrawGroupBy.f code = some (v, s, q) := by
  unfold spec_DrawGroupBy.f
  obtain ⟨n, r2, r3, hn, n0, n1, n2, n3⟩ := places_ok code hc
  obtain ⟨p1, p2, p3, hp, _, _, b2, b3⟩ := pick_ok code hc r2 r3 (wrap64 (n + 2)) n2 (by omega) (by rw [w64 (by omega) (by omega)]; omega)
  obtain ⟨q1, q2, q3, hq, _, _, c2, c3⟩ := pick_ok code hc p2 p3 (wrap64 (n + 1)) b2 (by omega) (by rw [w64 (by omega) (by omega)]; omega)
  obtain ⟨s1, s2, s3, hs, _⟩ := pick_ok code hc q2 q3 9 c2 (by omega) (by omega)
  rw [hn, Option.bind_some, hp, Option.bind_some, hq, Option.bind_some, hs, Option.bind_some]
  exact ⟨_, _, _, rfl⟩

theorem within_tells (a b c : Int) : impl_within.f a b c = some (decide (b ≤ a) && decide (a ≤ c)) := by
  unfold impl_within.f
  by_cases h : a ≥ b
  · rw [if_pos h]; simp [show b ≤ a from h]
  · rw [if_neg h]; simp [show ¬ b ≤ a from h]

theorem sin_tells (a b c : Int) : spec_l1In.f a b c = some (decide (b ≤ a) && decide (a ≤ c)) := by
  unfold spec_l1In.f
  by_cases h : a ≥ b
  · rw [if_pos h]; simp [show b ≤ a from h]
  · rw [if_neg h]; simp [show ¬ b ≤ a from h]

def manyB (n : Int) : Bool := (decide (3 ≤ n) && decide (n ≤ 9)) && (Int.tmod n 2 == 1)
theorem many_tells (n : Int) : impl_isMany.f n = some (manyB n) := by
  unfold impl_isMany.f manyB
  rw [within_tells, Option.bind_some]
  cases (decide (3 ≤ n) && decide (n ≤ 9)) <;> simp
theorem smany_tells (n : Int) : spec_l11Places.f n = some (manyB n) := by
  unfold spec_l11Places.f manyB
  rw [sin_tells, Option.bind_some]
  cases (decide (3 ≤ n) && decide (n ≤ 9)) <;> simp
theorem many_bd {n : Int} (h : manyB n = true) : 3 ≤ n ∧ n ≤ 9 := by
  unfold manyB at h
  simp only [Bool.and_eq_true, decide_eq_true_eq] at h
  omega

theorem sall_l (l : List Int) (a b : Int) (hl : l.length ≤ 4611686018427387904) : ∀ (d i : Nat), i + d = l.length → Ev (fun k => spec_l1All.l0 k a b l (l.length : Int) (i : Int)) ((l.drop i).all (inB a b))
  | 0, i, h => ev_stop fun k => by
    rw [spec_l1All.l0, if_neg (by omega), List.drop_of_length_le (by omega)]
    rfl
  | d + 1, i, h => by
    have ih := sall_l l a b hl d (i + 1) (by omega)
    have h1 : wrap64 ((i : Int) + 1) = ((i + 1 : Nat) : Int) := by rw [w64 (by omega) (by omega)]; omega
    rw [drop_at l i (by omega), List.all_cons]
    refine Ev.step (f := fun k => if inB a b (l.getD i 0) = true then spec_l1All.l0 k a b l (l.length : Int) ((i + 1 : Nat) : Int) else some false) (fun k => by
      rw [spec_l1All.l0, if_pos (by omega), if_pos (by omega), if_pos (by omega), sin_tells, Option.bind_some, h1, rdn]
      rfl) ?_
    cases inB a b (l.getD i 0) with
    | true => simpa using ih
    | false => exact ⟨0, fun k _ => by simp⟩
theorem sall_tells (l : List Int) (a b : Int) (hl : l.length ≤ 4611686018427387904) : Ev (fun k => spec_l1All.f k l a b) (l.all (inB a b)) := by
  have h := sall_l l a b hl l.length 0 (by omega)
  rw [List.drop_zero] at h
  exact h

def sumW (s : Int) (l : List Int) : Int := l.foldl (fun s x => wrap64 (s + x)) s
def leastOf (n : Int) (len : Int) (s : Int) : Int := mx 0 (wrap64 (s - wrap64 (wrap64 (len - 1) * n)))
theorem most_tells (a b : Int) : spec_l1Most.f a b = some (mx a b) := by
  unfold spec_l1Most.f mx
  by_cases h : a > b
  · rw [if_pos h, if_neg (by omega)]
  · rw [if_neg h]
    by_cases h2 : a < b
    · rw [if_pos h2]
    · rw [if_neg h2, show a = b by omega]
theorem least_s (n : Int) (l : List Int) (hl : l.length ≤ 4611686018427387904) : ∀ (d i : Nat) (s : Int), i + d = l.length → Ev (fun k => spec_LeastCommon.l0 k n l s l (l.length : Int) (i : Int)) (leastOf n l.length (sumW s (l.drop i)), true)
  | 0, i, s, h => ev_stop fun k => by
    rw [spec_LeastCommon.l0, if_neg (by omega), most_tells, List.drop_of_length_le (by omega)]
    rfl
  | d + 1, i, s, h => by
    have ih := least_s n l hl d (i + 1) (wrap64 (s + l.getD i 0)) (by omega)
    have h1 : wrap64 ((i : Int) + 1) = ((i + 1 : Nat) : Int) := by rw [w64 (by omega) (by omega)]; omega
    rw [drop_at l i (by omega)]
    exact ev_step ih fun k => by
      rw [spec_LeastCommon.l0, if_pos (by omega), if_pos (by omega), if_pos (by omega), h1, rdn]
theorem least_i (n : Int) (l : List Int) (hl : l.length ≤ 4611686018427387904) : ∀ (d i : Nat) (s : Int), i + d = l.length → Ev (fun k => impl_LeastCommon.l0 k n l s l (l.length : Int) (i : Int)) (if (l.drop i).all (inB 0 n) = true then (leastOf n l.length (sumW s (l.drop i)), true) else (0, false))
  | 0, i, s, h => ev_stop fun k => by
    rw [impl_LeastCommon.l0, if_neg (by omega), List.drop_of_length_le (by omega)]
    rfl
  | d + 1, i, s, h => by
    have ih := least_i n l hl d (i + 1) (wrap64 (s + l.getD i 0)) (by omega)
    have h1 : wrap64 ((i : Int) + 1) = ((i + 1 : Nat) : Int) := by rw [w64 (by omega) (by omega)]; omega
    rw [drop_at l i (by omega), List.all_cons]
    refine Ev.step (f := fun k => if inB 0 n (l.getD i 0) = true then impl_LeastCommon.l0 k n l (wrap64 (s + l.getD i 0)) l (l.length : Int) ((i + 1 : Nat) : Int) else some (0, false)) (fun k => by
      rw [impl_LeastCommon.l0, if_pos (by omega), if_pos (by omega), if_pos (by omega), within_tells, Option.bind_some, h1, rdn]
      rfl) ?_
    cases inB 0 n (l.getD i 0) with
    | true => simpa [sumW] using ih
    | false => exact ⟨0, fun k _ => by simp⟩

/-- A rising row: its numbers as a set. -/
abbrev Up (l : List Int) : Prop := l.Pairwise (· < ·)
theorem up_ext : ∀ {l m : List Int}, Up l → Up m → (∀ y, y ∈ l ↔ y ∈ m) → l = m
  | [], [], _, _, _ => rfl
  | [], b :: m, _, _, h => by simpa using (h b).2 (by simp)
  | a :: l, [], _, _, h => by simpa using (h a).1 (by simp)
  | a :: l, b :: m, hl, hm, h => by
    have l1 := List.pairwise_cons.1 hl
    have m1 := List.pairwise_cons.1 hm
    have e : a = b := by
      rcases List.mem_cons.1 ((h a).1 (by simp)) with e | e
      · exact e
      · rcases List.mem_cons.1 ((h b).2 (by simp)) with e2 | e2
        · exact e2.symm
        · have := l1.1 b e2
          have := m1.1 a e
          omega
    subst e
    congr 1
    refine up_ext l1.2 m1.2 fun y => ⟨fun hy => ?_, fun hy => ?_⟩
    · rcases List.mem_cons.1 ((h y).1 (List.mem_cons_of_mem _ hy)) with e | e
      · have := l1.1 y hy
        omega
      · exact e
    · rcases List.mem_cons.1 ((h y).2 (List.mem_cons_of_mem _ hy)) with e | e
      · have := m1.1 y hy
        omega
      · exact e
def ins (x : Int) : List Int → List Int
  | [] => [x]
  | a :: l => if a < x then a :: ins x l else if a = x then a :: l else x :: a :: l
theorem mem_ins (x y : Int) : ∀ l : List Int, y ∈ ins x l ↔ y = x ∨ y ∈ l
  | [] => by simp [ins]
  | a :: l => by
    unfold ins
    split
    · rw [List.mem_cons, mem_ins x y l, List.mem_cons]
      exact ⟨fun h => h.elim (fun h => .inr (.inl h)) (fun h => h.elim .inl (fun h => .inr (.inr h))), fun h => h.elim (fun h => .inr (.inl h)) (fun h => h.elim .inl (fun h => .inr (.inr h)))⟩
    · split
      · rename_i h
        subst h
        simp
      · simp
theorem up_ins (x : Int) : ∀ {l : List Int}, Up l → Up (ins x l)
  | [], _ => by simp [ins]
  | a :: l, h => by
    have h1 := List.pairwise_cons.1 h
    unfold ins
    split
    · rename_i hx
      refine List.pairwise_cons.2 ⟨fun y hy => ?_, up_ins x h1.2⟩
      rcases (mem_ins x y l).1 hy with e | e
      · omega
      · exact h1.1 y e
    · split
      · exact h
      · refine List.pairwise_cons.2 ⟨fun y hy => ?_, h⟩
        rcases List.mem_cons.1 hy with e | e
        · omega
        · have := h1.1 y e
          omega
theorem ins_len (x : Int) : ∀ l : List Int, (ins x l).length ≤ l.length + 1
  | [] => by simp [ins]
  | a :: l => by
    have := ins_len x l
    unfold ins
    split
    · simp; omega
    · split <;> simp
theorem upto_of {d : Array Int} (hs : ∀ i j, i ≤ j → j < d.size → d[i]! ≤ d[j]!) : ∀ m, m ≤ d.size → Up (Lib.compactUpTo d m) ∧ ∀ y, y ∈ Lib.compactUpTo d m ↔ ∃ j, j < m ∧ d[j]! = y
  | 0, _ => by simp [Lib.compactUpTo]
  | m + 1, hm => by
    obtain ⟨h1, h2⟩ := upto_of hs m (by omega)
    rw [Lib.compactUpTo_succ]
    by_cases hk : Lib.keeps d m = true
    · rw [if_pos hk]
      refine ⟨List.pairwise_append.2 ⟨h1, by simp, fun y hy z hz => ?_⟩, fun y => ?_⟩
      · obtain ⟨j, hj, rfl⟩ := (h2 y).1 hy
        obtain rfl : z = d[m]! := by simpa using hz
        have hne : d[m]! ≠ d[m - 1]! := by
          simp only [Lib.keeps, decide_eq_true_eq] at hk
          rcases hk with h | h
          · omega
          · exact h
        have a1 := hs j (m - 1) (by omega) (by omega)
        have a2 := hs (m - 1) m (by omega) (by omega)
        omega
      · rw [List.mem_append, h2]
        constructor
        · rintro (⟨j, hj, e⟩ | e)
          · exact ⟨j, by omega, e⟩
          · exact ⟨m, by omega, (List.mem_singleton.1 e).symm⟩
        · rintro ⟨j, hj, e⟩
          by_cases hjm : j < m
          · exact .inl ⟨j, hjm, e⟩
          · obtain rfl : j = m := by omega
            exact .inr (by simp [e])
    · rw [if_neg hk, List.append_nil]
      refine ⟨h1, fun y => ?_⟩
      rw [h2]
      have hk2 : m ≠ 0 ∧ d[m]! = d[m - 1]! := by simpa [Lib.keeps] using hk
      constructor
      · rintro ⟨j, hj, e⟩
        exact ⟨j, by omega, e⟩
      · rintro ⟨j, hj, e⟩
        by_cases hjm : j < m
        · exact ⟨j, hjm, e⟩
        · obtain rfl : j = m := by omega
          exact ⟨j - 1, by omega, by rw [← hk2.2]; exact e⟩
/-- Sorted, and each but once: the rising row of the numbers. -/
def setOf (l : List Int) : List Int := Lib.compact (l.mergeSort fun x y => decide (x ≤ y))
theorem sort_le (l : List Int) : (l.mergeSort fun x y => decide (x ≤ y)).Pairwise (· ≤ ·) := by
  have h := List.pairwise_mergeSort (le := fun x y : Int => decide (x ≤ y)) (fun a b c h1 h2 => by simp only [decide_eq_true_eq] at *; omega) (fun a b => by simp only [Bool.or_eq_true, decide_eq_true_eq]; omega) l
  exact h.imp (fun h => by simpa using h)
theorem setOf_up_mem (l : List Int) : Up (setOf l) ∧ ∀ y, y ∈ setOf l ↔ y ∈ l := by
  have hs := sort_le l
  have hm : ∀ y, y ∈ (l.mergeSort fun x y => decide (x ≤ y)) ↔ y ∈ l := fun y => List.mem_mergeSort
  unfold setOf
  generalize (l.mergeSort fun x y => decide (x ≤ y)) = s at hs hm
  unfold Lib.compact
  obtain ⟨h1, h2⟩ := upto_of (d := s.toArray) (fun i j hij hj => by
    have hj' : j < s.length := by simpa using hj
    rw [getElem!_pos s.toArray i (by simp; omega), getElem!_pos s.toArray j (by simp; omega)]
    simp only [List.getElem_toArray]
    by_cases e : i = j
    · subst e
      exact Int.le_refl _
    · exact List.pairwise_iff_getElem.1 hs i j (by omega) hj' (by omega)) s.length (by simp)
  refine ⟨h1, fun y => (h2 y).trans (Iff.trans ?_ (hm y))⟩
  constructor
  · rintro ⟨j, hj, e⟩
    rw [getElem!_pos s.toArray j (by simpa using hj)] at e
    rw [← e]
    simp
  · intro hy
    obtain ⟨j, hj, e⟩ := List.mem_iff_getElem.1 hy
    exact ⟨j, hj, by rw [getElem!_pos s.toArray j (by simpa using hj)]; simpa using e⟩
theorem setOf_ins {l : List Int} (h : Up l) (x : Int) : setOf (l ++ [x]) = ins x l := by
  obtain ⟨h1, h2⟩ := setOf_up_mem (l ++ [x])
  refine up_ext h1 (up_ins x h) fun y => (h2 y).trans ?_
  rw [mem_ins, List.mem_append, List.mem_singleton]
  exact Or.comm
theorem set_add {L : List Int} (x : Int) : setOf (L ++ [x]) = ins x (setOf L) := by
  obtain ⟨h1, h2⟩ := setOf_up_mem (L ++ [x])
  obtain ⟨h3, h4⟩ := setOf_up_mem L
  refine up_ext h1 (up_ins x h3) fun y => (h2 y).trans ?_
  rw [mem_ins, h4, List.mem_append, List.mem_singleton]
  exact Or.comm
theorem setOf_len (L : List Int) : (setOf L).length ≤ L.length := by
  unfold setOf
  exact Nat.le_trans (Lib.compact_length_le _) (by simp)
theorem sort_nodup {L : List Int} (h : L.Nodup) : (L.mergeSort fun x y => decide (x ≤ y)) = setOf L := by
  obtain ⟨h3, h4⟩ := setOf_up_mem L
  have hs := sort_le L
  have hp : (L.mergeSort fun x y => decide (x ≤ y)).Nodup := (List.mergeSort_perm L _).nodup_iff.2 h
  have hu : Up (L.mergeSort fun x y => decide (x ≤ y)) := by
    refine (List.pairwise_iff_getElem.2 fun i j hi hj hij => ?_)
    have a := List.pairwise_iff_getElem.1 hs i j hi hj hij
    have b := List.pairwise_iff_getElem.1 hp i j hi hj hij
    omega
  exact up_ext hu h3 fun y => List.mem_mergeSort.trans (h4 y).symm

theorem put_l (l : List Int) (x : Int) (hl : l.length ≤ 1000000000) : ∀ (d i : Nat), i + d = l.length → Ev (fun k => spec_l1Put.l0 k l x (i : Int)) (l.take i ++ ins x (l.drop i))
  | 0, i, h => ev_stop fun k => by
    rw [spec_l1Put.l0, if_neg (by omega)]
    simp only [Option.bind_some, Int.toNat_natCast, List.nil_append, List.length_nil, Nat.zero_add]
    rw [if_pos (by omega), if_pos (by omega), if_pos (by simp; omega), if_pos (by simp; omega), if_pos (by simp; omega), List.drop_of_length_le (by omega)]
    simp [ins]
  | d + 1, i, h => by
    have ih := put_l l x hl d (i + 1) (by omega)
    rw [drop_at l i (by omega), ins]
    have ha := drop_at l i (by omega)
    by_cases h1 : l.getD i 0 < x
    · rw [if_pos h1]
      refine ev_step (by
        have e : l.take (i + 1) = l.take i ++ [l.getD i 0] := by
          rw [List.take_succ_eq_append_getElem (by omega)]
          simp [List.getD, List.getElem?_eq_getElem (show i < l.length by omega)]
        rw [e, List.append_assoc] at ih
        exact ih) fun k => by
        rw [spec_l1Put.l0, if_pos (by omega), if_pos (by omega), rdn, if_pos h1, next i (by omega)]
    · rw [if_neg h1]
      by_cases h2 : l.getD i 0 = x
      · rw [if_pos h2]
        exact ev_stop fun k => by
          rw [spec_l1Put.l0, if_pos (by omega), if_pos (by omega), rdn, if_neg h1, if_pos h2, ← ha, List.take_append_drop]
      · rw [if_neg h2]
        exact ev_stop fun k => by
          rw [spec_l1Put.l0, if_pos (by omega), if_pos (by omega), rdn, if_neg h1, if_neg h2]
          simp only [Option.bind_some, Int.toNat_natCast, List.nil_append, List.length_nil, Nat.zero_add]
          rw [if_pos (by omega), if_pos (by simp; omega), if_pos (by simp; omega), if_pos (by simp; omega), ha]
          simp
theorem put_tells (l : List Int) (x : Int) (hl : l.length ≤ 1000000000) : Ev (fun k => spec_l1Put.f k l x) (ins x l) := by
  have h := put_l l x hl l.length 0 (by omega)
  rw [List.drop_zero, List.take_zero, List.nil_append] at h
  exact h

theorem mod_val (a n : Int) (h0 : 0 ≤ a) (hn : 0 < n) (h2 : a < 2 * n) : Int.tmod a n = if a < n then a else a - n := by
  rw [Int.tmod_eq_emod_of_nonneg h0]
  by_cases h : a < n
  · rw [if_pos h, Int.emod_eq_of_lt h0 h]
  · rw [if_neg h]
    have e : a = (a - n) + n * 1 := by omega
    rw [e, Int.add_mul_emod_self_left, Int.emod_eq_of_lt (by omega) (by omega)]
    omega
def ringOf (n q : Int) (d : Nat) : List Int := (List.range d).map fun (i : Nat) => Int.tmod (q + (i : Int)) n
theorem ring_succ (n q : Int) (d : Nat) : ringOf n q (d + 1) = ringOf n q d ++ [Int.tmod (q + (d : Int)) n] := by
  unfold ringOf
  rw [List.range_succ, List.map_append]
  rfl
theorem ring_len (n q : Int) (d : Nat) : (ringOf n q d).length = d := by simp [ringOf]
theorem ring_nodup (n q : Int) (d : Nat) (h0 : 0 ≤ q) (h1 : q < n) (hd : (d : Int) ≤ n) : (ringOf n q d).Nodup := by
  unfold ringOf
  refine List.pairwise_iff_getElem.2 fun i j hi hj hij => ?_
  simp only [List.length_map, List.length_range] at hi hj
  simp only [List.getElem_map, List.getElem_range]
  rw [mod_val _ _ (by omega) (by omega) (by omega), mod_val _ _ (by omega) (by omega) (by omega)]
  split <;> split <;> omega
theorem ring_s (n q : Int) (m : Nat) (h0 : 0 ≤ q) (h1 : q < n) (h9 : n ≤ 9) (hm : (m : Int) ≤ n) : ∀ (d i : Nat), i + d = m → Ev (fun k => spec_GroupBy.l0 k n (m : Int) q (setOf (ringOf n q i)) (i : Int)) (setOf (ringOf n q m), true)
  | 0, i, h => by
    obtain rfl : i = m := by omega
    exact ev_stop fun k => by rw [spec_GroupBy.l0, if_neg (by omega)]
  | d + 1, i, h => by
    have ih := ring_s n q m h0 h1 h9 hm d (i + 1) (by omega)
    rw [ring_succ, set_add] at ih
    have hl := setOf_len (ringOf n q i)
    rw [ring_len] at hl
    refine Ev.step (f := fun k => (spec_l1Put.f k (setOf (ringOf n q i)) (Int.tmod (q + (i : Int)) n)).bind fun t => spec_GroupBy.l0 k n (m : Int) q t ((i + 1 : Nat) : Int)) (fun k => ?_) (ev_bind (put_tells _ _ (by omega)) ih)
    rw [spec_GroupBy.l0, if_pos (by omega), if_neg (by omega), w64 (by omega) (by omega), next i (by omega)]
theorem ring_i (n q : Int) (m : Nat) (h0 : 0 ≤ q) (h1 : q < n) (h9 : n ≤ 9) (hm : (m : Int) ≤ n) : ∀ (d i : Nat), i + d = m → Ev (fun k => impl_GroupBy.l0 k n q (ringOf n q i) (m : Int) (i : Int)) (setOf (ringOf n q m), true)
  | 0, i, h => by
    obtain rfl : i = m := by omega
    have hl := ring_len n q i
    exact ev_stop fun k => by
      rw [impl_GroupBy.l0, if_neg (by omega)]
      unfold slices_Sort_int_int.f
      rw [if_pos (by omega), Option.bind_some, sort_nodup (ring_nodup n q i h0 h1 hm)]
  | d + 1, i, h => by
    have ih := ring_i n q m h0 h1 h9 hm d (i + 1) (by omega)
    rw [ring_succ] at ih
    have hl := ring_len n q i
    exact ev_step ih fun k => by
      rw [impl_GroupBy.l0, if_pos (by omega), if_neg (by omega), if_pos (by omega), w64 (by omega) (by omega), next i (by omega)]
theorem setOf_nil : setOf [] = [] := by
  obtain ⟨u, m⟩ := setOf_up_mem []
  exact up_ext u List.Pairwise.nil m

/-- Numbers that are all others, within bounds: not many. -/
theorem nod_le : ∀ (N : Nat) (L : List Int), L.Nodup → (∀ x ∈ L, 0 ≤ x ∧ x < (N : Int)) → L.length ≤ N
  | 0, L, _, h => by
    cases L with
    | nil => simp
    | cons x L => have := h x (List.mem_cons_self ..); omega
  | N + 1, L, hd, h => by
    by_cases hm : (N : Int) ∈ L
    · have h1 := nod_le N (L.erase (N : Int)) (hd.erase _) (fun x hx => by
        have h2 := (List.Nodup.mem_erase_iff hd).1 hx
        have := h x h2.2
        have := h2.1
        omega)
      rw [List.length_erase_of_mem hm] at h1
      omega
    · have := nod_le N L hd (fun x hx => by
        have := h x hx
        have : x ≠ (N : Int) := fun e => hm (e ▸ hx)
        omega)
      omega
theorem filter_split (p : Int → Bool) : ∀ L : List Int, (L.filter p).length + (L.filter fun x => !p x).length = L.length
  | [] => rfl
  | x :: L => by
    have ih := filter_split p L
    rw [List.filter_cons, List.filter_cons]
    cases p x with
    | true => simp; omega
    | false => simp; omega
/-- What two groups have in common. -/
theorem common_le (N : Nat) (C G : List Int) (hC : C.Nodup) (hCb : ∀ x ∈ C, 0 ≤ x ∧ x < (N : Int)) (hG : G.Nodup) (hGb : ∀ x ∈ G, 0 ≤ x ∧ x < (N : Int)) : C.length + G.length ≤ N + (C.filter fun x => decide (x ∈ G)).length := by
  have h1 := filter_split (fun x => decide (x ∈ G)) C
  have h2 := nod_le N ((C.filter fun x => !decide (x ∈ G)) ++ G) (by
    rw [List.nodup_append]
    refine ⟨hC.filter _, hG, fun a ha b hb e => ?_⟩
    have := (List.mem_filter.1 ha).2
    rw [e] at this
    simp [hb] at this) (fun x hx => by
    rcases List.mem_append.1 hx with h | h
    · exact hCb x (List.mem_filter.1 h).1
    · exact hGb x h)
  rw [List.length_append] at h2
  omega
theorem lhas_l (l : List Int) (x : Int) (hl : l.length ≤ 4611686018427387903) : ∀ (d i : Nat), i + d = l.length → Ev (fun k => laws_has.l0 k x l (l.length : Int) (i : Int)) (decide (x ∈ l.drop i))
  | 0, i, h => ev_stop fun k => by
    rw [laws_has.l0, if_neg (by omega), List.drop_of_length_le (by omega)]
    simp
  | d + 1, i, h => by
    have ih := lhas_l l x hl d (i + 1) (by omega)
    rw [drop_at l i (by omega)]
    by_cases hx : l.getD i 0 = x
    · exact ev_stop fun k => by
        rw [laws_has.l0, if_pos (by omega), if_pos (by omega), if_pos (by omega), rdn, if_pos hx, hx]
        simp
    · refine ev_step (r := decide (x ∈ l.getD i 0 :: l.drop (i + 1))) (by
        have e : decide (x ∈ l.getD i 0 :: l.drop (i + 1)) = decide (x ∈ l.drop (i + 1)) := decide_eq_decide.2 (by
          rw [List.mem_cons]
          exact ⟨fun h => h.resolve_left (fun h => hx h.symm), .inr⟩)
        rw [e]
        exact ih) fun k => by
        rw [laws_has.l0, if_pos (by omega), if_pos (by omega), if_pos (by omega), rdn, if_neg hx, next i (by omega)]
theorem lhas_tells (l : List Int) (x : Int) (hl : l.length ≤ 4611686018427387903) : Ev (fun k => laws_has.f k l x) (decide (x ∈ l)) := by
  have h := lhas_l l x hl l.length 0 (by omega)
  rw [List.drop_zero] at h
  exact h
theorem same_l (l : List Int) (hl : l.length ≤ 4611686018427387903) : ∀ (d i : Nat), i + d = l.length → Ev (fun k => laws_sameInts.l0 k l l (l.length : Int) (i : Int)) true
  | 0, i, h => ev_stop fun k => by
    rw [laws_sameInts.l0, if_neg (by omega)]
  | d + 1, i, h => by
    have ih := same_l l hl d (i + 1) (by omega)
    exact ev_step ih fun k => by
      rw [laws_sameInts.l0, if_pos (by omega), if_pos (by omega), if_pos (by omega), if_pos (by omega), if_pos rfl, next i (by omega)]
theorem same_tells (l : List Int) (hl : l.length ≤ 4611686018427387903) : Ev (fun k => laws_sameInts.f k l l) true := ev_ite_pos rfl (same_l l hl l.length 0 (by omega))
theorem number_l (l : List Int) (hc : ∀ x ∈ l, 0 ≤ x ∧ x ≤ 255) (hl : l.length ≤ 9223372036854775807) : ∀ (d i : Nat) (n : Int), i + d = l.length → 0 ≤ n → n ≤ 1000002 → ∃ t, Ev (fun k => laws_numberOf.l0 k n l (l.length : Int) (i : Int)) t ∧ 0 ≤ t ∧ t ≤ 1000002
  | 0, i, n, h, h0, h1 => ⟨n, ev_stop fun k => by rw [laws_numberOf.l0, if_neg (by omega)], h0, h1⟩
  | d + 1, i, n, h, h0, h1 => by
    have hx := hc (rd l (i : Int)) (by rw [rdn, List.getD_eq_getElem?_getD, List.getElem?_eq_getElem (show i < l.length by omega)]; exact List.getElem_mem _)
    have e : wrap64 (wrap64 (31 * n) + wrap64 (rd l (i : Int))) = 31 * n + rd l (i : Int) := by rw [w64 (i := 31 * n) (by omega) (by omega), w64 (i := rd l (i : Int)) (by omega) (by omega), w64 (by omega) (by omega)]
    obtain ⟨t, ht, b⟩ := number_l l hc hl d (i + 1) (Int.tmod (31 * n + rd l (i : Int)) 1000003) (by omega) (Int.tmod_nonneg _ (by omega)) (by have := Int.tmod_lt_of_pos (31 * n + rd l (i : Int)) (show (0 : Int) < 1000003 by omega); omega)
    have hn : wrap64 ((i : Int) + 1) = ((i + 1 : Nat) : Int) := by rw [w64 (by omega) (by omega)]; omega
    exact ⟨t, ev_step ht fun k => by rw [laws_numberOf.l0, if_pos (by omega), if_pos (by omega), if_pos (by omega), e, hn], b⟩
theorem number_ok (l : List Int) (hc : ∀ x ∈ l, 0 ≤ x ∧ x ≤ 255) (hl : l.length ≤ 9223372036854775807) : ∃ t, Ev (fun k => laws_numberOf.f k l) t ∧ 0 ≤ t ∧ t ≤ 1000002 := number_l l hc hl l.length 0 0 (by omega) (by omega) (by omega)
theorem sumW_sum : ∀ (l : List Int) (s : Int), (∀ x ∈ l, 0 ≤ x ∧ x ≤ 100) → 0 ≤ s → s + 100 * l.length ≤ 1000000 → sumW s l = s + l.sum
  | [], s, _, _, _ => by simp [sumW]
  | x :: l, s, h, h0, h1 => by
    have hx := h x (List.mem_cons_self ..)
    rw [List.length_cons] at h1
    have ih := sumW_sum l (s + x) (fun y hy => h y (List.mem_cons_of_mem _ hy)) (by omega) (by omega)
    have e : sumW s (x :: l) = sumW (wrap64 (s + x)) l := rfl
    rw [e, w64 (by omega) (by omega), ih, List.sum_cons]
    omega
theorem sum_bd (n : Int) : ∀ (l : List Int), (∀ x ∈ l, 0 ≤ x ∧ x ≤ n) → 0 ≤ l.sum ∧ l.sum ≤ n * l.length
  | [], _ => by simp
  | x :: l, h => by
    have hx := h x (List.mem_cons_self ..)
    have ih := sum_bd n l (fun y hy => h y (List.mem_cons_of_mem _ hy))
    rw [List.sum_cons, List.length_cons, Int.natCast_add, Int.mul_add]
    omega
/-- Both tell the same; what is told where they tell it. -/
theorem least_full (n : Int) (l : List Int) (hl : l.length ≤ 1048576) : ∃ c o, Ev (fun k => spec_LeastCommon.f k n l) (c, o) ∧ Ev (fun k => impl_LeastCommon.f k n l) (c, o) ∧ (o = true → manyB n = true ∧ 1 ≤ l.length ∧ l.length ≤ 4 ∧ (∀ x ∈ l, 0 ≤ x ∧ x ≤ n) ∧ c = leastOf n l.length (sumW 0 l)) := by
  have stopS : Ev (fun k => spec_LeastCommon.j0 k n l true) (0, false) := ev_stop fun k => by rw [spec_LeastCommon.j0, if_pos rfl]
  have stopI : Ev (fun k => impl_LeastCommon.j0 k n l true) (0, false) := ev_stop fun k => by rw [impl_LeastCommon.j0, if_pos rfl]
  cases hm : manyB n with
  | false =>
    refine ⟨0, false, ?_, ?_, by simp⟩
    · unfold spec_LeastCommon.f
      simpa only [smany_tells, hm, Option.bind_some, Bool.false_eq_true, ↓reduceIte] using stopS
    · unfold impl_LeastCommon.f
      simpa only [many_tells, hm, Option.bind_some, Bool.false_eq_true, ↓reduceIte] using stopI
  | true =>
    cases hw : inB 1 4 (l.length : Int) with
    | false =>
      unfold inB at hw
      refine ⟨0, false, ?_, ?_, by simp⟩
      · unfold spec_LeastCommon.f
        simpa only [smany_tells, hm, sin_tells, hw, Option.bind_some, Bool.false_eq_true, ↓reduceIte] using stopS
      · unfold impl_LeastCommon.f
        simpa only [many_tells, hm, within_tells, hw, Option.bind_some, Bool.false_eq_true, Bool.not_false, ↓reduceIte] using stopI
    | true =>
      unfold inB at hw
      have hS : Ev (fun k => spec_LeastCommon.f k n l) (if l.all (inB 0 n) = true then (leastOf n l.length (sumW 0 l), true) else (0, false)) := by
        unfold spec_LeastCommon.f
        simp only [smany_tells, hm, sin_tells, hw, Option.bind_some, ↓reduceIte]
        refine ev_bind (sall_tells l 0 n (by omega)) ?_
        cases l.all (inB 0 n) with
        | false => simpa using stopS
        | true =>
          have h := least_s n l (by omega) l.length 0 0 (by omega)
          rw [List.drop_zero] at h
          exact ev_step h fun k => by rw [spec_LeastCommon.j0]; rfl
      have hI : Ev (fun k => impl_LeastCommon.f k n l) (if l.all (inB 0 n) = true then (leastOf n l.length (sumW 0 l), true) else (0, false)) := by
        unfold impl_LeastCommon.f
        simp only [many_tells, hm, within_tells, hw, Option.bind_some, ↓reduceIte]
        have h := least_i n l (by omega) l.length 0 0 (by omega)
        rw [List.drop_zero] at h
        exact ev_step h fun k => by rw [impl_LeastCommon.j0]; rfl
      cases ha : l.all (inB 0 n) with
      | false =>
        rw [ha] at hS hI
        exact ⟨0, false, hS, hI, by simp⟩
      | true =>
        rw [ha] at hS hI
        refine ⟨_, true, hS, hI, fun _ => ⟨rfl, ?_, ?_, fun x hx => ?_, rfl⟩⟩
        · simp at hw; omega
        · simp at hw; omega
        · have := List.all_eq_true.1 ha x hx
          simpa [inB] using this
theorem ring_set_len (n q : Int) (d : Nat) (h0 : 0 ≤ q) (h1 : q < n) (hd : (d : Int) ≤ n) : (setOf (ringOf n q d)).length = d := by
  rw [← sort_nodup (ring_nodup n q d h0 h1 hd), (List.mergeSort_perm _ _).length_eq, ring_len]
/-- Both groups are the same; where they are told, they have as many places as asked. -/
theorem groupby_full (n m q : Int) : ∃ (x : List Int) (o : Bool), Ev (fun k => spec_GroupBy.f k n m q) (x, o) ∧ Ev (fun k => impl_GroupBy.f k n m q) (x, o) ∧ x.length ≤ 1048576 ∧ (o = true → (x.length : Int) = m) ∧ (manyB n = true → 1 ≤ m → m ≤ n → 0 ≤ q → q < n → o = true ∧ x = setOf (ringOf n q m.toNat)) := by
  have noS : Ev (fun k => spec_GroupBy.j0 k n m q true) ([], false) := ev_stop fun k => by rw [spec_GroupBy.j0, if_pos rfl]
  have noI : Ev (fun k => impl_GroupBy.j0 k n m q true) ([], false) := ev_stop fun k => by rw [impl_GroupBy.j0, if_pos rfl]
  unfold spec_GroupBy.f impl_GroupBy.f
  simp only [smany_tells, many_tells, sin_tells, within_tells]
  cases hM : manyB n with
  | false => exact ⟨[], false, by simpa using noS, by simpa using noI, by simp, by simp, by simp⟩
  | true =>
    obtain ⟨b0, b1⟩ := many_bd hM
    rw [w64 (i := n - 1) (by omega) (by omega)]
    cases hA : (decide (1 ≤ m) && decide (m ≤ n)) with
    | false =>
      refine ⟨[], false, by simpa using noS, by simpa using noI, by simp, by simp, fun _ a b _ _ => ?_⟩
      rw [decide_eq_true a, decide_eq_true b] at hA
      cases hA
    | true =>
      cases hB : (decide (0 ≤ q) && decide (q ≤ n - 1)) with
      | false =>
        refine ⟨[], false, by simpa using noS, by simpa using noI, by simp, by simp, fun _ _ _ a b => ?_⟩
        rw [decide_eq_true a, decide_eq_true (show q ≤ n - 1 by omega)] at hB
        cases hB
      | true =>
        simp only [Bool.and_eq_true, decide_eq_true_eq] at hA hB
        obtain ⟨m', rfl⟩ := Int.eq_ofNat_of_zero_le (show 0 ≤ m by omega)
        have s := ring_s n q m' (by omega) (by omega) (by omega) (by omega) m' 0 (by omega)
        have i := ring_i n q m' (by omega) (by omega) (by omega) (by omega) m' 0 (by omega)
        have e0 : ringOf n q 0 = [] := rfl
        rw [e0, setOf_nil] at s
        rw [e0] at i
        have hl := ring_set_len n q m' (by omega) (by omega) (by omega)
        refine ⟨setOf (ringOf n q m'), true, ?_, ?_, by omega, fun _ => by rw [hl], fun _ _ _ _ _ => ⟨rfl, by rw [Int.toNat_natCast]⟩⟩
        · simp only [Option.bind_some, if_true, Bool.not_true]
          exact ev_step s fun k => by rw [spec_GroupBy.j0, if_neg (by simp)]; rfl
        · simp only [Option.bind_some, if_true, Bool.not_true]
          exact ev_step i fun k => by rw [impl_GroupBy.j0, if_neg (by simp)]; rfl

theorem j4_ok (more : List Int) (hc : ∀ x ∈ more, 0 ≤ x ∧ x ≤ 255) : Ev (fun k => laws_FnSizes.j4 k more) true := by
  obtain ⟨u, hu⟩ := drawSlow_ok more hc
  obtain ⟨v, s, q, hd⟩ := drawGroup_ok more hc
  obtain ⟨g, o, hs, hi, hg, hgl, _⟩ := groupby_full v s q
  have eS : spec_SlowSize.f u = impl_SlowSize.f u := rfl
  have eF : spec_FastSize.f u = impl_FastSize.f u := rfl
  obtain ⟨x, hx⟩ : ∃ x, impl_SlowSize.f u = some x := by
    unfold impl_SlowSize.f impl_slow.f
    rw [many_tells, Option.bind_some]
    cases manyB u <;> simp
  obtain ⟨y, hy⟩ : ∃ y, impl_FastSize.f u = some y := by
    unfold impl_FastSize.f impl_fast.f
    rw [many_tells, Option.bind_some]
    cases manyB u <;> simp
  obtain ⟨K1, q1⟩ := hs
  obtain ⟨K2, q2⟩ := hi
  obtain ⟨K3, q3⟩ := same_tells g (by omega)
  refine ⟨K1 + K2 + K3 + 1, fun k hk => ?_⟩
  obtain ⟨p, rfl⟩ : ∃ p, k = p + 1 := ⟨k - 1, by omega⟩
  have a1 := q1 p (by omega)
  have a2 := q2 p (by omega)
  have a3 := q3 p (by omega)
  dsimp only at a1 a2 a3 ⊢
  rw [laws_FnSizes.j4, hu, Option.bind_some, hx, Option.bind_some, eS, hx, Option.bind_some, hy, Option.bind_some, eF, hy, Option.bind_some, hd, Option.bind_some]
  dsimp only
  rw [a2, Option.bind_some, a1, Option.bind_some, if_pos (by simp), if_pos rfl, if_pos (by simp), if_pos rfl, if_pos (by simp), a3, Option.bind_some, if_pos rfl]
  cases o with
  | true =>
    rw [if_pos rfl]
    have := hgl rfl
    simp [this]
  | false => rw [if_neg (by simp)]
theorem l2_ok (more : List Int) (n c : Int) (g l : List Int) (C : List Int) (i : Int) (r : Bool) (hC : C.length ≤ 1048576) (hg : g.length ≤ 1048576) : ∀ (d j : Nat) (acc : List Int), j + d = C.length → acc.length ≤ j → Ev (fun k => laws_FnSizes.l1 k more n c (acc ++ (C.drop j).filter fun x => decide (x ∈ g)) l (l.length : Int) (wrap64 (i + 1))) r → Ev (fun k => laws_FnSizes.l2 k more n c g acc l (l.length : Int) i C (C.length : Int) (j : Int)) r
  | 0, j, acc, h, ha, hr => by
    rw [List.drop_of_length_le (by omega), List.filter_nil, List.append_nil] at hr
    exact ev_step hr fun k => by rw [laws_FnSizes.l2, if_neg (by omega)]
  | d + 1, j, acc, h, ha, hr => by
    have hh := lhas_tells g (C.getD j 0) (by omega)
    rw [drop_at C j (by omega), List.filter_cons] at hr
    refine Ev.step (f := fun k => (laws_has.f k g (C.getD j 0)).bind fun t => if t = true then (if acc.length < 17592186044416 then laws_FnSizes.l2 k more n c g (acc ++ [C.getD j 0]) l (l.length : Int) i C (C.length : Int) ((j + 1 : Nat) : Int) else none) else laws_FnSizes.l2 k more n c g acc l (l.length : Int) i C (C.length : Int) ((j + 1 : Nat) : Int)) (fun k => by rw [laws_FnSizes.l2, if_pos (by omega), if_pos (by omega), if_pos (by omega), rdn, next j (by omega)]) (ev_bind hh ?_)
    cases hq : decide (C.getD j 0 ∈ g) with
    | true =>
      rw [hq, if_pos rfl] at hr
      exact ev_ite_pos rfl (ev_ite_pos (by omega) (l2_ok more n c g l C i r hC hg d (j + 1) (acc ++ [C.getD j 0]) (by omega) (by simp; omega) (by rw [List.append_assoc, List.singleton_append]; exact hr)))
    | false =>
      rw [hq, if_neg (by decide)] at hr
      exact ev_ite_neg (by decide) (l2_ok more n c g l C i r hC hg d (j + 1) acc (by omega) (by omega) hr)
theorem l1_ok (more : List Int) (hc : ∀ x ∈ more, 0 ≤ x ∧ x ≤ 255) (hml : more.length ≤ 9223372036854775807) (N : Nat) (hm : manyB (N : Int) = true) (c : Int) (l : List Int) (hl : l.length ≤ 4) (hb : ∀ x ∈ l, 0 ≤ x ∧ x ≤ (N : Int)) : ∀ (d i : Nat) (C : List Int), i + d = l.length → C.Nodup → (∀ x ∈ C, 0 ≤ x ∧ x < (N : Int)) → (c ≤ 0 ∨ c ≤ (C.length : Int) + (l.drop i).sum - (d : Int) * (N : Int)) → Ev (fun k => laws_FnSizes.l1 k more (N : Int) c C l (l.length : Int) (i : Int)) true
  | 0, i, C, h, hn, hC, hcc => by
    rw [List.drop_of_length_le (by omega)] at hcc
    have hcc : c ≤ (C.length : Int) := by
      rcases hcc with h | h
      · omega
      · simp at h; omega
    exact ev_step (j4_ok more hc) fun k => by rw [laws_FnSizes.l1, if_neg (by omega), if_neg (by omega)]
  | d + 1, i, C, h, hn, hC, hcc => by
    obtain ⟨n0, n1⟩ := many_bd hm
    have hi3 : i ≤ 3 := by omega
    have hs := hb (l.getD i 0) (by rw [List.getD_eq_getElem?_getD, List.getElem?_eq_getElem (show i < l.length by omega)]; exact List.getElem_mem _)
    have hCl := nod_le N C hn hC
    have em : ((d + 1 : Nat) : Int) * (N : Int) = (d : Int) * (N : Int) + (N : Int) := by rw [Int.natCast_add, Int.add_mul]; simp
    rw [drop_at l i (by omega), List.sum_cons, em] at hcc
    by_cases h0 : l.getD i 0 = 0
    · have ih := l1_ok more hc hml N hm c l hl hb d (i + 1) [] (by omega) List.nodup_nil (by simp) (by
        rcases hcc with h | h
        · exact .inl h
        · right
          simp only [List.length_nil]
          omega)
      exact ev_step ih fun k => by rw [laws_FnSizes.l1, if_pos (by omega), if_pos (by omega), if_pos (by omega), rdn, if_pos h0, next i (by omega)]
    · obtain ⟨t, ht, t0, t1⟩ := number_ok more hc hml
      have hii : (i : Int) * (i : Int) ≤ 9 ∧ 0 ≤ (i : Int) * (i : Int) := by
        have : i = 0 ∨ i = 1 ∨ i = 2 ∨ i = 3 := by omega
        rcases this with e | e | e | e <;> subst e <;> decide
      obtain ⟨z, hz⟩ : ∃ z, z = Int.tmod (wrap64 (t + wrap64 (wrap64 ((i : Int) * (i : Int)) * 5))) (N : Int) := ⟨_, rfl⟩
      have hz01 : 0 ≤ z ∧ z < (N : Int) := by
        rw [hz]
        generalize (i : Int) * (i : Int) = w at hii ⊢
        rw [w64 (i := w) (by omega) (by omega), w64 (i := w * 5) (by omega) (by omega), w64 (by omega) (by omega)]
        exact ⟨Int.tmod_nonneg _ (by omega), Int.tmod_lt_of_pos _ (by omega)⟩
      obtain ⟨g, o, _, hgi, hgl, hgs, hgo⟩ := groupby_full (N : Int) (l.getD i 0) z
      obtain ⟨e1, e2⟩ := hgo hm (by omega) hs.2 hz01.1 hz01.2
      subst e1
      have hgs := hgs rfl
      obtain ⟨up, mem⟩ := setOf_up_mem (ringOf (N : Int) z (l.getD i 0).toNat)
      rw [← e2] at up mem
      have hgn : g.Nodup := up.imp fun {a b} h => by omega
      have hgb : ∀ x ∈ g, 0 ≤ x ∧ x < (N : Int) := fun x hx => by
        have h := (mem x).1 hx
        unfold ringOf at h
        obtain ⟨j, hj, rfl⟩ := List.mem_map.1 h
        exact ⟨Int.tmod_nonneg _ (by omega), Int.tmod_lt_of_pos _ (by omega)⟩
      have hcl := common_le N C g hn hC hgn hgb
      have ih := l1_ok more hc hml N hm c l hl hb d (i + 1) (C.filter fun x => decide (x ∈ g)) (by omega) (hn.filter _) (fun x hx => hC x (List.mem_filter.1 hx).1) (by
        rcases hcc with h | h
        · exact .inl h
        · right
          omega)
      have ih2 := l2_ok more (N : Int) c g l C (i : Int) true (by omega) hgl C.length 0 [] (by omega) (by simp) (by rw [List.drop_zero, List.nil_append, next i (by omega)]; exact ih)
      refine Ev.step (f := fun k => (laws_numberOf.f k more).bind fun t => if (N : Int) = 0 then none else (impl_GroupBy.f k (N : Int) (l.getD i 0) (Int.tmod (wrap64 (t + wrap64 (wrap64 ((i : Int) * (i : Int)) * 5))) (N : Int))).bind fun bt => if bt.2 = true then laws_FnSizes.l2 k more (N : Int) c bt.1 [] l (l.length : Int) (i : Int) C (C.length : Int) 0 else some false) (fun k => by rw [laws_FnSizes.l1, if_pos (by omega), if_pos (by omega), if_pos (by omega), rdn, if_neg h0]) (ev_bind ht (ev_ite_neg (by omega) ?_))
      rw [← hz]
      exact ev_bind hgi (ev_ite_pos rfl ih2)
def upTo (i : Nat) : List Int := (List.range i).map fun (j : Nat) => (j : Int)
theorem upTo_succ (i : Nat) : upTo (i + 1) = upTo i ++ [(i : Int)] := by
  unfold upTo
  rw [List.range_succ, List.map_append]
  rfl
theorem upTo_len (i : Nat) : (upTo i).length = i := by simp [upTo]
theorem upTo_nodup (i : Nat) : (upTo i).Nodup := by
  unfold upTo
  refine List.pairwise_iff_getElem.2 fun a b ha hb hab => ?_
  simp only [List.getElem_map, List.getElem_range]
  omega
theorem upTo_bd (i : Nat) : ∀ x ∈ upTo i, 0 ≤ x ∧ x < (i : Int) := fun x hx => by
  unfold upTo at hx
  obtain ⟨j, hj, rfl⟩ := List.mem_map.1 hx
  have := List.mem_range.1 hj
  omega
theorem l0_ok (more : List Int) (N : Nat) (hN : N ≤ 100) (c : Int) (l : List Int) (hl : Ev (fun k => laws_FnSizes.l1 k more (N : Int) c (upTo N) l (l.length : Int) 0) true) : ∀ (d i : Nat), i + d = N → Ev (fun k => laws_FnSizes.l0 k more (N : Int) l c (upTo i) (i : Int)) true
  | 0, i, h => by
    obtain rfl : i = N := by omega
    exact ev_step hl fun k => by rw [laws_FnSizes.l0, if_neg (by omega)]
  | d + 1, i, h => by
    have ih := l0_ok more N hN c l hl d (i + 1) (by omega)
    rw [upTo_succ] at ih
    exact ev_step ih fun k => by rw [laws_FnSizes.l0, if_pos (by omega), if_pos (by rw [upTo_len]; omega), next i (by omega)]
theorem FnSizes : laws_FnSizes.Good := by
  intro code more ⟨h1, h2⟩ ⟨h3, h4⟩
  have hc : ∀ x ∈ code, 0 ≤ x ∧ x ≤ 255 := fun x hx => u8_of (h2 x hx)
  have hc2 : ∀ x ∈ more, 0 ≤ x ∧ x ≤ 255 := fun x hx => u8_of (h4 x hx)
  have hm : maxLen ≤ 9223372036854775807 := by decide
  refine Ev.rounds ?_
  unfold laws_FnSizes.f
  by_cases hg : wrap64 ((code.length : Int) + (more.length : Int)) > 1048576
  · exact ev_ite_pos hg (ev_some fun _ => rfl)
  refine ev_ite_neg hg ?_
  obtain ⟨n, l, hd, n0, n1, hl⟩ := drawLeast_ok code hc
  obtain ⟨c, o, hs, hi, hf⟩ := least_full n l (by omega)
  refine ev_some_bind hd (ev_bind hi (ev_bind hs (ev_ite_neg (by simp) ?_)))
  refine Ev.step (fun k => by rw [laws_FnSizes.j0]) ?_
  refine ev_ite_neg (by simp) ?_
  cases o with
  | false => exact ev_ite_neg (by simp) (j4_ok more hc2)
  | true =>
    obtain ⟨g1, g2, g3, g4, g5⟩ := hf rfl
    obtain ⟨N, rfl⟩ := Int.eq_ofNat_of_zero_le (show 0 ≤ n by omega)
    refine ev_ite_pos rfl ?_
    obtain ⟨b0, b1⟩ := many_bd g1
    have hsum := sumW_sum l 0 (fun x hx => by have := g4 x hx; omega) (by omega) (by omega)
    have hsb := sum_bd (N : Int) l g4
    have hlen : l.length = 1 ∨ l.length = 2 ∨ l.length = 3 ∨ l.length = 4 := by omega
    have hcc : c ≤ 0 ∨ c ≤ ((upTo N).length : Int) + (l.drop 0).sum - (l.length : Int) * (N : Int) := by
      rw [g5, hsum, upTo_len, List.drop_zero]
      unfold leastOf mx
      rcases hlen with e | e | e | e <;> rw [e] at hsb ⊢ <;> simp only [Int.zero_add] <;> (rw [w64 (i := ((_ : Nat) : Int) - 1) (by omega) (by omega), w64 (i := (((_ : Nat) : Int) - 1) * (N : Int)) (by omega) (by omega), w64 (i := l.sum - _) (by omega) (by omega)]; split <;> omega)
    exact l0_ok more N (by omega) c l (l1_ok more hc2 (by omega) N g1 c l g3 g4 l.length 0 (upTo N) (by omega) (upTo_nodup N) (upTo_bd N) hcc) N 0 (by omega)

end Go.Proofs.Ytfhhjfhogepfpaa.Pure
