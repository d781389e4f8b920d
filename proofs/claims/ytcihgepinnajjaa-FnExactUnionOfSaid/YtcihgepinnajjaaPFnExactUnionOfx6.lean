-- Written for this claim by the session's own program (drive.py), over the kit's print, with contracts typed by hand.
import Derived.Test.YtcihgepinnajjaaPFnExactUnionOfx0
import Derived.Test.YtcihgepinnajjaaPFnExactUnionOfx4
import Derived.Test.YtcihgepinnajjaaPFnExactUnionOfx5
namespace Go.Proofs.Ytcihgepinnajjaa.PFnExactUnionOf
open Go.RowKit Go.Proofs.YtcihgepinnajjaaW.PrintWords Go.Proofs.YtcihgepinnajjaaW.PrintLast Go.Proofs.YtcihgepinnajjaaW.PrintMore
attribute [local go_sem] max2_int min2_int max_two min_two max_three min_three max_four min_four   -- for this text's walks alone
set_option linter.unusedVariables false
set_option linter.unusedSimpArgs false

/-! ### slices_Clone_int_int: function 81, by hand -/
theorem h_R_len {α : Type} {d : Kd α} {e base n c : Nat} {ok : Nat → Prop} {w : World} {A : Option Addr} {xs : List α} (h : d.R e w base ok (.slice A n c) xs) : n = xs.length ∧ n ≤ c := by
 obtain ⟨A', c', he, hl, _⟩ := Kd.R_reads h
 injection he with h1 h2 h3
 subst h2 h3
 exact ⟨rfl, hl⟩
/-- Many cells of a row of whole numbers are written. -/
theorem h_R_sets {e base n c g : Nat} {ok : Nat → Prop} : ∀ (vs : List Int) (o : Nat) (W : World) (xs : List Int), (Kd.int .i64).R e W base ok (.slice (some ⟨g, 0, none⟩) n c) xs → o + vs.length ≤ n →
  (Kd.int .i64).R e (W.setCells g o (vs.map (Value.int .i64))) base ok (.slice (some ⟨g, 0, none⟩) n c) (xs.take o ++ vs ++ xs.drop (o + vs.length))
 | [], o, W, xs, h, _ => by
  simp only [List.append_nil, List.length_nil, Nat.add_zero, List.take_append_drop]
  exact h
 | v :: vs, o, W, xs, h, hl => by
  have hx := (h_R_len h).1
  have h1 := Kd.R_putn h (o : Int) v
  rw [Int.toNat_natCast] at h1
  simp only [List.length_cons] at hl
  have h2 := h_R_sets vs (o + 1) _ _ h1 (by omega)
  have e1 : (xs.set o v).take (o + 1) = xs.take o ++ [v] := by
   rw [List.take_succ_eq_append_getElem (by rw [List.length_set]; omega), List.take_set_of_le (Nat.le_refl o)]
   simp
  have e2 : (xs.set o v).drop (o + 1 + vs.length) = xs.drop (o + (vs.length + 1)) := by
   rw [List.drop_set_of_lt (by omega), show o + 1 + vs.length = o + (vs.length + 1) by omega]
  rw [e1, e2] at h2
  have e3 : xs.take o ++ (v :: vs) ++ xs.drop (o + (v :: vs).length) = xs.take o ++ [v] ++ vs ++ xs.drop (o + (vs.length + 1)) := by
   simp
  rw [e3]
  exact h2
theorem h_below_sets {w W : World} {g : Nat} (hb : Below w.heap.size w W) (hg : w.heap.size ≤ g) : ∀ (vs : List Value) (o : Nat), Below w.heap.size w (W.setCells g o vs) := by
 intro vs
 induction vs generalizing W with
 | nil => intro o; exact hb
 | cons v vs ih => intro o; exact ih (hb.setCell (p := ⟨g, o, none⟩) hg v) (o + 1)
theorem h_kept_sets {w W : World} {S : Nat → Prop} {g : Nat} (hk : Kept w W S) (hg : S g ∨ w.heap.size ≤ g) : ∀ (vs : List Value) (o : Nat), Kept w (W.setCells g o vs) S := by
 intro vs
 induction vs generalizing W with
 | nil => intro o; exact hk
 | cons v vs ih => intro o; exact ih (hk.setCell (p := ⟨g, o, none⟩) hg v) (o + 1)
/-- A slice of whole numbers that is read, by its cells. -/
theorem h_ints_at {w : World} {A : Option Addr} {xs : List Int} (h : (Kd.int .i64).C w A xs.length xs) (h0 : 0 < xs.length) : ∃ b off, A = some ⟨b, off, none⟩ ∧ ∀ j, j < xs.length → w.cell? ⟨b, off + j, none⟩ = some (.int .i64 (xs.getD j 0)) := by
 obtain ⟨ad, rfl, hc⟩ := Kd.at_int h (0 : Int) (by omega) (by omega)
 obtain ⟨b, off, sp⟩ := ad
 have hs : sp = none := by
  cases sp with
  | none => rfl
  | some s =>
   unfold World.cell? at hc
   simp only [Int.toNat_zero, Addr.add, if_pos] at hc
   split at hc <;> simp_all
 subst hs
 refine ⟨b, off, rfl, fun j hj => ?_⟩
 obtain ⟨ad2, e2, hc2⟩ := Kd.at_int h (j : Int) (by omega) (by omega)
 injection e2 with e2
 subst e2
 rw [Int.toNat_natCast, Addr.add_lit] at hc2
 rw [hc2]
 simp [rd]
theorem h_below_grow (W : World) (os : Array Obj) : Below W.heap.size W (Go.Sort.grow W os) :=
 ⟨rfl, rfl, rfl, by show W.heap.size ≤ (W.heap ++ os).size; rw [Array.size_append]; omega, fun _ hj => Go.Sort.heap_grow_old W os hj⟩
theorem h_holds {e base n c g : Nat} {ok : Nat → Prop} {w : World} {xs : List Int} (h : (Kd.int .i64).R e w base ok (.slice (some ⟨g, 0, none⟩) n c) xs) : Go.Sort.Holds (Value.int .i64) w g 0 xs.toArray := fun j hj => by
 have hn := (h_R_len h).1
 have hj' : j < xs.length := by simpa using hj
 have h1 := Kd.R_celln 0 h (j : Int) (by omega) (by omega)
 rw [Int.toNat_natCast] at h1
 rw [Nat.zero_add]
 refine ⟨?_, h1.2⟩
 rw [h1.1, getElem!_pos xs.toArray j hj]
 simp [rdOf, List.getD, List.getElem?_eq_getElem hj']
/-- A row of whole numbers, all of which are written anew (some draws, some blocks behind it). -/
theorem h_put_all {e base n c g : Nat} {ok : Nat → Prop} {w : World} {xs ys : List Int} (h : (Kd.int .i64).R e w base ok (.slice (some ⟨g, 0, none⟩) n c) xs) (hl : ys.length = xs.length) (q : Nat) (os : Array Obj) :
  (Kd.int .i64).R e (Go.Sort.grow (Go.Sort.putRow (Value.int .i64) (Go.Sort.ahead w q) g 0 ys.toArray) os) base ok (.slice (some ⟨g, 0, none⟩) n c) ys ∧
   (∀ (w0 : World), Below w0.heap.size w0 w → w0.heap.size ≤ g → Below w0.heap.size w0 (Go.Sort.grow (Go.Sort.putRow (Value.int .i64) (Go.Sort.ahead w q) g 0 ys.toArray) os)) ∧
   (∀ S : Nat → Prop, S g → Kept w (Go.Sort.grow (Go.Sort.putRow (Value.int .i64) (Go.Sort.ahead w q) g 0 ys.toArray) os) S) := by
 have hn := (h_R_len h).1
 rw [Lib.putRow_eq_setCells (Value.int .i64) w g 0 xs.toArray ys q (h_holds h) (by simpa using hl)]
 refine ⟨?_, fun w0 hb hg => ?_, fun S hs => ?_⟩
 ·refine Kd.R_below ?_ (h_below_grow _ _)
  have h2 := h_R_sets ys 0 _ _ (Kd.R_drewN h q) (by omega)
  rw [List.take_zero, List.nil_append, Nat.zero_add, List.drop_of_length_le (by omega), List.append_nil] at h2
  exact h2
 ·exact below_then (h_below_sets (pw_below_drewN hb q) hg _ _) (h_below_sets (pw_below_drewN hb q) hg _ _).size (h_below_grow _ _)
 ·exact Kept.below (h_kept_sets (Kept.drewN (Kept.refl w S) q) (.inl hs) _ _) (h_below_grow _ _)
def slices_Clone_int_int.f (l0 : List Int) : Option (List Int) := if l0.length * 8 ≤ 140737488355328 then some l0 else none
set_option maxHeartbeats 8000000 in
set_option maxRecDepth 100000 in
theorem slices_Clone_int_int.calls (A0 : Option Addr) (c0 : Nat) (l0 : List Int) (r : List Int) (w : World) (hr0 : Kd.C (Kd.int .i64) w A0 l0.length l0) (hc0 : l0.length ≤ c0) (h : slices_Clone_int_int.f l0 = some r) :
  Calls Try.prog 81 #[.slice A0 l0.length c0] w fun e w' => ∃ v0_ : Value, e = .returned (v0_) ∧ Kd.R (Kd.int .i64) 3 w' w.heap.size (fun _ => True) v0_ r ∧ Below w.heap.size w w' := by
 unfold slices_Clone_int_int.f at h
 by_cases hl : l0.length * 8 ≤ 140737488355328
 ·rw [if_pos hl] at h
  obtain rfl := Option.some.inj h
  have key : ∀ (v' : Value) (w' : World), w'.ownsRow w.heap.size 3 1 v' l0.length (l0.map (Value.int .i64)) → Kd.R (Kd.int .i64) 3 w' w.heap.size (fun _ => True) v' l0 :=
   fun v' w' ho => Kd.R_of_own ho (fun _ _ => trivial)
  rcases Nat.eq_zero_or_pos l0.length with h0 | h0
  ·obtain rfl : l0 = [] := List.eq_nil_of_length_eq_zero h0
   cases A0 with
   | none =>
    refine (Try.slices_Clone_int_nil 0 c0 w).mono ?_
    rintro e w' ⟨rfl, rfl⟩
    exact ⟨_, rfl, Kd.R_nil _ _ _ _ _, Below.refl _ _⟩
   | some a =>
    refine (Try.slices_Clone_int_zero a c0 w).mono ?_
    rintro e w' ⟨v', rfl, ho, _, hb⟩
    exact ⟨_, rfl, key v' w' ho, hb⟩
  ·obtain ⟨b, off, rfl, hcells⟩ := h_ints_at hr0 h0
   refine (Try.slices_Clone_int b off l0.length c0 l0 w (Nat.le_refl _) hl hcells).mono ?_
   rintro e w' ⟨v', rfl, ho, _, hb⟩
   rw [List.take_length] at ho
   exact ⟨_, rfl, key v' w' ho, hb⟩
 ·rw [if_neg hl] at h
  cases h

/-! ### slices_SortFunc_int_int: function 82, by hand -/
-- PURE BLOCK eqlist
theorem seq_l (a b : List Int) (hl : a.length = b.length) (ha : a.length ≤ 4611686018427387904) : ∀ (d i : Nat), i + d = a.length → Ev (fun k => slices_Equal_int_int.l0 k a b (a.length : Int) (i : Int)) (decide (a.drop i = b.drop i))
 | 0, i, h => ev_stop fun k => by
  rw [slices_Equal_int_int.l0, if_neg (by omega), List.drop_of_length_le (show a.length ≤ i by omega), List.drop_of_length_le (show b.length ≤ i by omega), decide_eq_true rfl]
 | d + 1, i, h => by
  have hn : wrap64 ((i : Int) + 1) = ((i + 1 : Nat) : Int) := by rw [w64 (by omega) (by omega)]; omega
  have da : a.drop i = rd a (i : Int) :: a.drop (i + 1) := by rw [List.drop_eq_getElem_cons (show i < a.length by omega), rdn, List.getD_eq_getElem?_getD, List.getElem?_eq_getElem (show i < a.length by omega)]; rfl
  have db : b.drop i = rd b (i : Int) :: b.drop (i + 1) := by rw [List.drop_eq_getElem_cons (show i < b.length by omega), rdn, List.getD_eq_getElem?_getD, List.getElem?_eq_getElem (show i < b.length by omega)]; rfl
  rw [da, db]
  by_cases h1 : rd a (i : Int) = rd b (i : Int)
  ·have ih := seq_l a b hl ha d (i + 1) (by omega)
   have e : decide (rd a (i : Int) :: a.drop (i + 1) = rd b (i : Int) :: b.drop (i + 1)) = decide (a.drop (i + 1) = b.drop (i + 1)) := by simp [h1]
   rw [e]
   refine ev_step ih fun k => ?_
   rw [slices_Equal_int_int.l0, if_pos (by omega), if_pos (by omega), if_pos (by omega), if_pos (by omega), if_pos h1, hn]
  ·rw [decide_eq_false (show ¬ (rd a (i : Int) :: a.drop (i + 1) = rd b (i : Int) :: b.drop (i + 1)) from fun h => h1 (List.cons.inj h).1)]
   exact ev_stop fun k => by
    rw [slices_Equal_int_int.l0, if_pos (by omega), if_pos (by omega), if_pos (by omega), if_pos (by omega), if_neg h1]
theorem seq_tells (a b : List Int) (ha : a.length ≤ 4611686018427387904) : Ev (fun k => slices_Equal_int_int.f k a b) (decide (a = b)) := by
 by_cases hl : a.length = b.length
 ·have h := seq_l a b hl ha a.length 0 (by omega)
  rw [List.drop_zero, List.drop_zero] at h
  exact ev_ite_pos (by omega) h
 ·rw [decide_eq_false (fun e => hl (by rw [e]))]
  exact ev_ite_neg (by omega) (ev_some fun _ => rfl)

/-- A slice value, its numbers, and where it came from. -/
abbrev Tup := Value × List Int × Nat
/-- A slice of numbers that is read whatever is done to the blocks in S. -/
def Reads1 (S : Nat → Prop) (w : World) (v : Value) (x : List Int) : Prop := ∃ A c, v = .slice A x.length c ∧ x.length ≤ c ∧ ∀ W, Kept w W S → (Kd.int .i64).C W A x.length x
theorem Reads1.kept {S : Nat → Prop} {w w' : World} {v : Value} {x : List Int} (h : Reads1 S w v x) (hk : Kept w w' S) : Reads1 S w' v x := by
 obtain ⟨A, c, h1, h2, h3⟩ := h
 refine ⟨A, c, h1, h2, fun W hW => h3 W ⟨Nat.le_trans hk.1 hW.1, fun i hi hn => ?_⟩⟩
 rw [hW.2 i (Nat.lt_of_lt_of_le hi hk.1) hn, hk.2 i hi hn]
theorem Reads1.sub {S S' : Nat → Prop} {w : World} {v : Value} {x : List Int} (h : Reads1 S w v x) (hs : ∀ k, S' k → S k) : Reads1 S' w v x := by
 obtain ⟨A, c, h1, h2, h3⟩ := h
 exact ⟨A, c, h1, h2, fun W hW => h3 W ⟨hW.1, fun i hi hn => hW.2 i hi fun hs' => hn (hs i hs')⟩⟩
theorem h_sets_blk {g : Nat} {t : TypeId} : ∀ (vs : List Value) (o : Nat) (W : World) (cur : Array Value), W.heap[g]? = some (.cells cur t (0, 0)) → o + vs.length ≤ cur.size → ∃ cur' : Array Value, (W.setCells g o vs).heap[g]? = some (.cells cur' t (0, 0)) ∧ cur'.toList = cur.toList.take o ++ vs ++ cur.toList.drop (o + vs.length)
 | [], o, W, cur, h, _ => ⟨cur, h, by simp⟩
 | v :: vs, o, W, cur, h, hl => by
  simp only [List.length_cons] at hl
  obtain ⟨cur', h1, h2⟩ := h_sets_blk vs (o + 1) (W.setCell ⟨g, o, none⟩ v) _ (blk_set h o v) (by simp; omega)
  refine ⟨cur', h1, ?_⟩
  rw [h2, Array.toList_setIfInBounds]
  have e1 : (cur.toList.set o v).take (o + 1) = cur.toList.take o ++ [v] := by
   rw [List.take_succ_eq_append_getElem (by rw [List.length_set]; simp; omega), List.take_set_of_le (Nat.le_refl o)]
   simp
  have e2 : (cur.toList.set o v).drop (o + 1 + vs.length) = cur.toList.drop (o + (vs.length + 1)) := by
   rw [List.drop_set_of_lt (by omega), show o + 1 + vs.length = o + (vs.length + 1) by omega]
  rw [e1, e2]
  simp
theorem own_sets {w : World} {base e g n c : Nat} {vals vals' : List Value} (h : w.ownsRow base e 1 (.slice (some ⟨g, 0, none⟩) n c) n vals) (hl : vals'.length = n) : (w.setCells g 0 vals').ownsRow base e 1 (.slice (some ⟨g, 0, none⟩) n c) n vals' := by
 rcases h.2 with ⟨hv, _⟩ | ⟨g', cap', cur, hv, hb, hh, hlc, hcm, hcs, htk⟩
 ·cases hv
 injection hv with ha _ hc
 injection ha with ha
 injection ha with hg
 subst hg hc
 obtain ⟨cur', h1, h2⟩ := h_sets_blk vals' 0 w cur hh (by omega)
 refine ⟨by omega, .inr ⟨g, c, cur', rfl, hb, h1, hlc, hcm, ?_, ?_⟩⟩
 ·have := congrArg List.length h2
  simp at this
  omega
 ·rw [h2]
  simp [hl]
theorem own_move {w w' : World} {base e n sz : Nat} {v : Value} {vals : List Value} (h : w.ownsRow base e sz v n vals) (hm : ∀ k, v.ownBlock = some k → w'.heap[k]? = w.heap[k]?) : w'.ownsRow base e sz v n vals := by
 refine ⟨h.1, ?_⟩
 rcases h.2 with h | ⟨g, cap, cur, hv, hb, hh, rest⟩
 ·exact .inl h
 ·exact .inr ⟨g, cap, cur, hv, hb, by rw [hm g (by rw [hv]; rfl)]; exact hh, rest⟩
theorem own_below {w w' : World} {base e n sz : Nat} {v : Value} {vals : List Value} (h : w.ownsRow base e sz v n vals) (hb : Below w.heap.size w w') : w'.ownsRow base e sz v n vals := by
 refine ⟨h.1, ?_⟩
 rcases h.2 with h | ⟨g, cap, cur, hv, hb1, hh, rest⟩
 ·exact .inl h
 ·exact .inr ⟨g, cap, cur, hv, hb1, by rw [hb.block g (blk_lt hh)]; exact hh, rest⟩
/-- The cells of a row by its values. -/
theorem own_cell {w : World} {base e g n c : Nat} {vals : List Value} (h : w.ownsRow base e 1 (.slice (some ⟨g, 0, none⟩) n c) n vals) (j : Nat) (hj : j < n) : w.cell? ⟨g, j, none⟩ = some (vals.getD j undef) ∧ w.frozen? ⟨g, j, none⟩ = false := by
 rcases h.2 with ⟨hv, _⟩ | ⟨g', cap', cur, hv, hb, hh, hlc, hcm, hcs, htk⟩
 ·cases hv
 injection hv with ha _ hc
 injection ha with ha
 injection ha with hg
 subst hg hc
 have hl := h.1
 constructor
 ·have h1 : w.cell? ⟨g, j, none⟩ = cur[j]? := by simp [World.cell?, hh]
  rw [h1, ← htk, List.getD_eq_getElem?_getD, List.getElem?_take, if_pos (by omega)]
  rw [Array.getElem?_toList, Array.getElem?_eq_getElem (show j < cur.size by omega)]
  rfl
 ·simp [World.frozen?, hh]
theorem own_form {w : World} {base e n : Nat} {v : Value} {vals : List Value} (h : w.ownsRow base e 1 v n vals) (hn : 0 < n) : ∃ g c, v = .slice (some ⟨g, 0, none⟩) n c ∧ base ≤ g ∧ g < w.heap.size ∧ n ≤ c := by
 rcases h.2 with ⟨_, h0⟩ | ⟨g, c, cur, hv, hb, hh, hlc, _⟩
 ·omega
 ·exact ⟨g, c, hv, hb, blk_lt hh, hlc⟩
theorem own_val {w : World} {base e n : Nat} {v : Value} {vals : List Value} (h : w.ownsRow base e 1 v n vals) : ∃ A c, v = .slice A n c := by
 rcases h.2 with ⟨h, h0⟩ | ⟨g, c, cur, hv, _⟩
 ·exact ⟨none, 0, by rw [h, h0]⟩
 ·exact ⟨_, c, hv⟩
set_option maxHeartbeats 2000000 in
/-- slices.SortFunc of a row of slices, by slices.Compare. -/
theorem SortFunc_vals (v : Value) (ps : List Tup) (w0 w : World) (hB : Below w0.heap.size w0 w) (ho : w.ownsRow w0.heap.size 39 1 v ps.length (ps.map (·.1))) (hp : ∀ p ∈ ps, Reads1 (fun q => some q = v.ownBlock) w p.1 p.2.1) (hl : ps.length ≤ 1000000) (hs : ∀ p ∈ ps, p.2.1.length ≤ 1000000) :
  Calls Try.prog 82 #[v, .func (.func 83) #[] #[]] w fun e w' => e = .returned (.tuple #[]) ∧ ∃ qs : List Tup, qs.Perm ps ∧ qs.Pairwise (fun p q => ¬ cmpL q.2.1 p.2.1 < 0) ∧ w'.ownsRow w0.heap.size 39 1 v qs.length (qs.map (·.1)) ∧ Below w0.heap.size w0 w' ∧ Kept w w' (fun q => some q = v.ownBlock) := by
 rcases Nat.eq_zero_or_pos ps.length with h0 | h0
 ·obtain rfl : ps = [] := List.eq_nil_of_length_eq_zero h0
  obtain ⟨A, c, rfl⟩ := own_val ho
  refine (AnyF.slices_SortFunc_none { Try.laysSortFunc82 with } A c _ w).mono ?_
  rintro e w' ⟨rfl, rfl⟩
  exact ⟨rfl, [], .refl _, .nil, ho, hB, Kept.refl _ _⟩
 ·obtain ⟨g, c, rfl, hg, hgl, hnc⟩ := own_form ho h0
  have eg : ∀ args w, (callFunc 83 args).run Try.prog w = .ok (.enter 83 args) w := enters_ Try.func83 (by kernel_rfl) rfl
  let α := {p : Tup // p ∈ ps}
  have hne : ps ≠ [] := fun e => by rw [e] at h0; simp at h0
  letI : Inhabited α := ⟨⟨ps.head hne, List.head_mem hne⟩⟩
  let enc : α → Value := fun p => p.1.1
  let cf : α → α → Int := fun p q => cmpL p.1.2.1 q.1.2.1
  have hsz : ps.attach.toArray.size = ps.length := by simp
  have hH : Go.Sort.Holds enc w g 0 ps.attach.toArray := fun j hj => by
   have hj' : j < ps.length := by rw [hsz] at hj; exact hj
   obtain ⟨h1, h2⟩ := own_cell ho j hj'
   rw [Nat.zero_add]
   refine ⟨?_, h2⟩
   rw [h1, getElem!_pos ps.attach.toArray j hj]
   simp [enc, List.getD, List.getElem?_eq_getElem hj']
  have h1 : OneCell enc := fun p => by
   obtain ⟨A, k, e, _⟩ := hp p.1 p.2
   show p.1.1.oneCell' = true
   rw [e]
   rfl
  have hO : Go.Sort.SWO (Go.Proofs.ltOf cf) := {
   irrefl := fun x => by simp [Go.Proofs.ltOf, cf, cmpL_self]
   trans := fun x y z a b => by
    simp only [Go.Proofs.ltOf, decide_eq_true_eq] at a b ⊢
    exact cmpL_trans a b
   ntrans := fun x y z a b => by
    simp only [Go.Proofs.ltOf, decide_eq_false_iff_not] at a b ⊢
    exact cmpL_ntrans a b }
  have hput : ∀ (m : Nat) (dk : Array α), dk.size = ps.attach.toArray.size → Go.Sort.putRow enc (Go.Sort.ahead w m) g 0 dk = (w.drewN m).setCells g 0 (dk.toList.map enc) := fun m dk hd => by
   have := Lib.putRow_eq_setCells enc w g 0 ps.attach.toArray dk.toList m hH (by rw [Array.length_toList]; exact hd)
   simpa using this
  have hkp : ∀ (m : Nat) (os : Array Obj) (dk : Array α), dk.size = ps.attach.toArray.size → Kept w (Go.Proofs.sortWorld enc w g 0 m dk os) (fun q => some q = (Value.slice (some ⟨g, 0, none⟩) ps.length c).ownBlock) := fun m os dk hd => by
   unfold Go.Proofs.sortWorld
   rw [hput m dk hd]
   exact Kept.below (h_kept_sets (S := fun q => some q = (Value.slice (some ⟨g, 0, none⟩) ps.length c).ownBlock) (Kept.drewN (Kept.refl w _) m) (.inl rfl) _ _) (h_below_grow _ _)
  have hcmp : Go.Proofs.CmpLays1 Try.prog 83 #[] enc cf g 0 ps.attach.toArray.size w := fun m os dk hd x y => by
   obtain ⟨A, k, e, hk, hC⟩ := hp x.1 x.2
   obtain ⟨A2, k2, e2, hk2, hC2⟩ := hp y.1 y.2
   have hW := hkp m os dk hd
   obtain ⟨K, hK⟩ := scmp_tells x.1.2.1 y.1.2.1 (by have := hs x.1 x.2; omega)
   have hcall := slices_Compare_int_int.calls K A k x.1.2.1 A2 k2 y.1.2.1 _ _ (hC _ hW) hk (hC2 _ hW) hk2 (hK K (Nat.le_refl _))
   show Calls _ _ #[x.1.1, y.1.1] _ _
   rw [e, e2]
   refine hcall.mono ?_
   rintro e w' ⟨rfl, ⟨q, rfl⟩⟩
   exact ⟨rfl, q, #[], (Go.Sort.grow_empty _).symm⟩
  have hmain := Try.slices_SortFunc enc h1 cf hO 83 #[] g 0 c ps.attach.toArray w eg hcmp hH hgl (by rw [hsz]; omega)
  rw [hsz] at hmain
  refine hmain.mono ?_
  rintro e w' ⟨rfl, d', n, os, hperm, hsort, rfl⟩
  have hd : d'.size = ps.attach.toArray.size := hperm.1
  have hd' : d'.size = ps.length := by rw [hd, hsz]
  have hpp : d'.toList.Perm ps.attach := by
   have := hperm.2.2
   rw [← hd', Array.extract_size] at this
   rw [hd', ← hsz, Array.extract_size] at this
   simpa using this
  have hq : (d'.toList.map (·.1)).Perm ps := by
   have := hpp.map (·.1)
   rwa [List.attach_map_subtype_val] at this
  have hlen : (d'.toList.map (·.1)).length = ps.length := by simp [hd']
  have hmm : (d'.toList.map (·.1)).map (·.1) = d'.toList.map enc := by rw [List.map_map]; rfl
  refine ⟨rfl, d'.toList.map (·.1), hq, ?_, ?_, ?_, hkp n os d' hd⟩
  ·rw [List.pairwise_map, List.pairwise_iff_getElem]
   intro i j hi hj hij
   have hi' : i < d'.size := by simpa using hi
   have hj' : j < d'.size := by simpa using hj
   have := hsort i j (Nat.zero_le _) hij (by omega)
   rw [getElem!_pos d' i hi', getElem!_pos d' j hj'] at this
   simpa [Go.Proofs.ltOf, cf] using this
  ·rw [hlen, hmm]
   unfold Go.Proofs.sortWorld
   rw [hput n d' hd]
   refine own_below (own_sets (vals := ps.map (·.1)) (own_below ho (pw_below_drewN (Below.refl _ _) n)) (by simp [hd'])) (h_below_grow _ _)
  ·unfold Go.Proofs.sortWorld
   rw [hput n d' hd]
   exact below_then (h_below_sets (pw_below_drewN hB n) hg _ _) (h_below_sets (pw_below_drewN hB n) hg _ _).size (h_below_grow _ _)

/-! ### slices_CompactFunc_int_int: function 84, by hand -/
/-- What slices.CompactFunc leaves: of elements that follow one another and are equal, the first. -/
def keepR (prev : List Int) : List Tup → List Tup
 | [] => []
 | p :: r => if p.2.1 = prev then keepR p.2.1 r else p :: keepR p.2.1 r
def compT : List Tup → List Tup
 | [] => []
 | p :: r => p :: keepR p.2.1 r
def zT : Tup := (undef, [], 0)
theorem keepR_take : ∀ (r : List Tup) (prev : List Int) (j : Nat), j < r.length → keepR prev (r.take (j + 1)) = keepR prev (r.take j) ++ (if (r.getD j zT).2.1 = (if j = 0 then prev else (r.getD (j - 1) zT).2.1) then [] else [r.getD j zT])
 | [], _, _, h => by simp at h
 | p :: r, prev, 0, _ => by
  simp [keepR]
 | p :: r, prev, j + 1, h => by
  have ih := keepR_take r p.2.1 j (by simpa using h)
  rw [List.take_succ_cons, List.take_succ_cons, keepR, keepR]
  have e : (if j + 1 = 0 then prev else ((p :: r).getD (j + 1 - 1) zT).2.1) = (if j = 0 then p.2.1 else (r.getD (j - 1) zT).2.1) := by
   rw [if_neg (by omega)]
   cases j with
   | zero => rfl
   | succ j => rfl
  rw [e, show (p :: r).getD (j + 1) zT = r.getD j zT from rfl, ih]
  split <;> simp
theorem compT_take (ps : List Tup) (j : Nat) (h0 : 0 < j) (h : j < ps.length) : compT (ps.take (j + 1)) = compT (ps.take j) ++ (if (ps.getD j zT).2.1 = (ps.getD (j - 1) zT).2.1 then [] else [ps.getD j zT]) := by
 cases ps with
 | nil => simp at h
 | cons p r =>
  obtain ⟨i, rfl⟩ : ∃ i, j = i + 1 := ⟨j - 1, by omega⟩
  rw [List.take_succ_cons, List.take_succ_cons, compT, compT, keepR_take r p.2.1 i (by simpa using h)]
  have e : (if i = 0 then p.2.1 else (r.getD (i - 1) zT).2.1) = ((p :: r).getD (i + 1 - 1) zT).2.1 := by
   cases i with
   | zero => rfl
   | succ i => rfl
  rw [e, show (p :: r).getD (i + 1) zT = r.getD i zT from rfl]
  simp
theorem keepR_sub : ∀ (r : List Tup) (prev : List Int), (keepR prev r).Sublist r
 | [], _ => List.Sublist.refl _
 | p :: r, prev => by
  rw [keepR]
  split
  ·exact (keepR_sub r _).cons _
  ·exact (keepR_sub r _).cons_cons _
theorem compT_sub : ∀ ps : List Tup, (compT ps).Sublist ps
 | [] => List.Sublist.refl _
 | p :: r => by
  rw [compT]
  exact (keepR_sub r _).cons_cons _
theorem compT_small {ps : List Tup} (h : ps.length < 2) : compT ps = ps := by
 match ps, h with
 | [], _ => rfl
 | [p], _ => rfl
theorem h_getT (ps : List Tup) (j : Nat) (h : j < ps.length) : (ps.map (·.1)).getD j undef = (ps.getD j zT).1 ∧ ps.getD j zT ∈ ps := by
 constructor
 ·simp [List.getD, List.getElem?_eq_getElem h]
 ·exact mem_getD ps zT j h
/-- What the row holds after some rounds. -/
structure CompG (ps : List Tup) (i j : Nat) (cur : List Tup) : Prop where
 lo : 1 ≤ i
 lt : i < j
 le : j ≤ ps.length
 len : cur.length = ps.length
 low : cur.take i = compT (ps.take j)
 high : cur.drop (j - 1) = ps.drop (j - 1)
section
variable {ps cur : List Tup} {i j : Nat}
theorem CompG.start {k : Nat} (hk : 1 ≤ k) (hkn : k < ps.length) (hc : compT (ps.take k) = ps.take k) (he : (ps.getD k zT).2.1 = (ps.getD (k - 1) zT).2.1) : CompG ps k (k + 1) ps := by
 refine ⟨hk, by omega, by omega, rfl, ?_, rfl⟩
 rw [compT_take ps k (by omega) hkn, if_pos he, List.append_nil, hc]
theorem CompG.at_ (h : CompG ps i j cur) (q : Nat) (hq : j - 1 ≤ q) : cur.getD q zT = ps.getD q zT := by
 have h1 := congrArg (fun l : List Tup => l[q - (j - 1)]?) h.high
 simp only [List.getElem?_drop] at h1
 rw [show j - 1 + (q - (j - 1)) = q by omega] at h1
 simp only [List.getD]
 rw [h1]
theorem CompG.keep (h : CompG ps i j cur) (hj : j < ps.length) (hne : (ps.getD j zT).2.1 ≠ (ps.getD (j - 1) zT).2.1) : CompG ps (i + 1) (j + 1) (cur.set i (ps.getD j zT)) := by
 have h0 := h.lo
 have hi := h.lt
 have hlen := h.len
 refine ⟨by omega, by omega, by omega, by simpa using h.len, ?_, ?_⟩
 ·rw [compT_take ps j (by omega) hj, if_neg hne, List.take_succ_eq_append_getElem (by rw [List.length_set]; omega), List.take_set_of_le (Nat.le_refl i), h.low]
  simp
 ·rw [List.drop_set_of_lt (by omega)]
  have := congrArg (List.drop 1) h.high
  rw [List.drop_drop, List.drop_drop, show j - 1 + 1 = j + 1 - 1 by omega] at this
  exact this
theorem CompG.skip (h : CompG ps i j cur) (hj : j < ps.length) (he : (ps.getD j zT).2.1 = (ps.getD (j - 1) zT).2.1) : CompG ps i (j + 1) cur := by
 have h0 := h.lo
 have hi := h.lt
 refine ⟨h0, by omega, by omega, h.len, ?_, ?_⟩
 ·rw [h.low, compT_take ps j (by omega) hj, if_pos he, List.append_nil]
 ·have := congrArg (List.drop 1) h.high
  rw [List.drop_drop, List.drop_drop, show j - 1 + 1 = j + 1 - 1 by omega] at this
  exact this
end
theorem own_set {w : World} {base e g n c : Nat} {vals : List Value} (h : w.ownsRow base e 1 (.slice (some ⟨g, 0, none⟩) n c) n vals) (i : Nat) (hi : i < n) (u : Value) : (w.setCell ⟨g, i, none⟩ u).ownsRow base e 1 (.slice (some ⟨g, 0, none⟩) n c) n (vals.set i u) := by
 rcases h.2 with ⟨hv, _⟩ | ⟨g', cap', cur, hv, hb, hh, hlc, hcm, hcs, htk⟩
 ·cases hv
 injection hv with ha _ hc
 injection ha with ha
 injection ha with hg
 subst hg hc
 refine ⟨by rw [List.length_set]; exact h.1, .inr ⟨g, c, _, rfl, hb, blk_set hh i u, hlc, hcm, by simpa using hcs, ?_⟩⟩
 rw [Array.toList_setIfInBounds, List.take_set, htk]
/-- The first elements of a row, whatever is stored behind them. -/
theorem own_cut {w : World} {base e g n c : Nat} {vals : List Value} (h : w.ownsRow base e 1 (.slice (some ⟨g, 0, none⟩) n c) n vals) (i : Nat) (hi : i ≤ n) (vs : List Value) (hv : i + vs.length ≤ n) : (w.setCells g i vs).ownsRow base e 1 (.slice (some ⟨g, 0, none⟩) i c) i (vals.take i) := by
 have hl := h.1
 rcases h.2 with ⟨hv, _⟩ | ⟨g', cap', cur, hv, hb, hh, hlc, hcm, hcs, htk⟩
 ·cases hv
 injection hv with ha _ hc
 injection ha with ha
 injection ha with hg
 subst hg hc
 obtain ⟨cur', h1, h2⟩ := h_sets_blk vs i w cur hh (by omega)
 refine ⟨by rw [List.length_take]; omega, .inr ⟨g, c, cur', rfl, hb, h1, by omega, hcm, ?_, ?_⟩⟩
 ·have := congrArg List.length h2
  simp at this
  omega
 ·rw [h2, ← htk, List.take_take]
  have hcl : cur.toList.length = c := by simp [hcs]
  rw [List.append_assoc, List.take_append_of_le_length (by rw [List.length_take]; omega), List.take_take]
  congr 1
  omega
set_option maxHeartbeats 4000000 in
set_option maxRecDepth 100000 in
/-- slices.CompactFunc of a row of slices, by slices.Equal. -/
theorem CompactFunc_vals (v : Value) (ps : List Tup) (w0 w : World) (hB : Below w0.heap.size w0 w) (ho : w.ownsRow w0.heap.size 39 1 v ps.length (ps.map (·.1))) (hp : ∀ p ∈ ps, Reads1 (fun q => some q = v.ownBlock) w p.1 p.2.1) (hl : ps.length ≤ 1000000) (hs : ∀ p ∈ ps, p.2.1.length ≤ 1000000) :
  Calls Try.prog 84 #[v, .func (.func 66) #[] #[]] w fun e w' => ∃ v0, e = .returned v0 ∧ w'.ownsRow w0.heap.size 39 1 v0 (compT ps).length ((compT ps).map (·.1)) ∧ (v0 = v ∨ v0.ownBlock = v.ownBlock) ∧ Below w0.heap.size w0 w' ∧ Kept w w' (fun q => some q = v.ownBlock) := by
 by_cases h2 : ps.length < 2
 ·have ec := compT_small h2
  rw [ec]
  obtain ⟨A, c, rfl⟩ := own_val ho
  have h2z : (ps.length : Int) < 2 := by omega
  have HO := Aside0.mk ho
  have HB := Aside0.mk hB
  clear ho hB hp hs
  go_enter Try.func84, Try.ntmps84
  go_wp2
  go_ret
  exact ⟨_, rfl, HO.out, .inl rfl, HB.out, Kept.refl _ _⟩
 ·obtain ⟨g, c, rfl, hg, hgl, hnc⟩ := own_form ho (by omega)
  have eg : ∀ args w, (callFunc 66 args).run Try.prog w = .ok (.enter 66 args) w := enters_ Try.func66 (by kernel_rfl) rfl
  have HE := Lib.hid (show ∀ (p q : Tup) (W : World), p ∈ ps → q ∈ ps → Kept w W (fun k => some k = (Value.slice (some ⟨g, 0, none⟩) ps.length c).ownBlock) → Calls Try.prog 66 #[p.1, q.1] W fun e w' => e = .returned (.bool (decide (p.2.1 = q.2.1))) ∧ Drawn0 W w' from fun p q W hpm hqm hk => by
   obtain ⟨A1, k1, e1, hk1, hC1⟩ := hp p hpm
   obtain ⟨A2, k2, e2, hk2, hC2⟩ := hp q hqm
   obtain ⟨K, hK⟩ := seq_tells p.2.1 q.2.1 (by have := hs p hpm; omega)
   rw [e1, e2]
   exact slices_Equal_int_int.calls K A1 k1 p.2.1 A2 k2 q.2.1 _ W (hC1 W hk) hk1 (hC2 W hk) hk2 (hK K (Nat.le_refl _)))
  have HV := Aside0.mk (show ∀ p ∈ ps, ∃ A n, p.1 = .slice A p.2.1.length n from fun p hpm => (hp p hpm).imp fun _ h => h.imp fun _ h => h.1)
  have h2z : ¬ (ps.length : Int) < 2 := by omega
  have HO0 := Aside0.mk ho
  have HB0 := Aside0.mk hB
  have HG0 := Aside0.mk hg
  have HS := Aside0.mk (show (some g = (Value.slice (some ⟨g, 0, none⟩) ps.length c).ownBlock) ∨ w.heap.size ≤ g from .inl rfl)
  have HNC := Aside0.mk hnc
  clear ho hB hp hs hg
  go_enter Try.func84, Try.ntmps84
  go_wp2
  go_loopg [5] ps.length (fun gg s5 wr => ∃ k : Nat, s5 = .int .i64 k ∧ 1 ≤ k ∧ k ≤ ps.length ∧ ps.length - k ≤ gg ∧ Aside0 (compT (ps.take k) = ps.take k) ∧ Aside0 (Below w.heap.size w wr))
  case atStart => exact ⟨1, rfl, Nat.le_refl _, by omega, by omega, ⟨compT_small (by simp; omega)⟩, ⟨Below.refl _ _⟩⟩
  case round =>
   obtain ⟨k, rfl, hk1, hkn, hgg, HC, HD⟩ := hrel
   by_cases hlt : k < ps.length
   ·have hltz : (k : Int) < (ps.length : Int) := by omega
    have HOr := Aside0.mk (own_below HO0.out HD.out)
    obtain ⟨kp, hkp⟩ : ∃ kp, kp + 1 = k := ⟨k - 1, by omega⟩
    have hwk : IntKind.i64.wrap ((k : Int) - 1) = (kp : Int) := by rw [← hkp]; simp [IntKind.wrap, IntKind.bits, IntKind.signed]; omega
    have hkp0 : (0 : Int) ≤ (kp : Int) := by omega
    have hkp1 : (kp : Int) < (ps.length : Int) := by omega
    have hk0z : (0 : Int) ≤ (k : Int) := by omega
    obtain ⟨hx1, hf1⟩ := own_cell HOr.out k hlt
    obtain ⟨hx0, hf0⟩ := own_cell HOr.out kp (by omega)
    obtain ⟨e1, m1⟩ := h_getT ps k hlt
    obtain ⟨e0, m0⟩ := h_getT ps kp (by omega)
    rw [e1] at hx1
    rw [e0] at hx0
    have hcall := fun (W : World) (hb : Below w.heap.size w W) => HE.out _ _ W m1 m0 (Kept.of_below hb _)
    obtain ⟨y1, hy1⟩ : ∃ y, y = ps.getD k zT := ⟨_, rfl⟩
    obtain ⟨y0, hy0⟩ : ∃ y, y = ps.getD kp zT := ⟨_, rfl⟩
    rw [← hy1, ← hy0] at hcall
    rw [← hy1] at hx1
    rw [← hy0] at hx0
    have HY1 := Aside0.mk hy1
    have HY0 := Aside0.mk hy0
    clear e1 m1 e0 m0 hf1 hf0 hy1 hy0
    cases hq : decide (y1.2.1 = y0.2.1) with
    | false =>
     rw [hq] at hcall
     have HQ := Aside0.mk (of_decide_eq_false hq)
     clear hq
     go_wp2
     go_region_held3 (fun w' => Below w.heap.size w w' ∧ w'.cell? ⟨g, k, none⟩ = some y1.1 ∧ w'.cell? ⟨g, kp, none⟩ = some y0.1) (first | assumption | exact ⟨below_drew HD.out, hx1, hx0⟩)
      (first | (go_at_fn 66; have hS := ‹Below w.heap.size w _ ∧ _ ∧ _›; refine (hcall _ hS.1).mono ?_; rintro e w2 ⟨rfl, hd⟩; have hb := hd.below; have hS2 := And.intro (below_step hS.1 hb) (And.intro (pw_cell_below hb hS.2.1) (pw_cell_below hb hS.2.2)); clear hS hb hd))
     have hS := ‹Below w.heap.size w _ ∧ _ ∧ _›
     go_wp2
     go_roundg (ps.length - (k + 1))
     case measure => omega
     case rel => exact ⟨k + 1, by go_num, by omega, by omega, by omega, ⟨by rw [compT_take ps k (by omega) hlt, if_neg (by rw [show k - 1 = kp by omega, ← HY1.out, ← HY0.out]; exact HQ.out), HC.out, List.take_succ_eq_append_getElem hlt]; simp [List.getD, List.getElem?_eq_getElem hlt]⟩, ⟨hS.1⟩⟩
    | true =>
     rw [hq] at hcall
     have HQ := Aside0.mk (of_decide_eq_true hq)
     have hkc : k ≤ c := by have := HNC.out; omega
     have hkz : (k : Int) ≤ (ps.length : Int) := by omega
     clear hq
     go_wp2
     go_region_held3 (fun w' => Below w.heap.size w w' ∧ w'.cell? ⟨g, k, none⟩ = some y1.1 ∧ w'.cell? ⟨g, kp, none⟩ = some y0.1) (first | assumption | exact ⟨below_drew HD.out, hx1, hx0⟩)
      (first | (go_at_fn 66; have hS := ‹Below w.heap.size w _ ∧ _ ∧ _›; refine (hcall _ hS.1).mono ?_; rintro e w2 ⟨rfl, hd⟩; have hb := hd.below; have hS2 := And.intro (below_step hS.1 hb) (And.intro (pw_cell_below hb hS.2.1) (pw_cell_below hb hS.2.2)); clear hS hb hd))
     have hS := ‹Below w.heap.size w _ ∧ _ ∧ _›
     go_wp2
     go_loopg [5, 7] ps.length (fun gg s5 s7 wr => ∃ (i q j : Nat) (cur : List Tup), s5 = .int .i64 i ∧ s7 = .int .i64 q ∧ k + q = j ∧ 1 ≤ q ∧ ps.length - j ≤ gg ∧ Aside0 (CompG ps i j cur) ∧ Aside0 (wr.ownsRow w0.heap.size 39 1 (.slice (some ⟨g, 0, none⟩) ps.length c) ps.length (cur.map (·.1))) ∧ Aside0 (Below w0.heap.size w0 wr) ∧ Aside0 (Kept w wr (fun b => some b = (Value.slice (some ⟨g, 0, none⟩) ps.length c).ownBlock)))
     case atStart => exact ⟨k, 1, k + 1, ps, rfl, rfl, rfl, Nat.le_refl _, by omega, ⟨CompG.start hk1 hlt HC.out (by rw [show k - 1 = kp by omega, ← HY1.out, ← HY0.out]; exact HQ.out)⟩, ⟨own_below HO0.out hS.1⟩, ⟨below_step HB0.out hS.1⟩, ⟨Kept.of_below hS.1 _⟩⟩
     case round =>
      clear hS HD HOr hx1 hx0 hcall HY1 HY0 HQ HC hwk
      obtain ⟨i, q, j, cur, rfl, rfl, hj, hq1, hgg2, HI, HO, HB, HK⟩ := hrel
      have hi1 := HI.out.lo
      have hij := HI.out.lt
      have hjn := HI.out.le
      have hcl := HI.out.len
      by_cases hlt2 : j < ps.length
      ·have hltz2 : (q : Int) < ((ps.length - k : Nat) : Int) := by omega
       obtain ⟨qp, hqp⟩ : ∃ qp, qp + 1 = q := ⟨q - 1, by omega⟩
       have hwq : IntKind.i64.wrap ((q : Int) - 1) = (qp : Int) := by rw [← hqp]; simp [IntKind.wrap, IntKind.bits, IntKind.signed]; omega
       have hqp0 : (0 : Int) ≤ (qp : Int) := by omega
       have hqp1 : (qp : Int) < ((ps.length - k : Nat) : Int) := by omega
       have hq0z : (0 : Int) ≤ (q : Int) := by omega
       have hi0z : (0 : Int) ≤ (i : Int) := by omega
       have hinz : (i : Int) < (ps.length : Int) := by omega
       obtain ⟨hx1, _⟩ := own_cell HO.out j hlt2
       obtain ⟨hx0, _⟩ := own_cell HO.out (j - 1) (by omega)
       obtain ⟨hxi, hfi⟩ := own_cell HO.out i (by omega)
       have e1 := (h_getT cur j (by omega)).1
       have e0 := (h_getT cur (j - 1) (by omega)).1
       rw [HI.out.at_ j (by omega)] at e1
       rw [HI.out.at_ (j - 1) (by omega)] at e0
       rw [e1] at hx1
       rw [e0] at hx0
       have hcall := fun (W : World) (hb : Kept w W (fun b => some b = (Value.slice (some ⟨g, 0, none⟩) ps.length c).ownBlock)) => HE.out _ _ W (h_getT ps j hlt2).2 (h_getT ps (j - 1) (by omega)).2 hb
       obtain ⟨y1, hy1⟩ : ∃ y, y = ps.getD j zT := ⟨_, rfl⟩
       obtain ⟨y0, hy0⟩ : ∃ y, y = ps.getD (j - 1) zT := ⟨_, rfl⟩
       obtain ⟨vi, hvi⟩ : ∃ vi, vi = (cur.map (·.1)).getD i undef := ⟨_, rfl⟩
       rw [← hy1, ← hy0] at hcall
       rw [← hy1, show j = k + q by omega] at hx1
       rw [← hy0, show j - 1 = k + qp by omega] at hx0
       rw [← hvi] at hxi
       have HY1 := Aside0.mk hy1
       have HY0 := Aside0.mk hy0
       clear e1 e0 hy1 hy0 hvi
       have HJ := Aside0.mk hj
       clear hj hqp
       cases hq : decide (y1.2.1 = y0.2.1) with
       | true =>
        rw [hq] at hcall
        have HQ := Aside0.mk (of_decide_eq_true hq)
        clear hq
        go_wp2
        go_region_held3 (fun w' => Below wr.heap.size wr w' ∧ w'.cell? ⟨g, k + q, none⟩ = some y1.1 ∧ w'.cell? ⟨g, k + qp, none⟩ = some y0.1) (first | assumption | exact ⟨below_drew (Below.refl _ _), hx1, hx0⟩)
         (first | (go_at_fn 66; have hS := ‹Below wr.heap.size wr _ ∧ _ ∧ _›; refine (hcall _ (Kept.below HK.out hS.1)).mono ?_; rintro e w2 ⟨rfl, hd⟩; have hb := hd.below; have hS2 := And.intro (below_step hS.1 hb) (And.intro (pw_cell_below hb hS.2.1) (pw_cell_below hb hS.2.2)); clear hS hb hd))
        have hS := ‹Below wr.heap.size wr _ ∧ _ ∧ _›
        go_wp2
        have hj := HJ.out
        go_roundg (ps.length - (j + 1))
        case measure => omega
        case rel => exact ⟨i, q + 1, j + 1, cur, rfl, by go_num, by omega, by omega, by omega, ⟨HI.out.skip hlt2 (by rw [← HY1.out, ← HY0.out]; exact HQ.out)⟩, ⟨own_below HO.out hS.1⟩, ⟨below_step HB.out hS.1⟩, ⟨Kept.below HK.out hS.1⟩⟩
       | false =>
        rw [hq] at hcall
        have HQ := Aside0.mk (of_decide_eq_false hq)
        clear hq
        obtain ⟨A1, n1, hv1⟩ := HV.out y1 (by rw [HY1.out]; exact (h_getT ps j hlt2).2)
        rw [hv1] at hx1 hcall
        go_wp2
        go_region_held3 (fun w' => Below wr.heap.size wr w' ∧ w'.cell? ⟨g, k + q, none⟩ = some (.slice A1 y1.2.1.length n1) ∧ w'.cell? ⟨g, k + qp, none⟩ = some y0.1) (first | assumption | exact ⟨below_drew (Below.refl _ _), hx1, hx0⟩)
         (first | (go_at_fn 66; have hS := ‹Below wr.heap.size wr _ ∧ _ ∧ _›; refine (hcall _ (Kept.below HK.out hS.1)).mono ?_; rintro e w2 ⟨rfl, hd⟩; have hb := hd.below; have hS2 := And.intro (below_step hS.1 hb) (And.intro (pw_cell_below hb hS.2.1) (pw_cell_below hb hS.2.2)); clear hS hb hd))
        have hS := ‹Below wr.heap.size wr _ ∧ _ ∧ _›
        have hO3 := Aside0.mk (own_below HO.out hS.1)
        have hz1 := hS.2.1
        have hzi := (own_cell hO3.out i (by omega)).1
        have hzf := (own_cell hO3.out i (by omega)).2
        go_wp2
        have hj := HJ.out
        go_roundg (ps.length - (j + 1))
        case measure => omega
        case rel =>
         refine ⟨i + 1, q + 1, j + 1, cur.set i (ps.getD j zT), by go_num, by go_num, by omega, by omega, by omega, ⟨HI.out.keep hlt2 (by rw [← HY1.out, ← HY0.out]; exact HQ.out)⟩, ⟨?_⟩, ⟨below_set (below_step HB.out hS.1) HG0.out⟩, ⟨(Kept.below HK.out hS.1).setCell (p := ⟨g, i, none⟩) HS.out _⟩⟩
         rw [List.map_set, ← HY1.out]
         rw [hv1]
         exact own_set hO3.out i (by omega) _
      ·obtain rfl : j = ps.length := by omega
       have hltz2 : ¬ (q : Int) < ((ps.length - k : Nat) : Int) := by omega
       have hlow := HI.out.low
       rw [List.take_of_length_le (l := ps) (Nat.le_refl _)] at hlow
       have hil : i < ps.length := hij
       have hic : i ≤ c := by have := HNC.out; omega
       have hicz : (i : Int) ≤ (ps.length : Int) := by omega
       have hcl2 : ∀ ty, (Builtin.clear_ #[40] ty #[.slice (some ⟨g, i, none⟩) (ps.length - i) (c - i)]).run Try.prog wr = .ok (.tuple #[]) (wr.setCells g i (List.replicate (ps.length - i) (.slice none 0 0))) :=
        fun ty => Lib.run_clear_slice wr _ _ ty _ Try.underlying40 Try.zeroValue39 rfl rfl g i _ _ (by omega) (fun t ht => by
         rw [(own_cell HO.out (i + t) (by omega)).1]
         rfl) (fun t ht => (own_cell HO.out (i + t) (by omega)).2)
       have HLOW := Aside0.mk hlow
       clear hlow
       go_wp2
       go_ret
       have hT := own_cut HO.out i (by omega) (List.replicate (ps.length - i) (.slice none 0 0)) (by simp; omega)
       rw [← List.map_take, HLOW.out] at hT
       have hlen3 : (compT ps).length = i := by rw [← HLOW.out, List.length_take]; omega
       rw [hlen3]
       exact ⟨_, rfl, hT, .inr rfl, h_below_sets HB.out HG0.out _ _, h_kept_sets HK.out HS.out _ _⟩
   ·obtain rfl : k = ps.length := by omega
    have hltz : ¬ (ps.length : Int) < (ps.length : Int) := by omega
    have hc := HC.out
    rw [List.take_of_length_le (l := ps) (Nat.le_refl _)] at hc
    have HCC := Aside0.mk hc
    clear hc HC
    go_wp2
    go_ret
    rw [HCC.out]
    exact ⟨_, rfl, own_below HO0.out HD.out, .inl rfl, below_step HB0.out HD.out, Kept.of_below HD.out _⟩

end Go.Proofs.Ytcihgepinnajjaa.PFnExactUnionOf
