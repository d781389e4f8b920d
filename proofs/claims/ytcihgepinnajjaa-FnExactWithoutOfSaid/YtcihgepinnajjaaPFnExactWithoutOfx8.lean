-- Written for this claim by the session's own program (drive.py), over the kit's print, with contracts typed by hand.
import Derived.Test.YtcihgepinnajjaaPFnExactWithoutOfx0
import Derived.Test.YtcihgepinnajjaaPFnExactWithoutOfx2
import Derived.Test.YtcihgepinnajjaaPFnExactWithoutOfx6
import Derived.Test.YtcihgepinnajjaaPFnExactWithoutOfx7
namespace Go.Proofs.Ytcihgepinnajjaa.PFnExactWithoutOf
open Go.RowKit Go.Proofs.YtcihgepinnajjaaW.PrintWords Go.Proofs.YtcihgepinnajjaaW.PrintLast Go.Proofs.YtcihgepinnajjaaW.PrintMore
attribute [local go_sem] max2_int min2_int max_two min_two max_three min_three max_four min_four   -- for this text's walks alone
set_option linter.unusedVariables false
set_option linter.unusedSimpArgs false

/-! ### impl_related: function 52, by hand -/
/-- A slice value reads these numbers. -/
def ReadsI (w : World) (v : Value) (x : List Int) : Prop := ∃ A c, v = .slice A x.length c ∧ x.length ≤ c ∧ (Kd.int .i64).C w A x.length x
theorem ReadsI.below {w w' : World} {v : Value} {x : List Int} (h : ReadsI w v x) (hb : Below w.heap.size w w') : ReadsI w' v x := by
 obtain ⟨A, c, h1, h2, h3⟩ := h
 exact ⟨A, c, h1, h2, Kd.C_below h3 hb⟩
theorem Reads1.now {S : Nat → Prop} {w : World} {v : Value} {x : List Int} (h : Reads1 S w v x) : ReadsI w v x := by
 obtain ⟨A, c, h1, h2, h3⟩ := h
 exact ⟨A, c, h1, h2, h3 w (Kept.refl _ _)⟩
/-- What is read of the caller's blocks is read whatever is done to blocks that came later. -/
theorem ReadsI.came {S : Nat → Prop} {w w1 : World} {v : Value} {x : List Int} (h : ReadsI w v x) (hb : Below w.heap.size w w1) (hS : ∀ k, S k → w.heap.size ≤ k) : Reads1 S w1 v x := by
 obtain ⟨A, c, h1, h2, h3⟩ := h
 exact ⟨A, c, h1, h2, Kd.C_kept_came (Kd.heap_int .i64) h3 hb hS⟩
theorem ReadsI.cell {w : World} {v : Value} {x : List Int} (h : ReadsI w v x) : v.oneCell' = true := by
 obtain ⟨A, c, rfl, _⟩ := h
 rfl
/-- Rows that are read, by their values. -/
theorem rows_vals {w : World} {A : Option Addr} {xs : List (List Int)} (h : Kd.C (Kd.slice 3 (Kd.int .i64)) w A xs.length xs) : ∃ ps : List Tup, ps.map (·.2.1) = xs ∧ (∀ p ∈ ps, ReadsI w p.1 p.2.1) ∧ (0 < xs.length → ∃ ad, A = some ad ∧ ∀ j u, (ps.map (·.1))[j]? = some u → w.cell? (ad.add j) = some u) := by
 rcases Nat.eq_zero_or_pos xs.length with h0 | h0
 ·obtain rfl : xs = [] := List.eq_nil_of_length_eq_zero h0
  exact ⟨[], rfl, by simp, by simp⟩
 ·obtain ⟨ad, rfl, hc⟩ := h.2.2 h0
  have hcell : ∀ j x, xs[j]? = some x → ReadsI w ((w.cell? (ad.add j)).getD undef) x ∧ w.cell? (ad.add j) = some ((w.cell? (ad.add j)).getD undef) := fun j x hj => by
   obtain ⟨c, _, hK, hcc⟩ := hc j x hj
   obtain ⟨A1, c1, rfl, hl1, hC1⟩ := hK
   have hsz : (Kd.slice 3 (Kd.int .i64)).sz = 1 := rfl
   have h1 := hcc 0 _ rfl
   rw [hsz, Nat.mul_one, Nat.add_zero] at h1
   rw [h1]
   exact ⟨⟨A1, c1, rfl, hl1, hC1⟩, rfl⟩
  refine ⟨xs.zipIdx.map fun z => ((w.cell? (ad.add z.2)).getD undef, z.1, z.2), ?_, ?_, fun _ => ⟨ad, rfl, ?_⟩⟩
  ·rw [List.map_map]
   show xs.zipIdx.map Prod.fst = xs
   exact List.zipIdx_map_fst 0 xs
  ·intro p hp
   obtain ⟨z, hz, rfl⟩ := List.mem_map.1 hp
   obtain ⟨j, hj⟩ := List.mem_iff_getElem?.1 hz
   rw [List.getElem?_zipIdx, Nat.zero_add] at hj
   obtain ⟨x, hx, rfl⟩ := Option.map_eq_some_iff.1 hj
   exact (hcell j x hx).1
  ·intro j u hu
   rw [List.map_map, List.getElem?_map] at hu
   obtain ⟨z, hz, rfl⟩ := Option.map_eq_some_iff.1 hu
   rw [List.getElem?_zipIdx, Nat.zero_add] at hz
   obtain ⟨x, hx, rfl⟩ := Option.map_eq_some_iff.1 hz
   exact (hcell j x hx).2
/-- A row of slices of the call's own is read. -/
theorem vals_C {w : World} {base : Nat} {v : Value} {ps : List Tup} (ho : w.ownsRow base 39 1 v ps.length (ps.map (·.1))) (hp : ∀ p ∈ ps, ReadsI w p.1 p.2.1) : ∃ A c, v = .slice A (ps.map (·.2.1)).length c ∧ (ps.map (·.2.1)).length ≤ c ∧ Kd.C (Kd.slice 3 (Kd.int .i64)) w A (ps.map (·.2.1)).length (ps.map (·.2.1)) := by
 have hl : (ps.map (·.2.1)).length = ps.length := List.length_map ..
 rcases Nat.eq_zero_or_pos ps.length with h0 | h0
 ·obtain rfl : ps = [] := List.eq_nil_of_length_eq_zero h0
  obtain ⟨A, c, rfl⟩ := own_val ho
  exact ⟨A, c, rfl, Nat.zero_le _, rfl, by simp, by simp⟩
 ·have ho2 := ho
  rcases ho.2 with ⟨_, h0'⟩ | ⟨g, c, cur, rfl, hb, hh, hlc, hcm, hcs, htk⟩
  ·omega
  ·rw [hl]
   have hm : maxLen ≤ 9223372036854775807 := by unfold maxLen; omega
   refine ⟨_, c, rfl, hlc, hl, by omega, fun _ => ⟨_, rfl, fun j x hj => ?_⟩⟩
   rw [List.getElem?_map] at hj
   obtain ⟨p, hpj, rfl⟩ := Option.map_eq_some_iff.1 hj
   obtain ⟨hjl, hje⟩ := List.getElem?_eq_some_iff.1 hpj
   obtain ⟨A1, c1, e1, hl1, hC1⟩ := hp p (by rw [← hje]; exact List.getElem_mem hjl)
   refine ⟨[p.1], rfl, ⟨A1, c1, by rw [e1], hl1, hC1⟩, fun i u hi => ?_⟩
   have hc := (own_cell ho2 j hjl).1
   cases i with
   | succ i => simp at hi
   | zero =>
    obtain rfl : p.1 = u := by simpa using hi
    have e2 : (ps.map (·.1)).getD j undef = p.1 := by rw [← hje]; simp [List.getD, List.getElem?_eq_getElem hjl]
    rw [e2] at hc
    have hsz : (Kd.slice 3 (Kd.int .i64)).sz = 1 := rfl
    rw [hsz, Nat.mul_one, Nat.add_zero, Addr.add_lit, Nat.zero_add]
    exact hc
/-- append of no elements. -/
theorem h_append_none {P : Program} (w : World) (t ty e : TypeId) (i : TypeInfo) (ht : P.underlying t = some (.slice e)) (hi : P.info? e = some i) (base sz : Nat) (v : Value) (n : Nat) (xs : List Value) (A : Option Addr) (m c : Nat) (hm : m = 0) (ho : w.ownsRow base sz 1 v n xs) :
  (Builtin.append_ #[t, t] ty #[v, .slice A m c]).run P w = .ok v w := by
 subst hm
 rcases ho.2 with ⟨rfl, rfl⟩ | ⟨g, cap, cur, rfl, _, _, hnc, _⟩
 ·cases A <;> simp [Builtin.append_, run_underlying ht, sizeOf, typeInfo, hi, Builtin.lenOf, Builtin.firstCells, loadCells, loadCellsFrom, storeCells]
 ·cases A <;> simp [Builtin.append_, run_underlying ht, sizeOf, typeInfo, hi, Builtin.lenOf, Builtin.firstCells, loadCells, loadCellsFrom, storeCells, hnc]
theorem h_append_at {P : Program} {ops : Array Oper} {o : Oper} {rest : List Oper} {a : Act} {Q : Exit → Act → World → Prop} {W W' : World} (hgd : o.guard = none) (s x : Operand) (t : TypeId) (v u v' : Value) (ho : o.op = .call { callee := .builtin .append, args := #[s, x], argTypes := #[t, t] }) (hs : a.eval s = v) (hx : a.eval x = u) (hr : (Builtin.append_ #[t, t] o.type #[v, u]).run P W = .ok v' W') (h : wpList P ops Q rest (a.put o.dst v') W') : wpList P ops Q (o :: rest) a W := by
 refine wpList_plain hgd fun K hK => ?_
 unfold Oper.wp execOp
 simp only [ho, resolve, invoke, builtin, Sem.run_bind, Sem.run_pure, Result.andThen_ok, List.map_toArray, List.map_cons, List.map_nil, hs, hx, hr]
 exact hK _ _ h
theorem memG {α : Type} (xs : List α) (z : α) (k : Nat) (hk : k < xs.length) : xs.getD k z ∈ xs := mem_getD xs z k hk
theorem filterG_none {α : Type} (z : α) (p : α → Bool) (xs : List α) (h : ∀ j, j < xs.length → p (xs.getD j z) = false) : xs.filter (fun x => !p x) = xs := by
 rw [List.filter_eq_self]
 intro x hx
 obtain ⟨j, hj, rfl⟩ := List.mem_iff_getElem.1 hx
 have := h j hj
 simpa [List.getD, List.getElem?_eq_getElem hj] using this
theorem idxG_spec {α : Type} (z : α) (p : α → Bool) (xs : List α) : (idxF p xs = -1 ∧ ∀ j, j < xs.length → p (xs.getD j z) = false) ∨ ∃ k, k < xs.length ∧ idxF p xs = (k : Int) ∧ p (xs.getD k z) = true ∧ ∀ j, j < k → p (xs.getD j z) = false := by
 unfold idxF
 cases h : xs.findIdx? p with
 | none =>
  left
  rw [List.findIdx?_eq_none_iff] at h
  refine ⟨rfl, fun j hj => h _ ?_⟩
  rw [show xs.getD j z = xs[j] from by simp [List.getD, List.getElem?_eq_getElem hj]]
  exact List.getElem_mem hj
 | some i =>
  right
  rw [List.findIdx?_eq_some_iff_getElem] at h
  obtain ⟨hi, hp, hn⟩ := h
  refine ⟨i, hi, rfl, by simpa [List.getD, List.getElem?_eq_getElem hi] using hp, fun j hj => ?_⟩
  have := hn j hj
  simpa [List.getD, List.getElem?_eq_getElem (show j < xs.length by omega)] using this
/-- What the row holds after some rounds: what is kept of the first j, up to i; from j on as it was. -/
structure DelG {α : Type} (z : α) (p : α → Bool) (xs : List α) (i j : Nat) (cur : List α) : Prop where
 lt : i < j
 le : j ≤ xs.length
 len : cur.length = xs.length
 low : cur.take i = (xs.take j).filter fun x => !p x
 high : cur.drop j = xs.drop j
section
variable {α : Type} {z : α} {p : α → Bool} {xs cur : List α} {i j : Nat}
theorem DelG.start {k : Nat} (hk : k < xs.length) (hp : p (xs.getD k z) = true) (hn : ∀ j, j < k → p (xs.getD j z) = false) : DelG z p xs k (k + 1) xs := by
 refine ⟨by omega, by omega, rfl, ?_, rfl⟩
 rw [List.take_succ_eq_append_getElem hk, List.filter_append]
 have h1 : (xs.take k).filter (fun x => !p x) = xs.take k := by
  refine filterG_none z p _ fun j hj => ?_
  have hj' : j < k := by simp at hj; omega
  have := hn j hj'
  rw [show (xs.take k).getD j z = xs.getD j z from by simp [List.getD, List.getElem?_take, hj']]
  exact this
 have h2 : p xs[k] = true := by simpa [List.getD, List.getElem?_eq_getElem hk] using hp
 rw [h1]
 simp [h2]
theorem DelG.at_ (h : DelG z p xs i j cur) (hj : j < xs.length) : cur.getD j z = xs.getD j z := by
 have h1 := congrArg (fun l : List α => l.head?) h.high
 simp only [List.head?_drop] at h1
 simp only [List.getD]
 rw [h1]
theorem DelG.keep (h : DelG z p xs i j cur) (hj : j < xs.length) (hp : p (xs.getD j z) = false) : DelG z p xs (i + 1) (j + 1) (cur.set i (xs.getD j z)) := by
 have hi := h.lt
 have hlen := h.len
 refine ⟨by omega, by omega, by simpa using h.len, ?_, ?_⟩
 ·rw [List.take_succ_eq_append_getElem (by rw [List.length_set]; omega), List.take_set_of_le (Nat.le_refl i), h.low, List.take_succ_eq_append_getElem hj, List.filter_append]
  have h2 : p xs[j] = false := by simpa [List.getD, List.getElem?_eq_getElem hj] using hp
  simp [h2, List.getD, List.getElem?_eq_getElem hj]
 ·rw [List.drop_set_of_lt (by omega)]
  have := congrArg (List.drop 1) h.high
  rwa [List.drop_drop, List.drop_drop] at this
theorem DelG.skip (h : DelG z p xs i j cur) (hj : j < xs.length) (hp : p (xs.getD j z) = true) : DelG z p xs i (j + 1) cur := by
 have hi := h.lt
 refine ⟨by omega, by omega, h.len, ?_, ?_⟩
 ·rw [h.low, List.take_succ_eq_append_getElem hj, List.filter_append]
  have h2 : p xs[j] = true := by simpa [List.getD, List.getElem?_eq_getElem hj] using hp
  simp [h2]
 ·have := congrArg (List.drop 1) h.high
  rwa [List.drop_drop, List.drop_drop] at this
end
/-- Stores behind a row's elements say nothing of them. -/
theorem h_spare1 {α : Type} {d : Kd α} {e base n c g j : Nat} {ok : Nat → Prop} {W : World} {xs : List α} (h : d.R e W base ok (.slice (some ⟨g, 0, none⟩) n c) xs) (hj : n * d.sz ≤ j) (u : Value) : d.R e (W.setCell ⟨g, j, none⟩ u) base ok (.slice (some ⟨g, 0, none⟩) n c) xs := by
 have hn := (h_R_len h).1
 obtain ⟨h0, inner, ho, hr⟩ := h
 rcases ho.2 with ⟨hv, _⟩ | ⟨g', cap', cur, hv, hb, hh, hlc, hcm, hcs, htk⟩
 ·cases hv
 injection hv with ha _ hc
 injection ha with ha
 injection ha with hg
 subst hg hc
 refine ⟨h0, inner, ⟨ho.1, .inr ⟨g, c, cur.setIfInBounds j u, by rw [← hn], hb, blk_set hh j u, hlc, hcm, by simpa using hcs, ?_⟩⟩, hr.imp_ fun _ _ hp => Kd.M_step hp fun k hk _ => Below.heap_setCell W _ u k fun e_ => hk.2 (by simp [Value.ownBlock, e_])⟩
 rw [Array.toList_setIfInBounds, List.take_set_of_le (by rw [← hn]; exact hj)]
 exact htk
theorem h_spares {α : Type} {d : Kd α} {e base n c g : Nat} {ok : Nat → Prop} {xs : List α} : ∀ (vs : List Value) (j : Nat) (W : World), d.R e W base ok (.slice (some ⟨g, 0, none⟩) n c) xs → n * d.sz ≤ j → d.R e (W.setCells g j vs) base ok (.slice (some ⟨g, 0, none⟩) n c) xs
 | [], _, _, h, _ => h
 | v :: vs, j, W, h, hj => h_spares vs (j + 1) _ (h_spare1 h hj v) (by omega)
/-- Elements with tags that are all of them others, told anew by their places. -/
theorem S_of_tags {α : Type} {d : Kd α} {e base : Nat} {ok : Nat → Prop} {w : World} {v : Value} {f : Nat → Nat} {zs : List (α × Nat)} (h : (Kd.tag f d).R e w base ok v zs) (hnd : (zs.map Prod.snd).Nodup) : Kd.S d e w base ok v (zs.map Prod.fst) := by
 obtain ⟨h0, inner, ho, hr⟩ := h
 refine ⟨fun b => (zs.map Prod.snd).idxOf (f b), h0, inner, by rw [List.length_zipIdx, List.length_map]; exact ho, by rw [List.length_zipIdx, List.length_map]; exact hr.1, fun j p hj => ?_⟩
 rw [List.getElem?_zipIdx, Nat.zero_add] at hj
 obtain ⟨x, hx, rfl⟩ := Option.map_eq_some_iff.1 hj
 rw [List.getElem?_map] at hx
 obtain ⟨⟨y, t⟩, hy, rfl⟩ := Option.map_eq_some_iff.1 hx
 have hm := hr.2 j (y, t) hy
 refine d.M_mono (fun b hb => ⟨hb.1, ?_⟩) hm
 have h2 : f b = t := hb.2
 show (zs.map Prod.snd).idxOf (f b) = j
 rw [h2]
 obtain ⟨hjl, hje⟩ := List.getElem?_eq_some_iff.1 hy
 have hjl2 : j < (zs.map Prod.snd).length := by rw [List.length_map]; exact hjl
 have he : (zs.map Prod.snd)[j] = t := by rw [List.getElem_map, hje]
 rw [← he]
 exact List.Nodup.idxOf_getElem hnd j hjl2
theorem zip_getD {α : Type} (xs : List α) (z : α) {j : Nat} (h : j < xs.length) : (xs.zipIdx.getD j (z, 0)) = (xs.getD j z, j) := by
 rw [List.getD_eq_getElem?_getD, List.getD_eq_getElem?_getD, List.getElem?_zipIdx, List.getElem?_eq_getElem h]
 simp
theorem row_cell0 {c : List Value} {w : World} {g o : Nat} (hc : c.length = 2) (h : ∀ j u, c[j]? = some u → w.cell? ⟨g, o + j, none⟩ = some u) : w.cell? ⟨g, o, none⟩ = some (c.getD 0 undef) := by
 match c, hc with
 | [a, b], _ => exact h 0 a rfl
theorem row_cell1 {c : List Value} {w : World} {g o : Nat} (hc : c.length = 2) (h : ∀ j u, c[j]? = some u → w.cell? ⟨g, o + j, none⟩ = some u) : w.cell? ⟨g, o + 1, none⟩ = some (c.getD 1 undef) := by
 match c, hc with
 | [a, b], _ => exact h 1 b rfl
theorem zip_filter {α : Type} (q : α → Bool) (xs : List α) : ((xs.zipIdx.filter fun z => q z.1).map Prod.fst) = xs.filter q ∧ ((xs.zipIdx.filter fun z => q z.1).map Prod.snd).Nodup := by
 constructor
 ·have h1 : (xs.zipIdx.filter fun z => q z.1).map Prod.fst = (xs.zipIdx.map Prod.fst).filter q := by rw [List.filter_map]; rfl
  rw [h1, List.zipIdx_map_fst]
 ·have h1 : (xs.zipIdx.map Prod.snd).Nodup := by
   rw [List.zipIdx_map_snd]
   exact List.nodup_range' 
  exact List.Nodup.sublist ((List.filter_sublist).map _) h1
abbrev REl (w : World) (base : Nat) (p : Tup) : Prop := (Kd.int .i64).R 3 w base (fun k => some k = p.1.ownBlock) p.1 p.2.1
def ApartT (p q : Tup) : Prop := ∀ b, p.1.ownBlock = some b → q.1.ownBlock ≠ some b
/-- What lies in memory while related lays its tuples: the result's cells, the relation at B6, its names, the row of tuples, the tuples. -/
structure RelS (w : World) (N0 : Nat) (wr : World) (B6 : Nat) (v0 v1 : Value) (l0 : List Int) (ps : List Tup) : Prop where
 below : Below w.heap.size w wr
 own : wr.ownsRow N0 39 1 v1 ps.length (ps.map (·.1))
 els : ∀ p ∈ ps, REl wr N0 p
 dist : ps.Pairwise ApartT
 blk : wr.heap[B6]? = some (.cells #[v0, v1] 44 (0, 0))
 b4 : wr.heap[w.heap.size]? = some (.cells #[.slice none 0 0, .slice none 0 0] 44 (0, 0))
 nm : (Kd.int .i64).R 3 wr w.heap.size (fun k => k < N0) v0 l0
 lo : w.heap.size < B6
 hi : B6 < N0
 le : N0 ≤ wr.heap.size
theorem own_typed {w : World} {base e n : Nat} {v : Value} {vals : List Value} (h : w.ownsRow base e 1 v n vals) : ∀ k, v.ownBlock = some k → ∃ cells, w.heap[k]? = some (.cells cells e (0, 0)) := by
 intro k hk
 rcases h.2 with ⟨rfl, _⟩ | ⟨g, cap, cur, rfl, _, hg, _⟩
 ·simp [Value.ownBlock] at hk
 ·simp [Value.ownBlock] at hk
  subst hk
  exact ⟨cur, hg⟩
theorem own_lower {w : World} {base base' e n : Nat} {v : Value} {vals : List Value} (h : w.ownsRow base e 1 v n vals) (hb : base' ≤ base) : w.ownsRow base' e 1 v n vals := by
 refine ⟨h.1, ?_⟩
 rcases h.2 with h | ⟨g, cap, cur, hv, hg, rest⟩
 ·exact .inl h
 ·exact .inr ⟨g, cap, cur, hv, Nat.le_trans hb hg, rest⟩
theorem REl.ne {w : World} {base base2 n : Nat} {p : Tup} {v : Value} {vals : List Value} (h : REl w base p) (ho : w.ownsRow base2 39 1 v n vals) : ∀ k, some k = p.1.ownBlock → some k ≠ v.ownBlock := by
 intro k hk hv
 obtain ⟨c1, h1⟩ := Kd.R_typed h k hk.symm
 obtain ⟨c2, h2⟩ := own_typed ho k hv.symm
 rw [h1] at h2
 injection h2 with h2
 injection h2 with _ h2
 exact absurd h2 (by decide)
theorem ApartT.symm {p q : Tup} (h : ApartT p q) : ApartT q p := fun b h1 h2 => h b h2 h1
theorem own_rebase {w : World} {base base' e n : Nat} {v : Value} {vals : List Value} (h : w.ownsRow base e 1 v n vals) (hb : ∀ k, v.ownBlock = some k → base' ≤ k) : w.ownsRow base' e 1 v n vals := by
 refine ⟨h.1, ?_⟩
 rcases h.2 with h | ⟨g, cap, cur, hv, hg, rest⟩
 ·exact .inl h
 ·exact .inr ⟨g, cap, cur, hv, hb g (by rw [hv]; rfl), rest⟩
section
variable {w wr w1 W : World} {N0 B6 : Nat} {v0 v1 v9 v1' : Value} {l0 x : List Int} {ps qs : List Tup}
theorem RelS.cell0 (h : RelS w N0 wr B6 v0 v1 l0 ps) : wr.cell? ⟨B6, 0, none⟩ = some v0 := (blk_cell h.blk 0).trans rfl
theorem RelS.cell1 (h : RelS w N0 wr B6 v0 v1 l0 ps) : wr.cell? ⟨B6, 1, none⟩ = some v1 := (blk_cell h.blk 1).trans rfl
theorem RelS.fr (h : RelS w N0 wr B6 v0 v1 l0 ps) (j : Nat) : wr.frozen? ⟨B6, j, none⟩ = false := by simp [World.frozen?, h.blk]
theorem RelS.out0 (h : RelS w N0 wr B6 v0 v1 l0 ps) : wr.cell? ⟨w.heap.size, 0, none⟩ = some (.slice none 0 0) := (blk_cell h.b4 0).trans rfl
theorem RelS.out1 (h : RelS w N0 wr B6 v0 v1 l0 ps) : wr.cell? ⟨w.heap.size, 1, none⟩ = some (.slice none 0 0) := (blk_cell h.b4 1).trans rfl
theorem RelS.fr4 (h : RelS w N0 wr B6 v0 v1 l0 ps) (j : Nat) : wr.frozen? ⟨w.heap.size, j, none⟩ = false := by simp [World.frozen?, h.b4]
theorem RelS.step (h : RelS w N0 wr B6 v0 v1 l0 ps) (hb : Below wr.heap.size wr w1) : RelS w N0 w1 B6 v0 v1 l0 ps :=
 ⟨below_step h.below hb, own_below h.own hb, fun p hp => Kd.R_below (h.els p hp) hb, h.dist, (hb.block B6 (blk_lt h.blk)).trans h.blk, (hb.block _ (blk_lt h.b4)).trans h.b4, Kd.R_below h.nm hb, h.lo, h.hi, Nat.le_trans h.le hb.size⟩
theorem RelS.push (h : RelS w N0 wr B6 v0 v1 l0 ps) (hb : Below wr.heap.size wr W) (hR : (Kd.int .i64).R 3 W wr.heap.size (fun _ => True) v9 x)
  (hown : w1.ownsRow N0 39 1 v1' (ps.length + 1) (ps.map (·.1) ++ [v9])) (hg : W.grownBy w1 v1.ownBlock) : RelS w N0 (w1.setCell ⟨B6, 1, none⟩ v1') B6 v0 v1' l0 (ps ++ [(v9, x, 0)]) := by
 have hlo := h.lo
 have hhi := h.hi
 have hsz := h.le
 have hrow : ∀ k, v1.ownBlock = some k → N0 ≤ k ∧ k < wr.heap.size := h.own.lt
 have h1 := h.step hb
 refine ⟨?_, ?_, ?_, ?_, ?_, ?_, ?_, h.lo, h.hi, ?_⟩
 ·exact below_set (pw_below_grown h1.below _ h1.below.size hg (fun k hk => by have := (hrow k hk).1; omega)) (Nat.le_of_lt hlo)
 ·rw [List.length_append, List.map_append]
  exact own_move hown (fun k hk => Below.heap_setCell w1 _ _ k fun e => by
   have h2 := (hown.lt k hk).1
   have h3 : k = B6 := e
   omega)
 ·intro p hp
  rcases List.mem_append.1 hp with hp | hp
  ·have hr := h1.els p hp
   refine Kd.R_far (p := ⟨B6, 1, none⟩) (Kd.R_grown hr hg (REl.ne hr h1.own)) (fun k hk e => ?_) _
   have h2 := Kd.R_base hr k hk.symm
   have h3 : k = B6 := e
   omega
  ·obtain rfl := List.mem_singleton.1 hp
   have hr := Kd.R_tight rfl hR
   refine Kd.R_lower (Kd.R_far (p := ⟨B6, 1, none⟩) (Kd.R_grown hr hg (fun k hk e => ?_)) (fun k hk e => ?_) _) hsz
   ·have h2 := Kd.R_base hr k hk.symm
    have h3 := (hrow k e.symm).2
    omega
   ·have h2 := Kd.R_base hr k hk.symm
    have h3 : k = B6 := e
    omega
 ·rw [List.pairwise_append]
  refine ⟨h.dist, List.pairwise_singleton _ _, fun p hp q hq b hb1 hb2 => ?_⟩
  obtain rfl := List.mem_singleton.1 hq
  have h2 := Kd.R_lt (h.els p hp) b hb1
  have h3 := Kd.R_base hR b hb2
  omega
 ·have h2 : w1.heap[B6]? = some (.cells #[v0, v1] 44 (0, 0)) := (hg.block B6 (blk_lt h1.blk) (fun e => by have := (hrow B6 e.symm).1; omega)).trans h1.blk
  exact blk_set h2 1 v1'
 ·exact (Below.heap_setCell w1 _ _ _ (fun e => by have h3 : w.heap.size = B6 := e; omega)).trans ((hg.block _ (blk_lt h1.b4) (fun e => by have := (hrow _ e.symm).1; omega)).trans h1.b4)
 ·exact Kd.R_far (p := ⟨B6, 1, none⟩) (Kd.R_grown (Kd.R_far1 h1.nm rfl (g := B6) (fun e => Kd.R_ne h1.nm h1.blk (by decide) e)) hg (fun k hk e => by have h2 := hk.1; have := (hrow k e.symm).1; omega)) (fun k hk e => hk.2 e) _ |> fun r => Kd.R_mono r (fun k hk => hk.1)
 ·exact Nat.le_trans h1.le (Nat.le_trans hg.size (Nat.le_of_eq (World.size_setCell w1 _ _).symm))
theorem RelS.sort (h : RelS w N0 wr B6 v0 v1 l0 ps) (hb : Below w.heap.size w w1) (hk : Kept wr w1 (fun q => some q = v1.ownBlock)) (hp : qs.Perm ps) (ho : w1.ownsRow w.heap.size 39 1 v1 qs.length (qs.map (·.1))) : RelS w N0 w1 B6 v0 v1 l0 qs := by
 have hlo := h.lo
 have hhi := h.hi
 have hrow : ∀ k, v1.ownBlock = some k → N0 ≤ k ∧ k < wr.heap.size := h.own.lt
 refine ⟨hb, own_rebase ho (fun k hk => (hrow k hk).1), fun p hpm => Kd.R_kept (h.els p (hp.subset hpm)) hk (fun k h1 => REl.ne (h.els p (hp.subset hpm)) h.own k h1), hp.symm.pairwise h.dist (fun {a b} h => h.symm), ?_, ?_, Kd.R_kept h.nm hk (fun k h1 h2 => by have := (hrow k h2.symm).1; omega), h.lo, h.hi, Nat.le_trans h.le hk.1⟩
 ·exact (hk.2 B6 (blk_lt h.blk) (fun e => by have := (hrow B6 e.symm).1; omega)).trans h.blk
 ·exact (hk.2 _ (blk_lt h.b4) (fun e => by have := (hrow _ e.symm).1; omega)).trans h.b4
theorem RelS.comp (h : RelS w N0 wr B6 v0 v1 l0 ps) (hb : Below w.heap.size w w1) (hk : Kept wr w1 (fun q => some q = v1.ownBlock)) (hp : qs.Sublist ps) (ho : w1.ownsRow w.heap.size 39 1 v1' qs.length (qs.map (·.1))) (hv : v1' = v1 ∨ v1'.ownBlock = v1.ownBlock) : RelS w N0 (w1.setCell ⟨B6, 1, none⟩ v1') B6 v0 v1' l0 qs := by
 have hlo := h.lo
 have hhi := h.hi
 have hrow : ∀ k, v1.ownBlock = some k → N0 ≤ k ∧ k < wr.heap.size := h.own.lt
 have hv' : v1'.ownBlock = v1.ownBlock := hv.elim (fun e => by rw [e]) id
 refine ⟨below_set hb (Nat.le_of_lt hlo), own_rebase (own_move ho (fun k hk => Below.heap_setCell w1 _ _ k fun e => ?_)) (fun k hk => (hrow k (hv' ▸ hk)).1), fun p hpm => ?_, h.dist.sublist hp, ?_, ?_, ?_, h.lo, h.hi, ?_⟩
 ·have h2 := (hrow k (hv' ▸ hk)).1
  have h3 : k = B6 := e
  omega
 ·have hr := h.els p (hp.subset hpm)
  refine Kd.R_far (p := ⟨B6, 1, none⟩) (Kd.R_kept hr hk (fun k h1 => REl.ne hr h.own k h1)) (fun k hk e => ?_) _
  have h2 := Kd.R_base hr k hk.symm
  have h3 : k = B6 := e
  omega
 ·exact blk_set ((hk.2 B6 (blk_lt h.blk) (fun e => by have := (hrow B6 e.symm).1; omega)).trans h.blk) 1 v1'
 ·exact (Below.heap_setCell w1 _ _ _ (fun e => by have h3 : w.heap.size = B6 := e; omega)).trans ((hk.2 _ (blk_lt h.b4) (fun e => by have := (hrow _ e.symm).1; omega)).trans h.b4)
 ·exact Kd.R_far (p := ⟨B6, 1, none⟩) (Kd.R_kept (Kd.R_far1 h.nm rfl (g := B6) (fun e => Kd.R_ne h.nm h.blk (by decide) e)) hk (fun k h1 h2 => by have h3 := h1.1; have := (hrow k h2.symm).1; omega)) (fun k hk e => hk.2 e) _ |> fun r => Kd.R_mono r (fun k hk => hk.1)
 ·exact Nat.le_trans h.le (Nat.le_trans hk.1 (Nat.le_of_eq (World.size_setCell w1 _ _).symm))
end
theorem REl.reads1 {w : World} {base base2 n : Nat} {p : Tup} {v : Value} {vals : List Value} (h : REl w base p) (ho : w.ownsRow base2 39 1 v n vals) : Reads1 (fun q => some q = v.ownBlock) w p.1 p.2.1 := by
 obtain ⟨A, c, e, hl, _⟩ := Kd.R_reads h
 refine ⟨A, c, e, hl, fun W hW => ?_⟩
 have h2 := Kd.R_kept h hW (fun k h1 => REl.ne h ho k h1)
 rw [e] at h2
 exact (Kd.R_reads' h2).2.2
/-- Tuples of the call's own, apart from one another, as a row of rows. -/
theorem vals_S {w : World} {base : Nat} {ok : Nat → Prop} {v : Value} {ps : List Tup} (hok : ∀ k, v.ownBlock = some k → ok k) (ho : w.ownsRow base 39 1 v ps.length (ps.map (·.1))) (hp : ∀ p ∈ ps, REl w base p ∧ ∀ k, some k = p.1.ownBlock → ok k) (hd : ps.Pairwise ApartT) : Kd.S (Kd.slice 3 (Kd.int .i64)) 39 w base ok v (ps.map (·.2.1)) := by
 have hfst : (ps.zipIdx.map fun z => (z.1.2.1, z.2)).map Prod.fst = ps.map (·.2.1) := by
  rw [List.map_map]
  show ps.zipIdx.map ((·.2.1) ∘ Prod.fst) = _
  rw [← List.map_map, List.zipIdx_map_fst]
 have hsnd : ((ps.zipIdx.map fun z => (z.1.2.1, z.2)).map Prod.snd).Nodup := by
  rw [List.map_map]
  show (ps.zipIdx.map Prod.snd).Nodup
  rw [List.zipIdx_map_snd]
  exact List.nodup_range'
 rw [← hfst]
 refine S_of_tags (f := fun b => ps.findIdx fun p => decide (p.1.ownBlock = some b)) ?_ hsnd
 refine ⟨hok, ps.map (·.1), ?_, ?_⟩
 ·rw [List.length_map, List.length_zipIdx]
  exact ho
 ·refine ⟨by rw [List.length_map, List.length_map, List.length_zipIdx]; exact (Nat.mul_one _).symm, fun j q hq => ?_⟩
  rw [List.getElem?_map] at hq
  obtain ⟨z, hz, rfl⟩ := Option.map_eq_some_iff.1 hq
  rw [List.getElem?_zipIdx, Nat.zero_add] at hz
  obtain ⟨p, hpj, rfl⟩ := Option.map_eq_some_iff.1 hz
  obtain ⟨hjl, hje⟩ := List.getElem?_eq_some_iff.1 hpj
  have hpm : p ∈ ps := by rw [← hje]; exact List.getElem_mem hjl
  have hc : ((ps.map (·.1)).drop (j * 1)).take 1 = [p.1] := by
   rw [Nat.mul_one, List.drop_eq_getElem_cons (by rw [List.length_map]; exact hjl)]
   simp [hje]
  show (Kd.tag _ (Kd.slice 3 (Kd.int .i64))).M w base _ (p.2.1, j) (((ps.map (·.1)).drop (j * 1)).take 1)
  rw [hc]
  refine ⟨p.1, rfl, Kd.R_mono (hp p hpm).1 fun k hk => ⟨⟨(hp p hpm).2 k hk, REl.ne (hp p hpm).1 ho k hk⟩, ?_⟩⟩
  show ps.findIdx (fun p => decide (p.1.ownBlock = some k)) = j
  rw [List.findIdx_eq hjl]
  refine ⟨by rw [hje]; exact decide_eq_true hk.symm, fun i hi => decide_eq_false fun e => ?_⟩
  have := (List.pairwise_iff_getElem.1 hd) i j (by omega) hjl hi k e
  rw [hje] at this
  exact this hk.symm
-- PURE BLOCK sortk
/-- Tuples, sorted and each once. -/
def keepK (prev : List Int) : List (List Int) → List (List Int)
 | [] => []
 | p :: r => if p = prev then keepK p r else p :: keepK p r
def compK : List (List Int) → List (List Int)
 | [] => []
 | p :: r => p :: keepK p r
def sortL (l : List (List Int)) : List (List Int) := l.mergeSort fun x y => decide (cmpL x y ≤ 0)
theorem sorted_one : ∀ {l l' : List (List Int)}, l.Perm l' → l.Pairwise (fun x y => cmpL x y ≤ 0) → l'.Pairwise (fun x y => cmpL x y ≤ 0) → l = l'
 | [], l', hp, _, _ => (List.Perm.nil_eq hp)
 | x :: l, [], hp, _, _ => absurd hp (by simp)
 | x :: l, y :: l', hp, h1, h2 => by
  have hxy : x = y := by
   have hx : x ∈ y :: l' := hp.subset (List.mem_cons_self ..)
   have hy : y ∈ x :: l := hp.symm.subset (List.mem_cons_self ..)
   rcases List.mem_cons.1 hx with e | hx
   ·exact e
   rcases List.mem_cons.1 hy with e | hy
   ·exact e.symm
   have a := (List.pairwise_cons.1 h2).1 x hx
   have b := (List.pairwise_cons.1 h1).1 y hy
   have := cmpL_swap x y
   exact cmpL_eq (by omega)
  subst hxy
  rw [sorted_one (List.Perm.cons_inv hp) (List.pairwise_cons.1 h1).2 (List.pairwise_cons.1 h2).2]
theorem sortL_sorted (l : List (List Int)) : (sortL l).Pairwise (fun x y => cmpL x y ≤ 0) := by
 have h := List.pairwise_mergeSort (le := fun x y : List Int => decide (cmpL x y ≤ 0)) (fun a b c h1 h2 => by
  simp only [decide_eq_true_eq] at h1 h2 ⊢
  have e1 := cmpL_swap a b
  have e2 := cmpL_swap b c
  have e3 := cmpL_swap a c
  have := cmpL_ntrans (a := c) (b := b) (c := a) (by omega) (by omega)
  omega) (fun a b => by
  simp only [Bool.or_eq_true, decide_eq_true_eq]
  have := cmpL_swap a b
  omega) l
 exact h.imp fun h => by simpa using h
theorem keepK_sub : ∀ (r : List (List Int)) (prev : List Int), (keepK prev r).Sublist r
 | [], _ => List.Sublist.refl _
 | p :: r, prev => by
  rw [keepK]
  split
  ·exact (keepK_sub r _).cons _
  ·exact (keepK_sub r _).cons_cons _
theorem compK_sub : ∀ ps : List (List Int), (compK ps).Sublist ps
 | [] => List.Sublist.refl _
 | p :: r => by
  rw [compK]
  exact (keepK_sub r _).cons_cons _
theorem relT_mem {l : List (List Int)} {x : List Int} (h : x ∈ compK (sortL l)) : x ∈ l := (List.mergeSort_perm l _).subset ((compK_sub _).subset h)
theorem relT_len (l : List (List Int)) : (compK (sortL l)).length ≤ l.length := by
 have h1 := (compK_sub (sortL l)).length_le
 have h2 := (List.mergeSort_perm l fun x y => decide (cmpL x y ≤ 0)).length_eq
 unfold sortL at h1 ⊢
 omega

theorem h_below_low {b : Nat} {w W : World} (hb : Below w.heap.size w W) (h : b ≤ w.heap.size) : Below b w W := by
 obtain ⟨x1, x2, x3, x4, x5⟩ := hb
 exact ⟨x1, x2, x3, x4, fun j hj => x5 j (Nat.lt_of_lt_of_le hj h)⟩
theorem h_rel_cell {w wr W w4 : World} {N0 B6 : Nat} {v0 v1 : Value} {l0 : List Int} {ps : List Tup} (h : RelS w N0 wr B6 v0 v1 l0 ps) (hb : Below wr.heap.size wr W) (hg : W.grownBy w4 v1.ownBlock) : w4.cell? ⟨B6, 1, none⟩ = some v1 ∧ w4.frozen? ⟨B6, 1, none⟩ = false := by
 have h1 := h.step hb
 have h2 : w4.heap[B6]? = some (.cells #[v0, v1] 44 (0, 0)) := (hg.block B6 (blk_lt h1.blk) (fun e => by have := (h1.own.lt B6 e.symm).1; have := h.hi; omega)).trans h1.blk
 exact ⟨(blk_cell h2 1).trans rfl, by simp [World.frozen?, h2]⟩
theorem RelS.blkk {w wr w1 : World} {N0 B6 : Nat} {v0 v1 : Value} {l0 : List Int} {ps : List Tup} (h : RelS w N0 wr B6 v0 v1 l0 ps) (hk : Kept wr w1 (fun q => some q = v1.ownBlock)) : w1.heap[B6]? = some (.cells #[v0, v1] 44 (0, 0)) :=
 (hk.2 B6 (blk_lt h.blk) (fun e => by have := (h.own.lt B6 e.symm).1; have := h.hi; omega)).trans h.blk
theorem h_slice_len {w : World} {base e n m : Nat} {v : Value} {vals : List Value} (h : w.ownsRow base e 1 v n vals) (hl : n = m) : ∃ A c, v = .slice A m c := by
 obtain ⟨A, c, e⟩ := own_val h
 exact ⟨A, c, by rw [e, hl]⟩
theorem h_rows_C {w wr : World} {N0 B6 : Nat} {v0 : Value} {A : Option Addr} {n c : Nat} {l0 : List Int} {ps : List Tup} {L : List (List Int)} (h : RelS w N0 wr B6 v0 (.slice A n c) l0 ps) (e : ps.map (·.2.1) = L) : L.length ≤ c ∧ Kd.C (Kd.slice 3 (Kd.int .i64)) wr A L.length L := by
 subst e
 obtain ⟨A', c', e, hl, hC⟩ := vals_C h.own (fun p hp => ((h.els p hp).reads1 h.own).now)
 injection e with e1 e2 e3
 subst e1 e3
 exact ⟨hl, hC⟩
theorem h_rel_done {w wr : World} {N0 B6 : Nat} {v0 v1 u0 u1 : Value} {l0 : List Int} {ps : List Tup} {L : List (List Int)} (h : RelS w N0 wr B6 v0 v1 l0 ps) (e : ps.map (·.2.1) = L) :
  (Kd.int .i64).R 3 ((wr.setCell ⟨w.heap.size, 0, none⟩ u0).setCell ⟨w.heap.size, 1, none⟩ u1) w.heap.size (fun _ => True) v0 l0 ∧ Kd.S (Kd.slice 3 (Kd.int .i64)) 39 ((wr.setCell ⟨w.heap.size, 0, none⟩ u0).setCell ⟨w.heap.size, 1, none⟩ u1) w.heap.size (fun k_ => some k_ ≠ (v0 : Value).ownBlock) v1 L ∧ Below w.heap.size w ((wr.setCell ⟨w.heap.size, 0, none⟩ u0).setCell ⟨w.heap.size, 1, none⟩ u1) := by
 subst e
 have hlo := h.lo
 have hhi := h.hi
 refine ⟨?_, ?_, below_set (below_set h.below (Nat.le_refl _)) (Nat.le_refl _)⟩
 ·have h1 := Kd.R_far1 h.nm rfl (g := w.heap.size) (fun e => Kd.R_ne h.nm h.b4 (by decide) e)
  exact Kd.R_mono (Kd.R_far (p := ⟨w.heap.size, 1, none⟩) (Kd.R_far (p := ⟨w.heap.size, 0, none⟩) h1 (fun k hk => hk.2) _) (fun k hk => hk.2) _) (fun _ _ => trivial)
 ·have hS := vals_S (base := w.heap.size) (ok := fun k_ => some k_ ≠ (v0 : Value).ownBlock) (fun k hk e => by have h1 := (h.own.lt k hk).1; have h2 := h.nm.1 k e.symm; omega) (own_lower h.own (by omega)) (fun p hp => ⟨Kd.R_lower (h.els p hp) (by omega), fun k hk e => by have h1 := Kd.R_base (h.els p hp) k hk.symm; have h2 := h.nm.1 k e.symm; omega⟩) h.dist
  have h1 := Kd.S_types hS h.b4 (by decide)
  exact Kd.S_mono (Kd.S_far (p := ⟨w.heap.size, 1, none⟩) (Kd.S_far (p := ⟨w.heap.size, 0, none⟩) h1 (fun k hk => hk.2) _) (fun k hk => hk.2) _) (fun _ hk => hk.1)
theorem keepR_key : ∀ (r : List Tup) (prev : List Int), (keepR prev r).map (·.2.1) = keepK prev (r.map (·.2.1))
 | [], _ => rfl
 | p :: r, prev => by
  rw [keepR, List.map_cons, keepK]
  split
  ·exact keepR_key r _
  ·rw [List.map_cons, keepR_key r _]
theorem compT_key : ∀ ps : List Tup, (compT ps).map (·.2.1) = compK (ps.map (·.2.1))
 | [] => rfl
 | p :: r => by rw [compT, List.map_cons, List.map_cons, compK, keepR_key]
theorem sortL_tells {ps qs : List Tup} (hp : qs.Perm ps) (hs : qs.Pairwise (fun p q => ¬ cmpL q.2.1 p.2.1 < 0)) : qs.map (·.2.1) = sortL (ps.map (·.2.1)) := by
 refine sorted_one ((hp.map _).trans (List.mergeSort_perm _ _).symm) ?_ (sortL_sorted _)
 rw [List.pairwise_map]
 exact hs.imp fun {p q} h => by
  have := cmpL_swap p.2.1 q.2.1
  omega
def impl_related.f (l0 : List Int) (l1 : List (List Int)) : Option (List Int × (List (List Int)) × Bool) := if l0.length ≤ 1000000 ∧ l1.length ≤ 1000000 ∧ ∀ t ∈ l1, t.length ≤ 1000000 then some (if relB l0 (compK (sortL l1)) = true then (l0, compK (sortL l1), true) else ([], [], false)) else none
set_option maxHeartbeats 8000000 in
set_option maxRecDepth 100000 in
theorem impl_related.calls (A0 : Option Addr) (c0 : Nat) (l0 : List Int) (A1 : Option Addr) (c1 : Nat) (l1 : List (List Int)) (r1 : List Int) (r2 : List (List Int)) (r3 : Bool) (w : World) (hr0 : Kd.C (Kd.int .i64) w A0 l0.length l0) (hc0 : l0.length ≤ c0) (hr1 : Kd.C (Kd.slice 3 (Kd.int .i64)) w A1 l1.length l1) (hc1 : l1.length ≤ c1) (h : impl_related.f l0 l1 = some (r1, r2, r3)) :
  Calls Try.prog 52 #[.slice A0 l0.length c0, .slice A1 l1.length c1] w fun e w' => ∃ v0_ v1_ : Value, e = .returned (.tuple #[.agg #[v0_, v1_], .bool r3]) ∧ Kd.R (Kd.int .i64) 3 w' w.heap.size (fun _ => True) v0_ r1 ∧ Kd.S (Kd.slice 3 (Kd.int .i64)) 39 w' w.heap.size (fun k_ => some k_ ≠ (v0_ : Value).ownBlock) v1_ r2 ∧ Below w.heap.size w w' := by
 unfold impl_related.f at h
 by_cases hb : l0.length ≤ 1000000 ∧ l1.length ≤ 1000000 ∧ ∀ t ∈ l1, t.length ≤ 1000000
 ·rw [if_pos hb] at h
  obtain ⟨hb0, hb1, hb2⟩ := hb
  have HH := Aside0.mk (show (relB l0 (compK (sortL l1)) = true → r1 = l0 ∧ r2 = compK (sortL l1) ∧ r3 = true) ∧ (relB l0 (compK (sortL l1)) = false → r1 = [] ∧ r2 = [] ∧ r3 = false) by
   have h1 := Option.some.inj h
   constructor
   ·intro hg
    rw [if_pos hg] at h1
    injection h1 with a b
    injection b with b c
    exact ⟨a.symm, b.symm, c.symm⟩
   ·intro hg
    rw [if_neg (by rw [hg]; decide)] at h1
    injection h1 with a b
    injection b with b c
    exact ⟨a.symm, b.symm, c.symm⟩)
  have HB2 := Aside0.mk hb2
  have hbA : Below w.heap.size w (w.alloc (.cells #[.slice none 0 0, .slice none 0 0] 44)) := below_alloc (Below.refl _ _) _
  have HCL := Lib.hid (slices_Clone_int_int_81.calls A0 c0 l0 l0 (w.alloc (.cells #[.slice none 0 0, .slice none 0 0] 44)) (Kd.C_below hr0 hbA) hc0 (if_pos (by omega)))
  have HR1 := Aside0.mk hr1
  clear hr0 hr1 h hb2 hbA
  go_enter Try.func52, Try.ntmps52
  go_wp2_with (go_at_call 81; refine HCL.out.mono ?_; rintro e w1 ⟨v0, rfl, hR, hb⟩; have HR := Aside0.mk hR; have HB := Aside0.mk hb; obtain ⟨Av, cv, ev⟩ := Kd.R_slice hR; subst ev; clear hR hb)
  have hbW : Below w.heap.size w (w1.alloc (.cells #[.slice Av l0.length cv, .slice none 0 0] 44)) := below_alloc (below_step (below_alloc (Below.refl _ _) _) HB.out) _
  have hszA : (w.alloc (.cells #[.slice none 0 0, .slice none 0 0] 44)).heap.size = w.heap.size + 1 := by simp
  have hsz1 : w.heap.size + 1 ≤ w1.heap.size := by have := HB.out.size; rw [hszA] at this; exact this
  have HS0 : Aside0 (RelS w (w1.heap.size + 1) (w1.alloc (.cells #[.slice Av l0.length cv, .slice none 0 0] 44)) w1.heap.size (.slice Av l0.length cv) (.slice none 0 0) l0 []) := ⟨⟨hbW, World.ownsRow_nil _ _ _ _, by simp, .nil, heap_alloc_new w1 _, (heap_alloc_old w1 _ (by omega)).trans ((HB.out.block _ (by rw [hszA]; omega)).trans (heap_alloc_new w _)), Kd.R_mono (Kd.R_lower (Kd.R_bound (Kd.R_alloc HR.out _)) (by rw [hszA]; omega)) (fun k hk => by have := hk.2.2.1; simpa using this), by omega, by omega, by simp⟩⟩
  generalize (w1.alloc (.cells #[.slice Av l0.length cv, .slice none 0 0] 44)) = W0 at HS0 ⊢
  generalize w1.heap.size = B6 at HS0 ⊢
  clear hbW hszA hsz1 HB HR
  generalize B6 + 1 = N0 at HS0
  have hv0 : ∃ v0 : Value, v0 = .slice Av l0.length cv := ⟨_, rfl⟩
  go_loopg [8, 14] l1.length (fun gg _ s14 wr => ∃ (kk : Nat) (v1 : Value) (ps : List Tup), s14 = .int .i64 kk ∧ kk ≤ l1.length ∧ l1.length - kk ≤ gg ∧ Aside0 (RelS w N0 wr B6 (.slice Av l0.length cv) v1 l0 ps) ∧ Aside0 (ps.map (·.2.1) = l1.take kk))
  case atStart => exact ⟨0, _, [], rfl, Nat.zero_le _, by omega, HS0, ⟨by simp⟩⟩
  case round =>
   clear HS0
   obtain ⟨kk, v1, ps, rfl, hkk, hgg, HS, HK⟩ := hrel
   have hpl : ps.length = kk := by have := congrArg List.length HK.out; simpa [Nat.min_eq_left hkk] using this
   obtain ⟨A1w, c1w, e1w⟩ := own_val HS.out.own
   by_cases hlt : kk < l1.length
   ·have hltz : (kk : Int) < (l1.length : Int) := by omega
    have hk0z : (0 : Int) ≤ (kk : Int) := by omega
    obtain ⟨ad, cs, e0, _, hKc, hcell⟩ := Kd.C_get HR1.out [] (kk : Int) (by omega) hltz
    rw [Int.toNat_natCast] at hKc hcell
    cases e0
    obtain ⟨Ar, cr, rfl, hlr, hCr⟩ := hKc
    have hx1 : wr.cell? (ad.add kk) = some (.slice Ar (l1.getD kk []).length cr) := by
     have h1 := pw_cell_below HS.out.below (hcell 0 _ rfl)
     have hsz : (Kd.slice 3 (Kd.int .i64)).sz = 1 := rfl
     rwa [hsz, Nat.mul_one, Nat.add_zero] at h1
    have hym : (l1.getD kk []).length ≤ 1000000 := HB2.out _ (mem_getD l1 [] kk hlt)
    obtain ⟨y, hy⟩ : ∃ y, y = l1.getD kk [] := ⟨_, rfl⟩
    rw [← hy] at hx1 hlr hCr hym
    have HY := Aside0.mk hy
    have hclone := fun W (hb : Below wr.heap.size wr W) => slices_Clone_int_int_81.calls Ar cr y y W (Kd.C_below (Kd.C_below hCr HS.out.below) hb) hlr (if_pos (by omega))
    have HCLN := Aside0.mk hclone
    have HPL := Aside0.mk hpl
    subst e1w
    have hc1 := HS.out.cell1
    clear hcell hCr hy hclone hpl
    go_wp2
    have HS2 : Aside0 (RelS w N0 wr B6 (.slice Av l0.length cv) (.slice A1w ps.length c1w) l0 ps ∧ Below wr.heap.size wr wr.drew) := ⟨HS.out, below_drew (Below.refl _ _)⟩
    refine start_ (n := 8) (S := fun w' => w'.cell? ⟨B6, 1, none⟩ = some (.slice A1w ps.length c1w)) (ds := [7]) #[false, false, false, false, false, false, false, false] (by kernel_rfl) rfl rfl ((HS2.out.1.step HS2.out.2).cell1) (fun hHeld => ?_)
    generalize wr.drew = w2 at HS2 hHeld ⊢
    refine pure_ (i := 0) (N := some 18) (v := ?_) (a' := ?_) #[true, false, false, false, false, false, false, false] rfl rfl (by kernel_rfl) (fun _ _ _ h => h) (Or.inl ⟨by rfl, ?_⟩) ?_ ?_
    rotate_left
    ·intro w'
     go_simp
     with_reducible rfl
    rotate_left
    ·simp only [Act.put, List.setIfInBounds_toArray, List.set_cons_zero, List.set_cons_succ, i64_w, i32_w]
     rfl
    refine pure_ (i := 2) (N := some 20) (v := ?_) (a' := ?_) #[true, false, true, false, false, false, false, false] rfl rfl (by kernel_rfl) (fun _ _ _ h => h) (Or.inl ⟨by rfl, ?_⟩) ?_ ?_
    rotate_left
    ·intro w'
     go_simp
     with_reducible rfl
    rotate_left
    ·simp only [Act.put, List.setIfInBounds_toArray, List.set_cons_zero, List.set_cons_succ, i64_w, i32_w]
     rfl
    refine take_ (i := 1) (N := some 19) (v := ?_) (a' := ?_) #[true, true, true, false, false, false, false, false] rfl rfl (by kernel_rfl) (fun _ _ _ h => h) (Or.inl ⟨by rfl, ?_⟩) hHeld ?_ ?_
    rotate_left
    ·intro w' s0
     go_simp
     with_reducible rfl
    rotate_left
    ·simp only [Act.put, List.setIfInBounds_toArray, List.set_cons_zero, List.set_cons_succ, i64_w, i32_w]
     rfl
    refine one_ (i := 3) (N := some 21) #[true, true, true, true, false, false, false, false] rfl rfl (by kernel_rfl) (by decide) (fun K hK => ?_)
    refine goes_ Try.func81 (by kernel_rfl) rfl #[.slice Ar y.length cr] (by rfl) rfl rfl (by simp only [List.map_toArray, List.map_cons, List.map_nil]; rfl) ?_
    with_reducible refine (HCLN.out w2 HS2.out.2).mono ?_
    rintro e w3 ⟨v9, rfl, hR9, hb9⟩
    refine ⟨_, rfl, ?_⟩
    have HS3 : Aside0 (RelS w N0 wr B6 (.slice Av l0.length cv) (.slice A1w ps.length c1w) l0 ps ∧ Below wr.heap.size wr w3 ∧ (Kd.int .i64).R 3 w3 wr.heap.size (fun _ => True) v9 y) := ⟨HS2.out.1, below_step HS2.out.2 hb9, Kd.R_lower hR9 HS2.out.2.size⟩
    obtain ⟨A9, c9, e9⟩ := Kd.R_slice hR9
    subst e9
    clear hR9 hb9
    refine hK.out _ _ ((HS3.out.1.step HS3.out.2.1).cell1) (fun hHeld => ?_)
    clear hK K
    refine norm_ (a' := ?_) ?_ ?_
    rotate_left
    ·show Act.put _ (some 21) _ = _
     simp only [Act.put, List.setIfInBounds_toArray, List.set_cons_zero, List.set_cons_succ, i64_w, i32_w]
     rfl
    refine one_ (i := 4) (N := some 22) #[true, true, true, true, true, false, false, false] rfl rfl (by kernel_rfl) (by decide) (fun K hK => ?_)
    refine value_ (w1 := ?_) (v := ?_) (by rfl) rfl ?_ ?_
    rotate_left 2
    ·go_simp
     constructor
     ·rfl
     ·rfl
    refine hK.out _ _ (pw_cell_below (below_alloc (Below.refl _ _) _) (HS3.out.1.step HS3.out.2.1).cell1) (fun hHeld => ?_)
    clear hK K
    refine norm_ (a' := ?_) ?_ ?_
    rotate_left
    ·show Act.put _ (some 22) _ = _
     simp only [Act.put, List.setIfInBounds_toArray, List.set_cons_zero, List.set_cons_succ, i64_w, i32_w]
     rfl
    refine one_ (i := 5) (N := some 23) #[true, true, true, true, true, true, false, false] rfl rfl (by kernel_rfl) (by decide) (fun K hK => ?_)
    refine step_append_cells (w0 := wr) N0 (by rfl) (.tmp 19) (.tmp 22) 40 39 (.slice none 0 0) 1 24 (by rfl) Try.underlying40 info39 (by rfl) (by omega) (by omega) (.slice A1w ps.length c1w) ps.length (ps.map (·.1)) [.slice A9 y.length c9] (by rfl) (by rfl) (by rfl) (by simp [Value.oneCell']) (own_below HS3.out.1.own HS3.out.2.1) (h_below_low HS3.out.2.1 HS3.out.1.le) (Nat.le_trans HS3.out.1.le HS3.out.2.1.size) (by have := HPL.out; omega) ?_
    intro v1n w4 ho4 hb4 hg4 _
    have HS4 : Aside0 (RelS w N0 (w4.setCell ⟨B6, 1, none⟩ v1n) B6 (.slice Av l0.length cv) v1n l0 (ps ++ [(.slice A9 y.length c9, y, 0)])) := ⟨HS3.out.1.push HS3.out.2.1 HS3.out.2.2 ho4 hg4⟩
    have HB4 : Aside0 (w4.cell? ⟨B6, 1, none⟩ = some (.slice A1w ps.length c1w) ∧ w4.frozen? ⟨B6, 1, none⟩ = false) := ⟨h_rel_cell HS3.out.1 HS3.out.2.1 hg4⟩
    obtain ⟨A1n, c1n, e1n⟩ := own_val ho4
    subst e1n
    clear ho4 hb4 hg4
    refine hK.out _ _ (HB4.out.1) (fun hHeld => ?_)
    clear hK K
    refine norm_ (a' := ?_) ?_ ?_
    rotate_left
    ·show Act.put _ (some 23) _ = _
     simp only [Act.put, List.setIfInBounds_toArray, List.set_cons_zero, List.set_cons_succ, i64_w, i32_w]
     rfl
    refine pure_ (i := 6) (N := some 24) (v := ?_) (a' := ?_) #[true, true, true, true, true, true, true, false] rfl rfl (by kernel_rfl) (fun _ _ _ h => h) (Or.inl ⟨by rfl, ?_⟩) ?_ ?_
    rotate_left
    ·intro w'
     go_simp
     with_reducible rfl
    rotate_left
    ·simp only [Act.put, List.setIfInBounds_toArray, List.set_cons_zero, List.set_cons_succ, i64_w, i32_w]
     rfl
    refine last_ (i := 7) (N := none) #[true, true, true, true, true, true, true, true] rfl rfl (by kernel_rfl) (by decide) (fun K hK => ?_)
    have hc4 := HB4.out.1
    have hf4 := HB4.out.2
    refine skip_ (w1 := ?_) (by rfl) rfl ?_ ?_
    rotate_left
    ·go_simp
     rfl
    clear hc4 hf4
    refine hK.out _ _ ?_
    clear hK K
    refine done_ (by kernel_rfl) ?_

    go_wp2
    go_roundg (l1.length - (kk + 1))
    case measure => omega
    case rel => exact ⟨kk + 1, _, _, by go_num, by omega, by omega, HS4, ⟨by rw [List.map_append, HK.out, List.take_succ_eq_append_getElem hlt, HY.out]; simp [List.getD, List.getElem?_eq_getElem hlt]⟩⟩
   ·obtain rfl : kk = l1.length := by omega
    have hltz : ¬ (l1.length : Int) < (l1.length : Int) := by omega
    have hk1 := HK.out
    rw [List.take_of_length_le (l := l1) (Nat.le_refl _)] at hk1
    have HKK := Aside0.mk hk1
    have hpb : ∀ p ∈ ps, p.2.1.length ≤ 1000000 := fun p hp => HB2.out _ (by rw [← hk1]; exact List.mem_map_of_mem hp)
    have hN : w.heap.size ≤ N0 := by have := HS.out.lo; have := HS.out.hi; omega
    have HSRT := Lib.hid (SortFunc_vals v1 ps w wr HS.out.below (own_lower HS.out.own hN) (fun p hp => (HS.out.els p hp).reads1 HS.out.own) (by omega) hpb)
    have hc1 := HS.out.cell1
    have HPB := Aside0.mk hpb
    have HN := Aside0.mk hN
    have HPL := Aside0.mk hpl
    subst e1w
    clear hk1 HK hpb hN hpl hkk hgg
    go_wp2_with (first | (go_at_call 82; refine HSRT.out.mono ?_; rintro e w2 ⟨rfl, qs, hperm, hsort, ho2, hb2, hk2⟩; have HS2 := Aside0.mk (HS.out.sort hb2 hk2 hperm ho2); have HQ := Aside0.mk (sortL_tells hperm hsort); have HQL := Aside0.mk hperm; have hz1 := HS2.out.cell1; clear hperm hsort ho2 hb2 hk2) | fail)
    have hql : qs.length ≤ 1000000 := by have := HQL.out.length_eq; have := HPL.out; omega
    have hqk : (compT qs).map (·.2.1) = compK (sortL l1) := by rw [compT_key, HQ.out, HKK.out]
    have HQK := Aside0.mk hqk
    have HLEN := Aside0.mk (show (compT qs).length = (compK (sortL l1)).length by rw [← hqk, List.length_map])
    have HCMP := Lib.hid (CompactFunc_vals _ qs w w2 HS2.out.below (own_lower HS2.out.own HN.out) (fun p hp => (HS2.out.els p hp).reads1 HS2.out.own) hql (fun p hp => HPB.out p (HQL.out.subset hp)))
    have HGR := Lib.hid (show ∀ (A3 : Option Addr) (c3 : Nat) (W : World) (N : Nat), (Kd.int .i64).R 3 W w.heap.size (fun k => k < N) (.slice Av l0.length cv) l0 → ((compK (sortL l1)).length ≤ c3 ∧ Kd.C (Kd.slice 3 (Kd.int .i64)) W A3 (compK (sortL l1)).length (compK (sortL l1))) → Calls Try.prog 80 #[.agg #[.slice Av l0.length cv, .slice A3 (compK (sortL l1)).length c3]] W fun e w' => e = .returned (.bool (relB l0 (compK (sortL l1)))) ∧ Below W.heap.size W w' from fun A3 c3 W N hn hr => impl_GoodRelation.calls Av cv l0 A3 c3 (compK (sortL l1)) _ W (Kd.R_reads' hn).2.2 (Kd.R_reads' hn).2.1 hr.2 hr.1 (if_pos ⟨by omega, by have := relT_len l1; omega, fun t ht => Nat.le_trans (HB2.out t (relT_mem ht)) (by omega)⟩))
    clear hql hqk
    cases hg : relB l0 (compK (sortL l1)) with
    | true =>
     rw [hg] at HGR
     have HG := Aside0.mk hg
     clear hg
     go_wp2_with (first | (go_at_call 84; refine HCMP.out.mono ?_; rintro e w3 ⟨v1c, rfl, ho3, hv3, hb3, hk3⟩; have e4 := h_slice_len ho3 HLEN.out; obtain ⟨A3, c3, e5⟩ := e4; have hblk := HS2.out.blkk hk3; have hc3 := (blk_cell hblk 1).trans rfl; have hf3 : w3.frozen? ⟨B6, 1, none⟩ = false := (by simp [World.frozen?, hblk]); have HS3 := Aside0.mk (HS2.out.comp hb3 hk3 (compT_sub qs) ho3 hv3); subst e5; have hz0 := HS3.out.cell0; have hz1 := HS3.out.cell1; clear ho3 hv3 hb3 hk3 hblk) | (go_at_call 80; refine (HGR.out _ _ _ _ HS3.out.nm (h_rows_C HS3.out HQK.out)).mono ?_; rintro e w4 ⟨rfl, hb4⟩; have HS4 := Aside0.mk (HS3.out.step hb4); have hz0 := HS4.out.cell0; have hz1 := HS4.out.cell1; have hy0 := HS4.out.out0; have hy1 := HS4.out.out1; have hg0 := HS4.out.fr4 0; have hg1 := HS4.out.fr4 1; clear hb4))
     refine bodyPost_ret (results_ct rfl _ _ w.heap.size 44 #[(.slice Av l0.length cv), (.slice A3 (compK (sortL l1)).length c3)] (0, 0) _ rfl (by refine blk_put (cs := #[(.slice Av l0.length cv), .slice none 0 0]) ?_ 1 _ rfl; refine blk_put (cs := #[.slice none 0 0, .slice none 0 0]) ?_ 0 _ rfl; exact HS4.out.b4) Try.underlying44 rfl (by kernel_rfl)) rfl ?_
     obtain ⟨rfl, rfl, rfl⟩ := HH.out.1 HG.out
     exact ⟨_, _, rfl, h_rel_done HS4.out HQK.out⟩
    | false =>
     rw [hg] at HGR
     have HG := Aside0.mk hg
     clear hg
     go_wp2_with (first | (go_at_call 84; refine HCMP.out.mono ?_; rintro e w3 ⟨v1c, rfl, ho3, hv3, hb3, hk3⟩; have e4 := h_slice_len ho3 HLEN.out; obtain ⟨A3, c3, e5⟩ := e4; have hblk := HS2.out.blkk hk3; have hc3 := (blk_cell hblk 1).trans rfl; have hf3 : w3.frozen? ⟨B6, 1, none⟩ = false := (by simp [World.frozen?, hblk]); have HS3 := Aside0.mk (HS2.out.comp hb3 hk3 (compT_sub qs) ho3 hv3); subst e5; have hz0 := HS3.out.cell0; have hz1 := HS3.out.cell1; clear ho3 hv3 hb3 hk3 hblk) | (go_at_call 80; refine (HGR.out _ _ _ _ HS3.out.nm (h_rows_C HS3.out HQK.out)).mono ?_; rintro e w4 ⟨rfl, hb4⟩; have HS4 := Aside0.mk (HS3.out.step hb4); have hz0 := HS4.out.cell0; have hz1 := HS4.out.cell1; have hy0 := HS4.out.out0; have hy1 := HS4.out.out1; have hg0 := HS4.out.fr4 0; have hg1 := HS4.out.fr4 1; clear hb4))
     refine bodyPost_ret (results_ct rfl _ _ w.heap.size 44 #[(.slice none 0 0), (.slice none 0 0)] (0, 0) _ rfl (by refine blk_put (cs := #[(.slice none 0 0), .slice none 0 0]) ?_ 1 _ rfl; refine blk_put (cs := #[.slice none 0 0, .slice none 0 0]) ?_ 0 _ rfl; exact HS4.out.b4) Try.underlying44 rfl (by kernel_rfl)) rfl ?_
     obtain ⟨rfl, rfl, rfl⟩ := HH.out.2 HG.out
     exact ⟨_, _, rfl, Kd.R_nil _ _ _ _ _, Kd.S_nil _ _ _ _ _, below_set (below_set HS4.out.below (Nat.le_refl _)) (Nat.le_refl _)⟩
 ·rw [if_neg hb] at h
  cases h

/-! ### slices_IndexFunc_int_int_86: function 86, by hand -/
set_option maxHeartbeats 2000000 in
/-- slices.IndexFunc at [][]int. -/
theorem IndexFunc_rows (g : Nat) (lb : Array Value) (eg : ∀ args w, (callFunc g args).run Try.prog w = .ok (.enter g args) w) (A : Option Addr) (c : Nat) (xs : List (List Int)) (p : List Int → Bool) (w : World)
  (hp : Pred1 (Kd.slice 3 (Kd.int .i64)) g lb xs p w) (hr : Kd.C (Kd.slice 3 (Kd.int .i64)) w A xs.length xs) :
  Calls Try.prog 86 #[.slice A xs.length c, .func (.func g) #[] lb] w fun e w' => e = .returned (.int .i64 (idxF p xs)) ∧ Below w.heap.size w w' := by
 have hm : xs.length ≤ 9223372036854775807 := hr.2.1
 have HR := Aside0.mk hr
 have HP := Aside0.mk hp
 clear hr hp
 go_enter Try.func86, Try.ntmps86
 go_wp2
 go_loopg [5, 8] xs.length (fun gg _ s8 wr => ∃ kk : Nat, kk ≤ xs.length ∧ xs.length - kk ≤ gg ∧ s8 = .int .i64 kk ∧ Aside0 (Below w.heap.size w wr) ∧ Aside0 (∀ j, j < kk → p (xs.getD j []) = false))
 case atStart => exact ⟨0, Nat.zero_le _, by omega, rfl, ⟨Below.refl _ w⟩, ⟨fun j hj => absurd hj (Nat.not_lt_zero _)⟩⟩
 case round =>
  obtain ⟨kk, hkk, hg, rfl, BW, AB⟩ := hrel
  by_cases hlt : kk < xs.length
  ·have hltz : (kk : Int) < (xs.length : Int) := by omega
   obtain ⟨ad, cs, e0, _, hK, hcell⟩ := Kd.C_get HR.out [] (kk : Int) (by omega) hltz
   rw [Int.toNat_natCast] at hK hcell
   cases e0
   have hK2 := Kd.K_below _ BW.out hK
   obtain ⟨A1, c1, rfl, hl1, hC1⟩ := hK
   have hc1 : wr.cell? (ad.add kk) = some (.slice A1 (xs.getD kk []).length c1) := by
    have h1 := pw_cell_below BW.out (hcell 0 _ rfl)
    have hsz : (Kd.slice 3 (Kd.int .i64)).sz = 1 := rfl
    rwa [hsz, Nat.mul_one, Nat.add_zero] at h1
   have hcall := HP.out wr (xs.getD kk []) _ BW.out (mem_getD xs [] kk hlt) hK2
   clear hcell hC1 hK2 hl1
   generalize hy : xs.getD kk [] = y at hc1 hcall
   have HY := Aside0.mk hy
   clear hy
   generalize hq : p y = q at hcall
   have HQ := Aside0.mk hq
   clear hq
   cases q with
   | true =>
    go_wp2_with (go_at_fn g; refine hcall.mono ?_; rintro e w' ⟨rfl, hb'⟩)
    go_ret
    refine ⟨?_, below_then BW.out BW.out.size hb'⟩
    rw [idxF_hit p xs [] kk hlt (by rw [HY.out]; exact HQ.out) AB.out]
    rfl
   | false =>
    go_wp2_with (go_at_fn g; refine hcall.mono ?_; rintro e w' ⟨rfl, hb'⟩)
    go_roundg (xs.length - (kk + 1))
    case measure => omega
    case rel =>
     refine ⟨kk + 1, by omega, by omega, by go_num, ⟨below_then BW.out BW.out.size hb'⟩, ⟨fun j hj => ?_⟩⟩
     by_cases e : j = kk
     ·subst e
      rw [HY.out]
      exact HQ.out
     ·exact AB.out j (by omega)
  ·have hltz : ¬ (kk : Int) < (xs.length : Int) := by omega
   have : kk = xs.length := by omega
   subst this
   go_wp2
   go_ret
   refine ⟨?_, BW.out⟩
   rw [idxF_miss p xs [] AB.out]
   rfl

end Go.Proofs.Ytcihgepinnajjaa.PFnExactWithoutOf
