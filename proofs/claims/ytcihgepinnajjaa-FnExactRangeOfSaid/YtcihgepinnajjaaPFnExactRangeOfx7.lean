-- Written for this claim by the session's own program (drive.py), over the kit's print, with contracts typed by hand.
import Derived.Test.YtcihgepinnajjaaPFnExactRangeOfx0
import Derived.Test.YtcihgepinnajjaaPFnExactRangeOfx3
import Derived.Test.YtcihgepinnajjaaPFnExactRangeOfx6
namespace Go.Proofs.Ytcihgepinnajjaa.PFnExactRangeOf
open Go.RowKit Go.Proofs.YtcihgepinnajjaaW.PrintWords Go.Proofs.YtcihgepinnajjaaW.PrintLast Go.Proofs.YtcihgepinnajjaaW.PrintMore
attribute [local go_sem] max2_int min2_int max_two min_two max_three min_three max_four min_four   -- for this text's walks alone
set_option linter.unusedVariables false
set_option linter.unusedSimpArgs false

/-! ### impl_Row_76: function 76, by hand -/
theorem h_R_len {α : Type} {d : Kd α} {e base n c : Nat} {ok : Nat → Prop} {w : World} {A : Option Addr} {xs : List α} (h : d.R e w base ok (.slice A n c) xs) : n = xs.length ∧ n ≤ c := by
  obtain ⟨A', c', he, hl, _⟩ := Kd.R_reads h
  injection he with h1 h2 h3
  subst h2 h3
  exact ⟨rfl, hl⟩
/-- Many cells of a row of whole numbers are written. -/
theorem h_R_sets {e base n c g : Nat} {ok : Nat → Prop} : ∀ (vs : List Int) (o : Nat) (W : World) (xs : List Int), (Kd.int .i64).R e W base ok (.slice (some ⟨g, 0, none⟩) n c) xs → o + vs.length ≤ n →
    (Kd.int .i64).R e (W.setCells g o (vs.map (Value.int .i64))) base ok (.slice (some ⟨g, 0, none⟩) n c) (xs.take o ++ vs ++ xs.drop (o + vs.length))
  | [], o, W, xs, h, _ => by
    simp only [List.append_nil, List.length_nil, Nat.add_zero, List.take_append_drop]
    exact h
  | v :: vs, o, W, xs, h, hl => by
    have hx := (h_R_len h).1
    have h1 := Kd.R_putn h (o : Int) v
    rw [Int.toNat_natCast] at h1
    simp only [List.length_cons] at hl
    have h2 := h_R_sets vs (o + 1) _ _ h1 (by omega)
    have e1 : (xs.set o v).take (o + 1) = xs.take o ++ [v] := by
      rw [List.take_succ_eq_append_getElem (by rw [List.length_set]; omega), List.take_set_of_le (Nat.le_refl o)]
      simp
    have e2 : (xs.set o v).drop (o + 1 + vs.length) = xs.drop (o + (vs.length + 1)) := by
      rw [List.drop_set_of_lt (by omega), show o + 1 + vs.length = o + (vs.length + 1) by omega]
    rw [e1, e2] at h2
    have e3 : xs.take o ++ (v :: vs) ++ xs.drop (o + (v :: vs).length) = xs.take o ++ [v] ++ vs ++ xs.drop (o + (vs.length + 1)) := by
      simp
    rw [e3]
    exact h2
theorem h_below_sets {w W : World} {g : Nat} (hb : Below w.heap.size w W) (hg : w.heap.size ≤ g) : ∀ (vs : List Value) (o : Nat), Below w.heap.size w (W.setCells g o vs) := by
  intro vs
  induction vs generalizing W with
  | nil => intro o; exact hb
  | cons v vs ih => intro o; exact ih (hb.setCell (p := ⟨g, o, none⟩) hg v) (o + 1)
theorem h_kept_sets {w W : World} {S : Nat → Prop} {g : Nat} (hk : Kept w W S) (hg : S g ∨ w.heap.size ≤ g) : ∀ (vs : List Value) (o : Nat), Kept w (W.setCells g o vs) S := by
  intro vs
  induction vs generalizing W with
  | nil => intro o; exact hk
  | cons v vs ih => intro o; exact ih (hk.setCell (p := ⟨g, o, none⟩) hg v) (o + 1)
/-- A slice of whole numbers that is read, by its cells. -/
theorem h_ints_at {w : World} {A : Option Addr} {xs : List Int} (h : (Kd.int .i64).C w A xs.length xs) (h0 : 0 < xs.length) : ∃ b off, A = some ⟨b, off, none⟩ ∧ ∀ j, j < xs.length → w.cell? ⟨b, off + j, none⟩ = some (.int .i64 (xs.getD j 0)) := by
  obtain ⟨ad, rfl, hc⟩ := Kd.at_int h (0 : Int) (by omega) (by omega)
  obtain ⟨b, off, sp⟩ := ad
  have hs : sp = none := by
    cases sp with
    | none => rfl
    | some s =>
      unfold World.cell? at hc
      simp only [Int.toNat_zero, Addr.add, if_pos] at hc
      split at hc <;> simp_all
  subst hs
  refine ⟨b, off, rfl, fun j hj => ?_⟩
  obtain ⟨ad2, e2, hc2⟩ := Kd.at_int h (j : Int) (by omega) (by omega)
  injection e2 with e2
  subst e2
  rw [Int.toNat_natCast, Addr.add_lit] at hc2
  rw [hc2]
  simp [rd]
theorem h_below_grow (W : World) (os : Array Obj) : Below W.heap.size W (Go.Sort.grow W os) :=
  ⟨rfl, rfl, rfl, by show W.heap.size ≤ (W.heap ++ os).size; rw [Array.size_append]; omega, fun _ hj => Go.Sort.heap_grow_old W os hj⟩
theorem h_holds {e base n c g : Nat} {ok : Nat → Prop} {w : World} {xs : List Int} (h : (Kd.int .i64).R e w base ok (.slice (some ⟨g, 0, none⟩) n c) xs) : Go.Sort.Holds (Value.int .i64) w g 0 xs.toArray := fun j hj => by
  have hn := (h_R_len h).1
  have hj' : j < xs.length := by simpa using hj
  have h1 := Kd.R_celln 0 h (j : Int) (by omega) (by omega)
  rw [Int.toNat_natCast] at h1
  rw [Nat.zero_add]
  refine ⟨?_, h1.2⟩
  rw [h1.1, getElem!_pos xs.toArray j hj]
  simp [rdOf, List.getD, List.getElem?_eq_getElem hj']
/-- A row of whole numbers, all of which are written anew (some draws, some blocks behind it). -/
theorem h_put_all {e base n c g : Nat} {ok : Nat → Prop} {w : World} {xs ys : List Int} (h : (Kd.int .i64).R e w base ok (.slice (some ⟨g, 0, none⟩) n c) xs) (hl : ys.length = xs.length) (q : Nat) (os : Array Obj) :
    (Kd.int .i64).R e (Go.Sort.grow (Go.Sort.putRow (Value.int .i64) (Go.Sort.ahead w q) g 0 ys.toArray) os) base ok (.slice (some ⟨g, 0, none⟩) n c) ys ∧
      (∀ (w0 : World), Below w0.heap.size w0 w → w0.heap.size ≤ g → Below w0.heap.size w0 (Go.Sort.grow (Go.Sort.putRow (Value.int .i64) (Go.Sort.ahead w q) g 0 ys.toArray) os)) ∧
      (∀ S : Nat → Prop, S g → Kept w (Go.Sort.grow (Go.Sort.putRow (Value.int .i64) (Go.Sort.ahead w q) g 0 ys.toArray) os) S) := by
  have hn := (h_R_len h).1
  rw [Lib.putRow_eq_setCells (Value.int .i64) w g 0 xs.toArray ys q (h_holds h) (by simpa using hl)]
  refine ⟨?_, fun w0 hb hg => ?_, fun S hs => ?_⟩
  · refine Kd.R_below ?_ (h_below_grow _ _)
    have h2 := h_R_sets ys 0 _ _ (Kd.R_drewN h q) (by omega)
    rw [List.take_zero, List.nil_append, Nat.zero_add, List.drop_of_length_le (by omega), List.append_nil] at h2
    exact h2
  · exact below_then (h_below_sets (pw_below_drewN hb q) hg _ _) (h_below_sets (pw_below_drewN hb q) hg _ _).size (h_below_grow _ _)
  · exact Kept.below (h_kept_sets (Kept.drewN (Kept.refl w S) q) (.inl hs) _ _) (h_below_grow _ _)
theorem memG {α : Type} (xs : List α) (z : α) (k : Nat) (hk : k < xs.length) : xs.getD k z ∈ xs := mem_getD xs z k hk
theorem filterG_none {α : Type} (z : α) (p : α → Bool) (xs : List α) (h : ∀ j, j < xs.length → p (xs.getD j z) = false) : xs.filter (fun x => !p x) = xs := by
  rw [List.filter_eq_self]
  intro x hx
  obtain ⟨j, hj, rfl⟩ := List.mem_iff_getElem.1 hx
  have := h j hj
  simpa [List.getD, List.getElem?_eq_getElem hj] using this
theorem idxG_spec {α : Type} (z : α) (p : α → Bool) (xs : List α) : (idxF p xs = -1 ∧ ∀ j, j < xs.length → p (xs.getD j z) = false) ∨ ∃ k, k < xs.length ∧ idxF p xs = (k : Int) ∧ p (xs.getD k z) = true ∧ ∀ j, j < k → p (xs.getD j z) = false := by
  unfold idxF
  cases h : xs.findIdx? p with
  | none =>
    left
    rw [List.findIdx?_eq_none_iff] at h
    refine ⟨rfl, fun j hj => h _ ?_⟩
    rw [show xs.getD j z = xs[j] from by simp [List.getD, List.getElem?_eq_getElem hj]]
    exact List.getElem_mem hj
  | some i =>
    right
    rw [List.findIdx?_eq_some_iff_getElem] at h
    obtain ⟨hi, hp, hn⟩ := h
    refine ⟨i, hi, rfl, by simpa [List.getD, List.getElem?_eq_getElem hi] using hp, fun j hj => ?_⟩
    have := hn j hj
    simpa [List.getD, List.getElem?_eq_getElem (show j < xs.length by omega)] using this
/-- What the row holds after some rounds: what is kept of the first j, up to i; from j on as it was. -/
structure DelG {α : Type} (z : α) (p : α → Bool) (xs : List α) (i j : Nat) (cur : List α) : Prop where
  lt : i < j
  le : j ≤ xs.length
  len : cur.length = xs.length
  low : cur.take i = (xs.take j).filter fun x => !p x
  high : cur.drop j = xs.drop j
section
variable {α : Type} {z : α} {p : α → Bool} {xs cur : List α} {i j : Nat}
theorem DelG.start {k : Nat} (hk : k < xs.length) (hp : p (xs.getD k z) = true) (hn : ∀ j, j < k → p (xs.getD j z) = false) : DelG z p xs k (k + 1) xs := by
  refine ⟨by omega, by omega, rfl, ?_, rfl⟩
  rw [List.take_succ_eq_append_getElem hk, List.filter_append]
  have h1 : (xs.take k).filter (fun x => !p x) = xs.take k := by
    refine filterG_none z p _ fun j hj => ?_
    have hj' : j < k := by simp at hj; omega
    have := hn j hj'
    rw [show (xs.take k).getD j z = xs.getD j z from by simp [List.getD, List.getElem?_take, hj']]
    exact this
  have h2 : p xs[k] = true := by simpa [List.getD, List.getElem?_eq_getElem hk] using hp
  rw [h1]
  simp [h2]
theorem DelG.at_ (h : DelG z p xs i j cur) (hj : j < xs.length) : cur.getD j z = xs.getD j z := by
  have h1 := congrArg (fun l : List α => l.head?) h.high
  simp only [List.head?_drop] at h1
  simp only [List.getD]
  rw [h1]
theorem DelG.keep (h : DelG z p xs i j cur) (hj : j < xs.length) (hp : p (xs.getD j z) = false) : DelG z p xs (i + 1) (j + 1) (cur.set i (xs.getD j z)) := by
  have hi := h.lt
  have hlen := h.len
  refine ⟨by omega, by omega, by simpa using h.len, ?_, ?_⟩
  · rw [List.take_succ_eq_append_getElem (by rw [List.length_set]; omega), List.take_set_of_le (Nat.le_refl i), h.low, List.take_succ_eq_append_getElem hj, List.filter_append]
    have h2 : p xs[j] = false := by simpa [List.getD, List.getElem?_eq_getElem hj] using hp
    simp [h2, List.getD, List.getElem?_eq_getElem hj]
  · rw [List.drop_set_of_lt (by omega)]
    have := congrArg (List.drop 1) h.high
    rwa [List.drop_drop, List.drop_drop] at this
theorem DelG.skip (h : DelG z p xs i j cur) (hj : j < xs.length) (hp : p (xs.getD j z) = true) : DelG z p xs i (j + 1) cur := by
  have hi := h.lt
  refine ⟨by omega, by omega, h.len, ?_, ?_⟩
  · rw [h.low, List.take_succ_eq_append_getElem hj, List.filter_append]
    have h2 : p xs[j] = true := by simpa [List.getD, List.getElem?_eq_getElem hj] using hp
    simp [h2]
  · have := congrArg (List.drop 1) h.high
    rwa [List.drop_drop, List.drop_drop] at this
end
/-- Stores behind a row's elements say nothing of them. -/
theorem h_spare1 {α : Type} {d : Kd α} {e base n c g j : Nat} {ok : Nat → Prop} {W : World} {xs : List α} (h : d.R e W base ok (.slice (some ⟨g, 0, none⟩) n c) xs) (hj : n * d.sz ≤ j) (u : Value) : d.R e (W.setCell ⟨g, j, none⟩ u) base ok (.slice (some ⟨g, 0, none⟩) n c) xs := by
  have hn := (h_R_len h).1
  obtain ⟨h0, inner, ho, hr⟩ := h
  rcases ho.2 with ⟨hv, _⟩ | ⟨g', cap', cur, hv, hb, hh, hlc, hcm, hcs, htk⟩
  · cases hv
  injection hv with ha _ hc
  injection ha with ha
  injection ha with hg
  subst hg hc
  refine ⟨h0, inner, ⟨ho.1, .inr ⟨g, c, cur.setIfInBounds j u, by rw [← hn], hb, blk_set hh j u, hlc, hcm, by simpa using hcs, ?_⟩⟩, hr.imp_ fun _ _ hp => Kd.M_step hp fun k hk _ => Below.heap_setCell W _ u k fun e_ => hk.2 (by simp [Value.ownBlock, e_])⟩
  rw [Array.toList_setIfInBounds, List.take_set_of_le (by rw [← hn]; exact hj)]
  exact htk
theorem h_spares {α : Type} {d : Kd α} {e base n c g : Nat} {ok : Nat → Prop} {xs : List α} : ∀ (vs : List Value) (j : Nat) (W : World), d.R e W base ok (.slice (some ⟨g, 0, none⟩) n c) xs → n * d.sz ≤ j → d.R e (W.setCells g j vs) base ok (.slice (some ⟨g, 0, none⟩) n c) xs
  | [], _, _, h, _ => h
  | v :: vs, j, W, h, hj => h_spares vs (j + 1) _ (h_spare1 h hj v) (by omega)
/-- Elements with tags that are all of them others, told anew by their places. -/
theorem S_of_tags {α : Type} {d : Kd α} {e base : Nat} {ok : Nat → Prop} {w : World} {v : Value} {f : Nat → Nat} {zs : List (α × Nat)} (h : (Kd.tag f d).R e w base ok v zs) (hnd : (zs.map Prod.snd).Nodup) : Kd.S d e w base ok v (zs.map Prod.fst) := by
  obtain ⟨h0, inner, ho, hr⟩ := h
  refine ⟨fun b => (zs.map Prod.snd).idxOf (f b), h0, inner, by rw [List.length_zipIdx, List.length_map]; exact ho, by rw [List.length_zipIdx, List.length_map]; exact hr.1, fun j p hj => ?_⟩
  rw [List.getElem?_zipIdx, Nat.zero_add] at hj
  obtain ⟨x, hx, rfl⟩ := Option.map_eq_some_iff.1 hj
  rw [List.getElem?_map] at hx
  obtain ⟨⟨y, t⟩, hy, rfl⟩ := Option.map_eq_some_iff.1 hx
  have hm := hr.2 j (y, t) hy
  refine d.M_mono (fun b hb => ⟨hb.1, ?_⟩) hm
  have h2 : f b = t := hb.2
  show (zs.map Prod.snd).idxOf (f b) = j
  rw [h2]
  obtain ⟨hjl, hje⟩ := List.getElem?_eq_some_iff.1 hy
  have hjl2 : j < (zs.map Prod.snd).length := by rw [List.length_map]; exact hjl
  have he : (zs.map Prod.snd)[j] = t := by rw [List.getElem_map, hje]
  rw [← he]
  exact List.Nodup.idxOf_getElem hnd j hjl2
theorem zip_getD {α : Type} (xs : List α) (z : α) {j : Nat} (h : j < xs.length) : (xs.zipIdx.getD j (z, 0)) = (xs.getD j z, j) := by
  rw [List.getD_eq_getElem?_getD, List.getD_eq_getElem?_getD, List.getElem?_zipIdx, List.getElem?_eq_getElem h]
  simp
theorem row_cell0 {c : List Value} {w : World} {g o : Nat} (hc : c.length = 2) (h : ∀ j u, c[j]? = some u → w.cell? ⟨g, o + j, none⟩ = some u) : w.cell? ⟨g, o, none⟩ = some (c.getD 0 undef) := by
  match c, hc with
  | [a, b], _ => exact h 0 a rfl
theorem row_cell1 {c : List Value} {w : World} {g o : Nat} (hc : c.length = 2) (h : ∀ j u, c[j]? = some u → w.cell? ⟨g, o + j, none⟩ = some u) : w.cell? ⟨g, o + 1, none⟩ = some (c.getD 1 undef) := by
  match c, hc with
  | [a, b], _ => exact h 1 b rfl
theorem zip_filter {α : Type} (q : α → Bool) (xs : List α) : ((xs.zipIdx.filter fun z => q z.1).map Prod.fst) = xs.filter q ∧ ((xs.zipIdx.filter fun z => q z.1).map Prod.snd).Nodup := by
  constructor
  · have h1 : (xs.zipIdx.filter fun z => q z.1).map Prod.fst = (xs.zipIdx.map Prod.fst).filter q := by rw [List.filter_map]; rfl
    rw [h1, List.zipIdx_map_fst]
  · have h1 : (xs.zipIdx.map Prod.snd).Nodup := by
      rw [List.zipIdx_map_snd]
      exact List.nodup_range' 
    exact List.Nodup.sublist ((List.filter_sublist).map _) h1
/-- A predicate over rows that answers whatever is done to the blocks in S. -/
def PredRow (g : Nat) (lb : Array Value) (xs : List S26) (p : S26 → Bool) (w : World) (S : Nat → Prop) : Prop :=
  ∀ (W : World) (x : S26) (A : Option Addr) (c : Nat), Kept w W S → x ∈ xs → Calls Try.prog g (#[.agg #[.int .i64 x.f0, .slice A x.f1.length c]] ++ lb) W fun e w' => e = .returned (.bool (p x)) ∧ Below W.heap.size W w'
set_option maxHeartbeats 2000000 in
theorem IndexFunc_row (g : Nat) (lb : Array Value) (eg : ∀ args w, (callFunc g args).run Try.prog w = .ok (.enter g args) w) (A : Option Addr) (c : Nat) (xs : List S26) (p : S26 → Bool) (w : World) (S : Nat → Prop)
    (hp : PredRow g lb xs p w S) (hr : Kd.C k26 w A xs.length xs) :
    Calls Try.prog 76 #[.slice A xs.length c, .func (.func g) #[] lb] w fun e w' => e = .returned (.int .i64 (idxF p xs)) ∧ Below w.heap.size w w' := by
  have hm : xs.length ≤ 9223372036854775807 := hr.2.1
  have HR := Aside0.mk hr
  have HP := Aside0.mk hp
  clear hr hp
  go_enter Try.func76, Try.ntmps76
  go_wp2
  go_loopg [5, 8] xs.length (fun gg _ s8 wr => ∃ kk : Nat, kk ≤ xs.length ∧ xs.length - kk ≤ gg ∧ s8 = .int .i64 kk ∧ Aside0 (Below w.heap.size w wr) ∧ Aside0 (∀ j, j < kk → p (xs.getD j z26) = false))
  case atStart => exact ⟨0, Nat.zero_le _, by omega, rfl, ⟨Below.refl _ w⟩, ⟨fun j hj => absurd hj (Nat.not_lt_zero _)⟩⟩
  case round =>
    obtain ⟨kk, hkk, hg, rfl, BW, AB⟩ := hrel
    by_cases hlt : kk < xs.length
    · have hltz : (kk : Int) < (xs.length : Int) := by omega
      obtain ⟨ad, Ar, cr, e0, hx0, hx1, hx2, hx3⟩ := at_T26 HR.out (kk : Int) (by omega) hltz
      cases e0
      rw [Int.toNat_natCast] at hx0 hx1
      replace hx0 := pw_cell_below BW.out hx0
      replace hx1 := pw_cell_below BW.out hx1
      have hy : rd_T26 xs (kk : Int) = xs.getD kk z26 := rfl
      rw [hy] at hx0 hx1
      have hcall := HP.out wr (xs.getD kk z26) Ar cr (Kept.of_below BW.out _) (memG xs z26 kk hlt)
      obtain ⟨y, hyy⟩ : ∃ y, y = xs.getD kk z26 := ⟨_, rfl⟩
      rw [← hyy] at hx0 hx1 hcall
      have B := Aside0.mk hyy
      clear hyy hx2 hx3 hy
      cases hq : p y with
      | true =>
        rw [hq] at hcall
        have HQ := Aside0.mk hq
        have HL := Aside0.mk hlt
        clear hq
        go_wp2_with (go_at_fn g; refine hcall.mono ?_; rintro e w' ⟨rfl, hb'⟩)
        go_ret
        refine ⟨?_, below_then BW.out BW.out.size hb'⟩
        rw [idxF_hit p xs z26 kk HL.out (by rw [← B.out]; exact HQ.out) AB.out]
        rfl
      | false =>
        rw [hq] at hcall
        have HQ := Aside0.mk hq
        clear hq
        go_wp2_with (go_at_fn g; refine hcall.mono ?_; rintro e w' ⟨rfl, hb'⟩)
        go_roundg (xs.length - (kk + 1))
        case measure => omega
        case rel =>
          refine ⟨kk + 1, by omega, by omega, by go_num, ⟨below_then BW.out BW.out.size hb'⟩, ⟨fun j hj => ?_⟩⟩
          by_cases e : j = kk
          · subst e
            rw [← B.out]
            exact HQ.out
          · exact AB.out j (by omega)
    · have hltz : ¬ (kk : Int) < (xs.length : Int) := by omega
      have : kk = xs.length := by omega
      subst this
      go_wp2
      go_ret
      refine ⟨?_, BW.out⟩
      rw [idxF_miss p xs z26 AB.out]
      rfl

/-! ### impl_Row_42: function 42, by hand -/
theorem h_two (n : Nat) (a b : Value) (ha : a.oneCell' = true) (hb : b.oneCell' = true) : (Builtin.zeroCells #[a, b] n).toList.length = n * 2 ∧ ∀ u ∈ (Builtin.zeroCells #[a, b] n).toList, u.oneCell' = true := by
  constructor
  · simp [Builtin.zeroCells]
  · intro u hu
    simp only [Builtin.zeroCells, Array.toList_map, List.mem_map] at hu
    obtain ⟨i, _, rfl⟩ := hu
    have : i % #[a, b].size < 2 := Nat.mod_lt _ (by simp)
    show (#[a, b][i % #[a, b].size]!).oneCell' = true
    generalize i % #[a, b].size = r at this
    match r, this with
    | 0, _ => exact ha
    | 1, _ => exact hb
/-- clear(s), s a slice of elements of two cells. -/
theorem h_clear2 {P : Program} (w : World) (t e ty : TypeId) (z0 z1 : Value) (ht : P.underlying t = some (.slice e)) (hv : ∀ w, (zeroValue e).run P w = .ok (.agg #[z0, z1]) w) (hz : (Value.agg #[z0, z1]).cells = #[z0, z1]) (h0 : z0.oneCell' = true) (h1 : z1.oneCell' = true) (b o n c : Nat) (hn : 0 < n)
    (hc : ∀ j, j < n * 2 → (w.cell? ⟨b, o + j, none⟩).isSome = true) (hf : ∀ j, j < n * 2 → w.frozen? ⟨b, o + j, none⟩ = false) :
    (Builtin.clear_ #[t] ty #[.slice (some ⟨b, o, none⟩) n c]).run P w = .ok (.tuple #[]) (w.setCells b o (Builtin.zeroCells #[z0, z1] n).toList) := by
  obtain ⟨hl, ho⟩ := h_two n z0 z1 h0 h1
  have hst := run_storeCells_cells (P := P) b o (Builtin.zeroCells #[z0, z1] n).toList 0 w (by intro j hj; rw [hl] at hj; simpa using hc j hj) (by intro j hj; rw [hl] at hj; simp) ho
  simp only [Nat.add_zero] at hst
  obtain ⟨m, rfl⟩ : ∃ m, n = m + 1 := ⟨n - 1, by omega⟩
  simp [Builtin.clear_, run_underlying ht, hv, hz, hst]
set_option maxHeartbeats 4000000 in
set_option maxRecDepth 100000 in
/-- slices.DeleteFunc of rows of the call's own. -/
theorem DeleteFunc_row (g : Nat) (lb : Array Value) (eg : ∀ args w, (callFunc g args).run Try.prog w = .ok (.enter g args) w) (P0_ : Nat → Prop) (v : Value) (xs : List S26) (p : S26 → Bool) (w0 w : World) (hB : Below w0.heap.size w0 w)
    (ho : Kd.S k26 26 w w0.heap.size P0_ v xs) (hp : PredRow g lb xs p w P0_) (hcap : xs.length ≤ 1000000) :
    Calls Try.prog 42 #[v, .func (.func g) #[] lb] w fun e w' => ∃ v0_ : Value, e = .returned v0_ ∧ Kd.S k26 26 w' w0.heap.size P0_ v0_ (xs.filter fun x => !p x) ∧ Below w0.heap.size w0 w' ∧ Kept w w' P0_ := by
  obtain ⟨A, c, rfl, hlc, hC⟩ := Kd.S_reads ho
  have hIF := Lib.hid (IndexFunc_row g lb eg A c xs p w P0_ hp hC)
  rcases idxG_spec z26 p xs with ⟨e1, hall⟩ | ⟨k0, hk0, e1, ht, hall⟩
  · rw [e1] at hIF
    rw [filterG_none z26 p xs hall]
    have HO := Aside0.mk ho
    have HB := Aside0.mk hB
    clear ho hp hall hC hB e1
    go_enter Try.func42, Try.ntmps42
    go_wp2_with (go_at_call 76; refine hIF.out.mono ?_; rintro e w' ⟨rfl, hb⟩)
    go_ret
    exact ⟨_, rfl, Kd.S_below HO.out hb, below_step HB.out hb, Kept.of_below hb _⟩
  · rw [e1] at hIF
    obtain ⟨gb, cb, eo, hg0, hgl, cells, hcells⟩ := Kd.S_form ho (by omega)
    injection eo with eA _ ec
    subst eA
    have hPg := (Kd.S_R ho).1 gb rfl
    obtain ⟨f, hT⟩ := ho
    have HP := Aside0.mk hp
    have HX := Aside0.mk hall
    have HTT := Aside0.mk ht
    have HG0 := Aside0.mk hg0
    have HO := Aside0.mk hT
    have HB := Aside0.mk hB
    have HS := Aside0.mk (show P0_ gb ∨ w.heap.size ≤ gb from .inl hPg)
    have hne1 : ((k0 : Int) == -1) = false := beq_eq_false_iff_ne.2 (by omega)
    have HCAP := Aside0.mk hlc
    clear hp hall hC hB e1 ht hg0 hgl hcells ec hT hPg
    go_enter Try.func42, Try.ntmps42
    go_wp2_with (go_at_call 76; refine hIF.out.mono ?_; rintro e w' ⟨rfl, hb⟩)
    rename_i w1
    have HB1 := Aside0.mk hb
    clear hb
    have hzl : xs.zipIdx.length = xs.length := List.length_zipIdx
    have HZ := Aside0.mk hzl
    clear hzl
    go_loopg [5, 6, 7] xs.length (fun gg s5 s6 _ wr => ∃ (i j : Nat) (cur : List (S26 × Nat)), s5 = .int .i64 i ∧ s6 = .int .i64 j ∧ xs.length - j ≤ gg ∧ Aside0 (DelG (z26, 0) (fun z => p z.1) xs.zipIdx i j cur) ∧ Aside0 ((Kd.tag f k26).R 26 wr w0.heap.size P0_ (.slice (some ⟨gb, 0, none⟩) xs.length c) cur) ∧ Aside0 (Below w0.heap.size w0 wr) ∧ Aside0 (Kept w wr P0_))
    case atStart => exact ⟨k0, k0 + 1, xs.zipIdx, rfl, by go_num, by omega, ⟨DelG.start (by rw [HZ.out]; exact hk0) (by rw [zip_getD _ _ hk0]; exact HTT.out) (fun j hj => by rw [zip_getD _ _ (by omega)]; exact HX.out j hj)⟩, ⟨Kd.R_below HO.out HB1.out⟩, ⟨below_step HB.out HB1.out⟩, ⟨Kept.of_below HB1.out _⟩⟩
    case round =>
      clear HO HB
      obtain ⟨i, j, cur, rfl, rfl, hgg, HI, HO, HB, HK⟩ := hrel
      have hij := HI.out.lt
      have hjl : j ≤ xs.length := by have := HI.out.le; rw [HZ.out] at this; exact this
      have hcl : cur.length = xs.length := by have := HI.out.len; rw [HZ.out] at this; exact this
      by_cases hlt : j < xs.length
      · have hltz : (j : Int) < (xs.length : Int) := by omega
        have hit : (i : Int) < (xs.length : Int) := by omega
        have hget := HI.out.at_ (by rw [HZ.out]; exact hlt)
        obtain ⟨cj, hcjl, hcjM, hcjc, _⟩ := Kd.R_elem HO.out (z26, 0) (j : Int) (by omega) (by omega)
        rw [Int.toNat_natCast, hget] at hcjM
        rw [Int.toNat_natCast] at hcjc
        have hyx : (xs.zipIdx.getD j (z26, 0)).1 ∈ xs := by rw [zip_getD _ _ hlt]; exact mem_getD xs z26 j hlt
        obtain ⟨y, hy⟩ : ∃ y, y = xs.zipIdx.getD j (z26, 0) := ⟨_, rfl⟩
        rw [← hy] at hcjM hyx
        have HY := Aside0.mk hy
        have HMj := Aside0.mk hcjM
        obtain ⟨v1, hv1, hR1⟩ := k26_openM (show k26.M wr w0.heap.size _ y.1 cj from hcjM)
        obtain ⟨Ar, cr, rfl⟩ := Kd.R_slice hR1
        subst hv1
        have hx0 : wr.cell? ⟨gb, j * 2, none⟩ = some (.int .i64 y.1.f0) := hcjc 0 _ rfl
        have hx1 : wr.cell? ⟨gb, j * 2 + 1, none⟩ = some (.slice Ar y.1.f1.length cr) := hcjc 1 _ rfl
        have HB2 := Aside0.mk (below_step HB.out (below_alloc (Below.refl wr.heap.size wr) (.cells #[.int .i64 y.1.f0, .slice Ar y.1.f1.length cr] 26)))
        have HK2 := Aside0.mk (Kept.alloc HK.out (.cells #[.int .i64 y.1.f0, .slice Ar y.1.f1.length cr] 26))
        have hcall := HP.out (wr.alloc (.cells #[.int .i64 y.1.f0, .slice Ar y.1.f1.length cr] 26)) y.1 Ar cr HK2.out hyx
        have HO2 := Aside0.mk (Kd.R_alloc HO.out (.cells #[.int .i64 y.1.f0, .slice Ar y.1.f1.length cr] 26))
        have HM2 := Aside0.mk (Kd.M_alloc HMj.out (.cells #[.int .i64 y.1.f0, .slice Ar y.1.f1.length cr] 26))
        have HC0 := Aside0.mk (show (wr.alloc (.cells #[.int .i64 y.1.f0, .slice Ar y.1.f1.length cr] 26)).cell? ⟨wr.heap.size, 0, none⟩ = some (.int .i64 y.1.f0) by simp)
        have HC1 := Aside0.mk (show (wr.alloc (.cells #[.int .i64 y.1.f0, .slice Ar y.1.f1.length cr] 26)).cell? ⟨wr.heap.size, 1, none⟩ = some (.slice Ar y.1.f1.length cr) by simp)
        clear hget hcjl hcjM hcjc hy hR1 hyx
        cases hq : p y.1 with
        | true =>
          rw [hq] at hcall
          have HQ := Aside0.mk hq
          clear hq
          go_wp2_with (go_at_fn g; refine hcall.mono ?_; rintro e w2 ⟨rfl, hb2⟩)
          go_roundg (xs.length - (j + 1))
          case measure => omega
          case rel => exact ⟨i, j + 1, cur, rfl, by go_num, by omega, ⟨HI.out.skip (by rw [HZ.out]; exact hlt) (by rw [← HY.out]; exact HQ.out)⟩, ⟨Kd.R_below HO2.out hb2⟩, ⟨below_step HB2.out hb2⟩, ⟨Kept.below HK2.out hb2⟩⟩
        | false =>
          rw [hq] at hcall
          have HQ := Aside0.mk hq
          clear hq
          go_wp2_with (go_at_fn g; refine hcall.mono ?_; rintro e w2 ⟨rfl, hb2⟩; have HO3 := Aside0.mk (Kd.R_below HO2.out hb2); have HM3 := Aside0.mk (Kd.M_below HM2.out hb2); have HB3 := Aside0.mk (below_step HB2.out hb2); have HK3 := Aside0.mk (Kept.below HK2.out hb2); obtain ⟨ci, hci, _, hcc, hfr⟩ := Kd.R_elem HO3.out (z26, 0) (i : Int) (by omega) (by omega); rw [Int.toNat_natCast] at hcc hfr; have HCI := Aside0.mk hci; have HCC := Aside0.mk hcc; have hz0 : w2.cell? ⟨gb, i * 2, none⟩ = some (ci.getD 0 undef) := row_cell0 hci hcc; have hz1 : w2.cell? ⟨gb, i * 2 + 1, none⟩ = some (ci.getD 1 undef) := row_cell1 hci hcc; have hz2 : w2.frozen? ⟨gb, i * 2, none⟩ = false := hfr 0; have hz3 : w2.frozen? ⟨gb, i * 2 + 1, none⟩ = false := hfr 1; have hy0 := pw_cell_below hb2 HC0.out; have hy1 := pw_cell_below hb2 HC1.out; clear hcc hfr hci hb2)
          go_roundg (xs.length - (j + 1))
          case measure => omega
          case rel =>
            have hs := Kd.R_seg HO3.out (i : Int) (by omega) (by omega) (c := ci) (seg := [.int .i64 y.1.f0, .slice Ar y.1.f1.length cr]) (j := 0) HCI.out (by rw [Int.toNat_natCast]; exact HCC.out) (show 2 ≤ 2 by decide) (x' := y) (by rw [List.take_zero, List.nil_append, List.drop_of_length_le (by rw [HCI.out]; exact Nat.le_refl _), List.append_nil]; exact HM3.out) (fun k hk => hk)
            rw [Int.toNat_natCast] at hs
            exact ⟨i + 1, j + 1, cur.set i y, by go_num, by go_num, by omega, ⟨by rw [HY.out]; exact HI.out.keep (by rw [HZ.out]; exact hlt) (by rw [← HY.out]; exact HQ.out)⟩, ⟨hs.1⟩, ⟨below_set (below_set HB3.out HG0.out) HG0.out⟩, ⟨(HK3.out.setCell (p := ⟨gb, i * 2, none⟩) HS.out _).setCell (p := ⟨gb, i * 2 + 1, none⟩) HS.out _⟩⟩
      · obtain rfl : j = xs.length := by omega
        have hltz : ¬ (xs.length : Int) < (xs.length : Int) := by omega
        have hlow := HI.out.low
        rw [List.take_of_length_le (l := xs.zipIdx) (by rw [HZ.out]; exact Nat.le_refl _)] at hlow
        have hil : i < xs.length := hij
        have hic : i ≤ c := by have := HCAP.out; omega
        have hicz : (i : Int) ≤ (xs.length : Int) := by omega
        have hcl2 : ∀ ty, (Builtin.clear_ #[29] ty #[.slice (some ⟨gb, i * 2, none⟩) (xs.length - i) (c - i)]).run Try.prog wr = .ok (.tuple #[]) (wr.setCells gb (i * 2) (Builtin.zeroCells #[.int .i64 0, .slice none 0 0] (xs.length - i)).toList) :=
          fun ty => h_clear2 wr _ 26 ty (.int .i64 0) (.slice none 0 0) Try.underlying29 (fun _ => by kernel_rfl) rfl rfl rfl gb (i * 2) _ _ (by omega) (fun t ht => by
            obtain ⟨ci, hci, _, hcc, hfr⟩ := Kd.R_elem HO.out (z26, 0) ((i + t / 2 : Nat) : Int) (by omega) (by omega)
            rw [Int.toNat_natCast] at hcc
            have e : i * 2 + t = (i + t / 2) * 2 + t % 2 := by omega
            rw [e]
            rcases Nat.mod_two_eq_zero_or_one t with h | h <;> rw [h]
            · have h2 : wr.cell? ⟨gb, (i + t / 2) * 2, none⟩ = some (ci.getD 0 undef) := row_cell0 hci hcc
              rw [Nat.add_zero, h2]
              rfl
            · have h2 : wr.cell? ⟨gb, (i + t / 2) * 2 + 1, none⟩ = some (ci.getD 1 undef) := row_cell1 hci hcc
              rw [h2]
              rfl) (fun t ht => by
            obtain ⟨ci, hci, _, hcc, hfr⟩ := Kd.R_elem HO.out (z26, 0) ((i + t / 2 : Nat) : Int) (by omega) (by omega)
            rw [Int.toNat_natCast] at hfr
            have e : i * 2 + t = (i + t / 2) * 2 + t % 2 := by omega
            rw [e]
            exact hfr (t % 2))
        have HLOW := Aside0.mk hlow
        clear hlow
        go_wp2
        go_ret
        have hT := h_spares (Builtin.zeroCells #[.int .i64 0, .slice none 0 0] (xs.length - i)).toList (i * 2) wr (Kd.R_take HO.out (m := i) (by omega)) (Nat.le_refl _)
        rw [HLOW.out] at hT
        obtain ⟨hf1, hf2⟩ := zip_filter (fun x => !p x) xs
        have hS := S_of_tags hT hf2
        rw [hf1] at hS
        exact ⟨_, rfl, hS, h_below_sets HB.out HG0.out _ _, h_kept_sets HK.out HS.out _ _⟩

/-! ### impl_Value: function 74, by hand -/
/-- A slice of structs that is read, by its cells. -/
theorem h_struct_at {α : Type} {d : Kd α} (z : α) (enc : α → List Value) (hE : ∀ {w : World} {x : α} {cs : List Value}, d.K w x cs → cs = enc x) {w : World} {A : Option Addr} {n : Nat} {xs : List α} (h : d.C w A n xs) (h0 : 0 < n) (hs : 0 < d.sz) :
    ∃ b off, A = some ⟨b, off, none⟩ ∧ ∀ j, j < n → ∀ i v, (enc (xs.getD j z))[i]? = some v → w.cell? ⟨b, off + (j * d.sz + i), none⟩ = some v := by
  obtain ⟨ad, c, rfl, hl, hK, hc⟩ := Kd.C_get h z (0 : Int) (by omega) (by omega)
  obtain ⟨b, off, sp⟩ := ad
  have hs' : sp = none := by
    have h1 := hc 0 (c[0]'(by omega)) (by simp)
    cases sp with
    | none => rfl
    | some s =>
      unfold World.cell? at h1
      simp only [Int.toNat_zero, Addr.add] at h1
      split at h1 <;> simp_all
  subst hs'
  refine ⟨b, off, rfl, fun j hj i v hi => ?_⟩
  obtain ⟨ad2, c2, e2, _, hK2, hc2⟩ := Kd.C_get h z (j : Int) (by omega) (by omega)
  injection e2 with e2
  subst e2
  rw [Int.toNat_natCast] at hK2 hc2
  rw [hE hK2] at hc2
  have := hc2 i v hi
  rwa [Addr.add_lit] at this
theorem h_load (P : Program) {W : World} {a : Addr} {cs : List Value} {k : Nat} (hk : cs.length = k) (h : ∀ j v, cs[j]? = some v → W.cell? (a.add j) = some v) :
    Sem.run P (loadCellsFrom a 0 k #[]) W = .ok cs.toArray W := by
  have := run_loadCells_list (P := P) (w := W) a cs h
  rw [hk] at this
  simpa [loadCells] using this
theorem reps_flat {α : Type} (enc : α → List Value) (k : Nat) (hk : ∀ x, (enc x).length = k) : ∀ l : List α, Reps (fun x cs => cs = enc x) k l (l.flatMap enc)
  | [] => Reps.none _ _
  | x :: l => by
    rw [List.flatMap_cons]
    exact Reps.front rfl (hk x) (reps_flat enc k hk l) rfl
theorem flat_cells {α : Type} (enc : α → List Value) (k : Nat) (hk0 : 0 < k) (hk : ∀ x, (enc x).length = k) (z : α) (l : List α) (w : World) (b off : Nat) (hc : ∀ j, j < l.length → ∀ i v, (enc (l.getD j z))[i]? = some v → w.cell? ⟨b, off + (j * k + i), none⟩ = some v) :
    ∀ j u, (l.flatMap enc)[j]? = some u → w.cell? ⟨b, off + j, none⟩ = some u := by
  intro j u hu
  have hr := reps_flat enc k hk l
  have hj : j < (l.flatMap enc).length := (List.getElem?_eq_some_iff.1 hu).1
  rw [hr.1] at hj
  have hjl : j / k < l.length := (Nat.div_lt_iff_lt_mul hk0).2 hj
  have h1 := hr.2 (j / k) _ (List.getElem?_eq_getElem hjl)
  have e : j / k * k + j % k = j := by rw [Nat.mul_comm]; exact Nat.div_add_mod j k
  have h2 := hc (j / k) hjl (j % k) u (by
    rw [List.getD, List.getElem?_eq_getElem hjl, Option.getD_some, ← h1, List.getElem?_take, if_pos (Nat.mod_lt _ hk0), List.getElem?_drop, e]
    exact hu)
  rwa [e] at h2
theorem flat_one {α : Type} (enc : α → List Value) (h : ∀ x, ∀ u ∈ enc x, u.oneCell' = true) (l : List α) : ∀ u ∈ l.flatMap enc, u.oneCell' = true := by
  intro u hu
  obtain ⟨x, _, hx⟩ := List.mem_flatMap.1 hu
  exact h x u hx
def enc85 (x : S85) : List Value := [.bool x.f0, .int .i64 x.f1]
def impl_Value.f (l0 : List (S85)) : Option ((List (S85))) := if 0 < l0.length ∧ l0.length * 16 ≤ 140737488355328 then some l0 else none
set_option maxHeartbeats 8000000 in
set_option maxRecDepth 100000 in
theorem impl_Value.calls (A0 : Option Addr) (c0 : Nat) (l0 : List (S85)) (r : List (S85)) (w : World) (hr0 : Kd.C k85 w A0 l0.length l0) (hc0 : l0.length ≤ c0) (h : impl_Value.f l0 = some r) :
    Calls Try.prog 74 #[.slice A0 l0.length c0] w fun e w' => ∃ v0_ : Value, e = .returned (v0_) ∧ Kd.R k85 85 w' w.heap.size (fun _ => True) v0_ r ∧ Below w.heap.size w w' := by
  unfold impl_Value.f at h
  by_cases hl : 0 < l0.length ∧ l0.length * 16 ≤ 140737488355328
  · rw [if_pos hl] at h
    obtain rfl := Option.some.inj h
    have hm : l0.length ≤ 9223372036854775807 := hr0.2.1
    obtain ⟨b, off, rfl, hc⟩ := h_struct_at z85 enc85 (fun h => k85_open h) hr0 hl.1 (by decide)
    have hi := info85
    obtain ⟨i0, e0, e1⟩ := Option.map_eq_some_iff.1 hi
    simp only [Prod.mk.injEq] at e1
    have hrep := reps_flat enc85 2 (fun _ => rfl) l0
    have hcon := AnyE.slices_Clone Try.laysClone74 i0 _ 2 16 e0 e1.1 e1.2.1 e1.2.2 rfl (by decide) Try.sizeOf85 b off l0.length c0 (l0.flatMap enc85) w hrep.1 (by unfold maxLen; omega) hl.2
      (flat_cells enc85 2 (by decide) (fun _ => rfl) z85 l0 w b off hc) (flat_one enc85 (fun x u hu => by simp only [enc85, List.mem_cons, List.not_mem_nil, or_false] at hu; rcases hu with rfl | rfl <;> rfl) l0)
    change Calls Try.prog 74 _ _ _ at hcon
    refine hcon.mono ?_
    rintro e w' ⟨v', rfl, ho, -, hb⟩
    exact ⟨v', rfl, ⟨fun _ _ => trivial, _, ho, hrep.imp_ (fun x c hx => by rw [hx]; exact k85_mkM _ _ _ x)⟩, hb⟩
  · rw [if_neg hl] at h
    cases h

/-! ### impl_Row_cloned: function 36 -/
def impl_Row_cloned.f (a0_0 : Int) (l0_1 : List (S85)) : Option (Int × (List (S85))) := (impl_Value.f l0_1).bind fun t197 => (some (a0_0, t197))
set_option maxHeartbeats 8000000 in
set_option maxRecDepth 100000 in
theorem impl_Row_cloned.calls (a0_0 : Int) (A0_1 : Option Addr) (c0_1 : Nat) (l0_1 : List (S85)) (r1 : Int) (r2 : List (S85)) (w : World) (hr0_1 : Kd.C k85 w A0_1 l0_1.length l0_1) (hc0_1 : l0_1.length ≤ c0_1) (h : impl_Row_cloned.f a0_0 l0_1 = some (r1, r2)) :
    Calls Try.prog 36 #[.agg #[.int .i64 a0_0, .slice A0_1 l0_1.length c0_1]] w fun e w' => ∃ v1_ : Value, e = .returned (.agg #[.int .i64 r1, v1_]) ∧ Kd.R k85 85 w' w.heap.size (fun _ => True) v1_ r2 ∧ Below w.heap.size w w' := by
  have hu26 := Try.underlying26
  have HR0_1 := Aside0.mk hr0_1
  have HC0_1 := Aside0.mk hc0_1
  clear hr0_1 hc0_1
  have HB := Aside0.mk (Below.refl w.heap.size w)
  have H : ((impl_Value.f l0_1).bind fun t197 => (some (a0_0, t197))) = some (r1, r2) := h
  clear h
  replace H := Option.bind_eq_some_iff.mp H
  obtain ⟨t197, A20, H⟩ := H
  replace H : (some (a0_0, t197)) = some (r1, r2) := H
  have A2 := Aside0.mk A20
  clear A20
  simp only [Option.some.injEq, Prod.mk.injEq] at H
  obtain ⟨rfl, rfl⟩ := H
  go_enter Try.func36, Try.ntmps36
  try go_wp2_with (first | ((with_reducible refine gate_dst (N := 1) rfl ?_); refine box_event ?hg (N := 1) ?hd (cs := #[.int .i64 a0_0, .slice A0_1 l0_1.length c0_1]) (t := 26) ?hr ?_; (case hd => rfl); (case hg => rfl); (case hr => first | (go_simp; done) | (go_simp; rfl)); intro gb195 hg w3 hbox hb; have n0_ := Aside0.mk (below_step (by repeat (first | (with_reducible first | exact HB.out | apply below_alloc | apply pw_below_drewN | apply below_drew1) | exact HB.out)) hb); have n1_ := Aside0.mk (hbox); have n2_ := Aside0.mk ((by rw [hg]; exact (below_size (by repeat (first | (with_reducible first | exact HB.out | apply below_alloc | apply pw_below_drewN | apply below_drew1) | exact HB.out))) : w.heap.size ≤ gb195)); have n3_ := Aside0.mk ((by rw [hg]; exact (below_size (by repeat (first | (with_reducible first | exact HB.out | apply below_alloc | apply pw_below_drewN | apply below_drew1) | exact HB.out))) : w.heap.size ≤ gb195)); clear HB; have HB := n0_; have BK195 := n1_; have GW195 := n2_; have GE195 := n3_; clear n0_ n1_ n2_ n3_; clear hb hbox hg) | ((with_reducible refine gate_dst (N := 2) rfl ?_); refine box_event ?hg (N := 2) ?hd (cs := #[.int .i64 0, .slice none 0 0]) (t := 26) ?hr ?_; (case hd => rfl); (case hg => rfl); (case hr => first | (go_simp; done) | (go_simp; rfl)); intro gb196 hg w4 hbox hb; have n0_ := Aside0.mk (blk_below (g := gb195) (o := .cells #[.int .i64 a0_0, .slice A0_1 l0_1.length c0_1] 26 (0, 0)) (by (with_reducible repeat (first | refine blk_drewN ?_ _ | refine blk_drew ?_ | refine blk_alloc ?_ _)); exact BK195.out) hb); have n1_ := Aside0.mk (below_step (by repeat (first | (with_reducible first | exact HB.out | apply below_alloc | apply pw_below_drewN | apply below_drew1 | refine below_set ?_ GE195.out) | exact HB.out)) hb); have n2_ := Aside0.mk (hbox); have n3_ := Aside0.mk ((by rw [hg]; exact (below_size (by repeat (first | (with_reducible first | exact HB.out | apply below_alloc | apply pw_below_drewN | apply below_drew1 | refine below_set ?_ GE195.out) | exact HB.out))) : w.heap.size ≤ gb196)); have n4_ := Aside0.mk ((by rw [hg]; exact (below_size (by repeat (first | (with_reducible first | exact HB.out | apply below_alloc | apply pw_below_drewN | apply below_drew1 | refine below_set ?_ GE195.out) | exact HB.out))) : w.heap.size ≤ gb196)); have n5_ := Aside0.mk ((by rw [hg]; exact Nat.ne_of_lt (blk_lt (g := gb195) (o := .cells #[.int .i64 a0_0, .slice A0_1 l0_1.length c0_1] 26 (0, 0)) (by (with_reducible repeat (first | refine blk_drewN ?_ _ | refine blk_drew ?_ | refine blk_alloc ?_ _)); exact BK195.out)) : gb195 ≠ gb196)); have n6_ := Aside0.mk ((by rw [hg]; exact Nat.ne_of_gt (blk_lt (g := gb195) (o := .cells #[.int .i64 a0_0, .slice A0_1 l0_1.length c0_1] 26 (0, 0)) (by (with_reducible repeat (first | refine blk_drewN ?_ _ | refine blk_drew ?_ | refine blk_alloc ?_ _)); exact BK195.out)) : gb196 ≠ gb195)); clear BK195; clear HB; have BK195 := n0_; have HB := n1_; have BK196 := n2_; have GW196 := n3_; have GE196 := n4_; have NB195_196 := n5_; have NB196_195 := n6_; clear n0_ n1_ n2_ n3_ n4_ n5_ n6_; clear hb hbox hg))
  have n0_ := Aside0.mk (blk_drew BK195.out)
  have n1_ := Aside0.mk (blk_drew BK196.out)
  have n2_ := Aside0.mk (below_drew1 HB.out)
  clear BK195
  clear BK196
  clear HB
  have BK195 := n0_
  have BK196 := n1_
  have HB := n2_
  clear n0_ n1_ n2_
  refine start_ (n := 7) (S := fun w' => w'.cell? ⟨gb195, 0, none⟩ = some (.int .i64 a0_0) ∧ w'.cell? ⟨gb195, 1, none⟩ = some (.slice A0_1 l0_1.length c0_1)) (ds := []) #[false, false, false, false, false, false, false] (by kernel_rfl) rfl rfl ⟨(blk_cell BK195.out 0).trans rfl, (blk_cell BK195.out 1).trans rfl⟩ (fun hHeld => ?_)
  generalize w4.drew = w5 at BK195 BK196 HB hHeld ⊢
  refine pure_ (i := 0) (N := some 3) (v := ?_) (a' := ?_) #[true, false, false, false, false, false, false] rfl rfl (by kernel_rfl) (fun _ _ _ h => h) (Or.inl ⟨by rfl, ?_⟩) ?_ ?_
  rotate_left
  · intro w'
    go_simp
    with_reducible rfl
  rotate_left
  · simp only [Act.put, List.setIfInBounds_toArray, List.set_cons_zero, List.set_cons_succ, i64_w, i32_w]
    rfl
  refine pure_ (i := 2) (N := some 5) (v := ?_) (a' := ?_) #[true, false, true, false, false, false, false] rfl rfl (by kernel_rfl) (fun _ _ _ h => h) (Or.inl ⟨by rfl, ?_⟩) ?_ ?_
  rotate_left
  · intro w'
    go_simp
    with_reducible rfl
  rotate_left
  · simp only [Act.put, List.setIfInBounds_toArray, List.set_cons_zero, List.set_cons_succ, i64_w, i32_w]
    rfl
  refine take_ (i := 1) (N := some 4) (v := ?_) (a' := ?_) #[true, true, true, false, false, false, false] rfl rfl (by kernel_rfl) (fun _ _ _ h => h) (Or.inl ⟨by rfl, ?_⟩) hHeld ?_ ?_
  rotate_left
  · rintro w' ⟨s0, s1⟩
    go_simp
    with_reducible rfl
  rotate_left
  · simp only [Act.put, List.setIfInBounds_toArray, List.set_cons_zero, List.set_cons_succ, i64_w, i32_w]
    rfl
  refine take_ (i := 3) (N := some 6) (v := ?_) (a' := ?_) #[true, true, true, true, false, false, false] rfl rfl (by kernel_rfl) (fun _ _ _ h => h) (Or.inl ⟨by rfl, ?_⟩) hHeld ?_ ?_
  rotate_left
  · rintro w' ⟨s0, s1⟩
    go_simp
    with_reducible rfl
  rotate_left
  · simp only [Act.put, List.setIfInBounds_toArray, List.set_cons_zero, List.set_cons_succ, i64_w, i32_w]
    rfl
  refine one_ (i := 4) (N := some 7) #[true, true, true, true, true, false, false] rfl rfl (by kernel_rfl) (by decide) (fun K hK => ?_)
  refine goes_ Try.func74 (by kernel_rfl) rfl #[.slice A0_1 l0_1.length c0_1] (by rfl) rfl rfl (by (try simp only [List.map_toArray, List.map_cons, List.map_nil]); first | done | rfl | (simp only [List.length_drop, List.length_take]; rfl)) ?_
  with_reducible refine (impl_Value.calls _ _ l0_1 t197 _ ?side1 ?side2 A2.out).mono ?_
  (case side1 => repeat (first | exact (Kd.C_below HR0_1.out HB.out) | exact HR0_1.out | (with_reducible refine Kd.C_alloc ?_ _) | (with_reducible refine Kd.C_drewN ?_ _) | (with_reducible refine Kd.C_drew ?_)))
  (case side2 => exact HC0_1.out)
  rintro e w6 ⟨v198, rfl, ho0, hb⟩
  refine ⟨_, rfl, ?_⟩
  have n0_ := Aside0.mk (Kd.R_lower ho0 (below_size (by repeat (first | (with_reducible first | exact HB.out | apply below_alloc | apply pw_below_drewN | apply below_drew1 | refine below_set ?_ GE195.out | refine below_set ?_ GE196.out) | exact HB.out))))
  have n1_ := Aside0.mk (blk_below (g := gb195) (o := .cells #[.int .i64 a0_0, .slice A0_1 l0_1.length c0_1] 26 (0, 0)) (by (with_reducible repeat (first | refine blk_drewN ?_ _ | refine blk_drew ?_ | refine blk_alloc ?_ _)); exact BK195.out) hb)
  have n2_ := Aside0.mk (blk_below (g := gb196) (o := .cells #[.int .i64 0, .slice none 0 0] 26 (0, 0)) (by (with_reducible repeat (first | refine blk_drewN ?_ _ | refine blk_drew ?_ | refine blk_alloc ?_ _)); exact BK196.out) hb)
  have n3_ := Aside0.mk (below_step (by repeat (first | (with_reducible first | exact HB.out | apply below_alloc | apply pw_below_drewN | apply below_drew1 | refine below_set ?_ GE195.out | refine below_set ?_ GE196.out) | exact HB.out)) hb)
  clear BK195
  clear BK196
  clear HB
  have HO199 := n0_
  have BK195 := n1_
  have BK196 := n2_
  have HB := n3_
  clear n0_ n1_ n2_ n3_
  (try clear hb)
  (try clear hb2)
  (try clear hk)
  (try clear hi)
  (try clear ho0)
  obtain ⟨Ao7, co7, eo7⟩ := Kd.R_slice HO199.out
  (first | subst eo7 | (injection eo7 with f1_ f2_ f3_; have f4_ := f1_.symm; have f5_ := f3_.symm; clear f1_ f2_ f3_; subst f4_; subst f5_))
  refine hK.out _ _ ⟨(blk_cell BK195.out 0).trans rfl, (blk_cell BK195.out 1).trans rfl⟩ (fun hHeld => ?_)
  clear hK K
  refine norm_ (a' := ?_) ?_ ?_
  rotate_left
  · show Act.put _ (some 7) _ = _
    simp only [Act.put, List.setIfInBounds_toArray, List.set_cons_zero, List.set_cons_succ, i64_w, i32_w]
    rfl
  refine pure_ (i := 5) (N := some 8) (v := ?_) (a' := ?_) #[true, true, true, true, true, true, false] rfl rfl (by kernel_rfl) (fun _ _ _ h => h) (Or.inl ⟨by rfl, ?_⟩) ?_ ?_
  rotate_left
  · intro w'
    go_simp
    with_reducible rfl
  rotate_left
  · simp only [Act.put, List.setIfInBounds_toArray, List.set_cons_zero, List.set_cons_succ, i64_w, i32_w]
    rfl
  refine one_ (i := 6) (N := none) #[true, true, true, true, true, true, true] rfl rfl (by kernel_rfl) (by decide) (fun K hK => ?_)
  have hs8 : w6.cell? ⟨gb196, 0, none⟩ = some (.int .i64 0) := (blk_cell BK196.out 0).trans rfl
  have hfs8 := blk_frozen BK196.out 0
  have hns8_0 := NB195_196.out
  have hms8_0 := NB196_195.out
  have hs9 : w6.cell? ⟨gb196, 1, none⟩ = some (.slice none 0 0) := (blk_cell BK196.out 1).trans rfl
  have hfs9 := blk_frozen BK196.out 1
  have hns9_0 := NB195_196.out
  have hms9_0 := NB196_195.out
  refine skip_ (w1 := ?_) (by rfl) rfl ?_ ?_
  rotate_left
  · go_simp
    rfl
  refine hK.out _ _ ⟨((cell_far (p := ⟨gb196, _, none⟩) NB195_196.out _).trans (((cell_far (p := ⟨gb196, _, none⟩) NB195_196.out _).trans (hHeld.1)))), ((cell_far (p := ⟨gb196, _, none⟩) NB195_196.out _).trans (((cell_far (p := ⟨gb196, _, none⟩) NB195_196.out _).trans (hHeld.2))))⟩ (fun hHeld => ?_)
  clear hK K
  refine done_ (by kernel_rfl) ?_
  try go_wp2
  refine bodyPost_ret (results_cell_row rfl _ _ gb196 26 #[.int .i64 a0_0, .slice Ao7 t197.length co7] (0, 0) _ rfl (by (with_reducible repeat (first | refine blk_drewN ?_ _ | refine blk_drew ?_ | refine blk_alloc ?_ _)); refine blk_put (cs := #[.int .i64 a0_0, .slice none 0 0]) ?_ 1 _ rfl; (with_reducible repeat (first | refine blk_drewN ?_ _ | refine blk_drew ?_ | refine blk_alloc ?_ _)); refine blk_put (cs := #[.int .i64 0, .slice none 0 0]) ?_ 0 _ rfl; (with_reducible repeat (first | refine blk_drewN ?_ _ | refine blk_drew ?_ | refine blk_alloc ?_ _)); exact BK196.out) Try.underlying26 rfl (by kernel_rfl)) rfl ?_
  exact ⟨_, by first | rfl | (simp [errW_none, errW_some] <;> rfl) | (simp [*, errW_none, errW_some] <;> rfl), by (with_reducible repeat (first | apply Kd.R_alloc | apply Kd.R_drewN | apply Kd.R_drew)); exact Kd.R_mono (Kd.R_far (p := ⟨gb196, 1, none⟩) (Kd.R_far (p := ⟨gb196, 0, none⟩) (Kd.R_types HO199.out BK196.out (by decide)) (fun _ hk => hk.2) (.int .i64 a0_0)) (fun _ hk => hk.2) (.slice Ao7 t197.length co7)) (fun _ hk => trivial), by repeat (first | (with_reducible first | exact HB.out | apply below_alloc | apply pw_below_drewN | apply below_drew1 | refine below_set ?_ GE195.out | refine below_set ?_ GE196.out) | exact HB.out)⟩

/-! ### impl_clonedRows: function 43 -/
def impl_clonedRows.l0 : Nat → List (S26) → List (S26) → Int → Int → Option ((List (S26)))
  | 0, _, _, _, _ => none
  | k + 1, x3, x7, x8, x9 => if x9 < x8 then (if 0 ≤ x9 then (if x9 < (x7.length : Int) then ((impl_Row_cloned.f ((rd_T26 x7 x9).f0) ((rd_T26 x7 x9).f1)).bind fun bt205 => (if x3.length < 4398046511104 then (impl_clonedRows.l0 k (x3 ++ [(⟨bt205.1, bt205.2⟩ : S26)]) x7 x8 (wrap64 (x9 + 1))) else (none))) else (none)) else (none)) else (some x3)
def impl_clonedRows.f (k : Nat) (l0 : List (S26)) : Option ((List (S26))) := impl_clonedRows.l0 k (([] : List (S26))) l0 (l0.length : Int) 0
theorem impl_clonedRows.mono_l : ∀ k, (∀ y0 y1 y2 y3, LeO (impl_clonedRows.l0 k y0 y1 y2 y3) (impl_clonedRows.l0 (k + 1) y0 y1 y2 y3))
  | 0 => fun _ _ _ _ r h => by simp [impl_clonedRows.l0] at h
  | k + 1 => by
    have ih0 := impl_clonedRows.mono_l k
    · intro y0 y1 y2 y3
      unfold impl_clonedRows.l0
      repeat' first
      | (with_reducible exact ih0 _ _ _ _)
      | (with_reducible exact LeO.refl _)
      | (with_reducible exact LeO.none _)
      | (with_reducible refine LeO.ite ?_ ?_)
      | (with_reducible refine LeO.bind ?_ (fun _ => ?_))
      | exact ih0 _ _ _ _
      | exact LeO.none _
      | refine LeO.ite ?_ ?_
      | refine LeO.bind ?_ (fun _ => ?_)
theorem impl_clonedRows.mono : ∀ a0 k, LeO (impl_clonedRows.f k a0) (impl_clonedRows.f (k + 1) a0) := by
  intro a0 k
  have ih0 := impl_clonedRows.mono_l k
  unfold impl_clonedRows.f
  repeat' first
      | (with_reducible exact ih0 _ _ _ _)
      | (with_reducible exact LeO.refl _)
      | (with_reducible exact LeO.none _)
      | (with_reducible refine LeO.ite ?_ ?_)
      | (with_reducible refine LeO.bind ?_ (fun _ => ?_))
      | exact ih0 _ _ _ _
      | exact LeO.none _
      | refine LeO.ite ?_ ?_
      | refine LeO.bind ?_ (fun _ => ?_)
set_option maxHeartbeats 8000000 in
set_option maxRecDepth 100000 in
theorem impl_clonedRows.calls (k : Nat) (A0 : Option Addr) (c0 : Nat) (l0 : List (S26)) (r : List (S26)) (w : World) (hr0 : Kd.C k26 w A0 l0.length l0) (hc0 : l0.length ≤ c0) (h : impl_clonedRows.f k l0 = some r) :
    Calls Try.prog 43 #[.slice A0 l0.length c0] w fun e w' => ∃ v0_ : Value, e = .returned (v0_) ∧ Kd.S k26 26 w' w.heap.size (fun _ => True) v0_ r ∧ Below w.heap.size w w' := by
  have hu26 := Try.underlying26
  have HR0 := Aside0.mk hr0
  have HC0 := Aside0.mk hc0
  clear hr0 hc0
  have HB := Aside0.mk (Below.refl w.heap.size w)
  have H : (impl_clonedRows.l0 k (([] : List (S26))) l0 (l0.length : Int) 0) = some r := h
  clear h
  obtain ⟨y200, hy200⟩ : ∃ y_ : List (S26), y_ = (([] : List (S26))) := ⟨_, rfl⟩
  replace H : (impl_clonedRows.l0 k y200 l0 (l0.length : Int) 0) = some r := by first | (rw [hy200]; with_reducible exact H) | (have H2_ := (Option.bind_some _ _).symm.trans H; rw [hy200]; with_reducible exact H2_) | (have H2_ := (Option.bind_some _ _).symm.trans H; with_reducible exact H2_) | with_reducible exact H | (rw [hy200]; exact H) | exact H
  have Ny200 := Aside0.mk hy200
  clear hy200
  have H' := Aside0.mk H
  clear H
  go_enter Try.func43, Try.ntmps43
  go_wp2_with (first | ((with_reducible refine gate_dst (N := 6) rfl ?_); refine Kd.S_lit k26 _ 26 ?hg (N := 6) ?hd (xs := ([] : List (S26))) (inner := []) (ok := fun _ => True) (okp := fun _ => True) ?hr ?hp (fun _ hk => hk) trivial (Below.refl _ _) (Nat.le_refl _) (by simp) ?_; (case hd => rfl); (case hg => rfl); (case hr => first | (go_simp; done) | (go_simp; rfl)); (case hp => exact (Reps.none _ _)); intro v201 w2 ho3 hb hg_ hnew_; clear hg_ hnew_; (first | rw [← Ny200.out] at ho3 | (simp only [Int.reduceToNat] at ho3; rw [← Ny200.out] at ho3)); have n0_ := Aside0.mk (Kd.S_lower ho3 (below_size (by repeat (first | (with_reducible first | exact HB.out | apply below_alloc | apply pw_below_drewN | apply below_drew1) | exact HB.out)))); have n1_ := Aside0.mk (below_step (by repeat (first | (with_reducible first | exact HB.out | apply below_alloc | apply pw_below_drewN | apply below_drew1) | exact HB.out)) hb); clear HB; have HO202 := n0_; have HB := n1_; clear n0_ n1_; clear hb ho3))
  go_loopg [3, 9] k (fun kq v3 v9 w' => ∃ (x3_1 : List (S26)) (x9_1 : Int), v9 = .int .i64 x9_1 ∧ Aside0 (impl_clonedRows.l0 kq x3_1 l0 (l0.length : Int) x9_1 = some r) ∧ Aside0 (kq ≤ k) ∧ Aside0 (Kd.S k26 26 w' w.heap.size (fun _ => True) v3 x3_1) ∧ Aside0 (Below w.heap.size w w'))
  case atStart => exact ⟨(y200), (0), (by first | rfl | (simp; done) | (simp [*]; done)), H', ⟨Nat.le_refl _⟩, ⟨by (with_reducible repeat (first | apply Kd.S_alloc | apply Kd.S_drewN | apply Kd.S_drew)); exact HO202.out⟩, ⟨by repeat (first | (with_reducible first | exact HB.out | apply below_alloc | apply pw_below_drewN | apply below_drew1) | exact HB.out)⟩⟩
  case round =>
    clear H'
    try clear p2
    obtain ⟨x3_1, x9_1, rfl, HA, HK1, HO_3, HB⟩ := hrel
    cases gk with
    | zero => exact absurd HA.out (by simp [impl_clonedRows.l0])
    | succ k1 =>
      have H := HA.out
      clear HA
      simp only [impl_clonedRows.l0] at H
      by_cases c4 : x9_1 < (l0.length : Int)
      · rw [if_pos c4] at H
        have c4b0 : decide (x9_1 < (l0.length : Int)) = true := decide_eq_true c4
        clear c4
        by_cases c5 : 0 ≤ x9_1
        · rw [if_pos c5] at H
          have c5b0 : decide (0 ≤ x9_1) = true := decide_eq_true c5
          clear c5
          by_cases c6 : x9_1 < (l0.length : Int)
          · rw [if_pos c6] at H
            have c6b0 : decide (x9_1 < (l0.length : Int)) = true := decide_eq_true c6
            clear c6
            replace H := Option.bind_eq_some_iff.mp H
            obtain ⟨⟨t205, t206⟩, A70, H⟩ := H
            replace H : (if x3_1.length < 4398046511104 then (impl_clonedRows.l0 k1 (x3_1 ++ [(⟨t205, t206⟩ : S26)]) l0 (l0.length : Int) (wrap64 (x9_1 + 1))) else (none)) = some r := H
            have A7 := Aside0.mk A70
            clear A70
            by_cases c8 : x3_1.length < 4398046511104
            · rw [if_pos c8] at H
              have LMc8 := Aside0.mk c8
              clear c8
              obtain ⟨y209, hy209⟩ : ∃ y_ : List (S26), y_ = (x3_1 ++ [(⟨t205, t206⟩ : S26)]) := ⟨_, rfl⟩
              replace H : (impl_clonedRows.l0 k1 y209 l0 (l0.length : Int) (wrap64 (x9_1 + 1))) = some r := by first | (rw [hy209]; with_reducible exact H) | (have H2_ := (Option.bind_some _ _).symm.trans H; rw [hy209]; with_reducible exact H2_) | (have H2_ := (Option.bind_some _ _).symm.trans H; with_reducible exact H2_) | with_reducible exact H | (rw [hy209]; exact H) | exact H
              have Ny209 := Aside0.mk hy209
              clear hy209
              have H' := Aside0.mk H
              clear H
              have p203 : 0 ≤ (x9_1 : Int) := of_decide_eq_true (by first | (with_reducible assumption) | assumption)
              have q203 : x9_1 < (l0.length : Int) := of_decide_eq_true (by first | (with_reducible assumption) | assumption)
              obtain ⟨ad203, A203_1, c203_1, e203, hx203_0, hx203_1, hl203_1, hi203_1⟩ := at_T26 HR0.out x9_1 p203 q203
              cases e203
              try replace hx203_0 := (HB.out.cell (World.block_lt_of_cell? w _ hx203_0)).trans hx203_0
              try replace hx203_1 := (HB.out.cell (World.block_lt_of_cell? w _ hx203_1)).trans hx203_1
              have HR203_1 := Aside0.mk hi203_1
              have HC203_1 := Aside0.mk hl203_1
              clear hi203_1 hl203_1
              replace p203 := eq_true p203
              replace q203 := eq_true q203
              go_wp2_with (first | ((with_reducible refine gate_dst (N := 5) rfl ?_); refine box_event ?hg (N := 5) ?hd (cs := #[.int .i64 0, .slice none 0 0]) (t := 26) ?hr ?_; (case hd => rfl); (case hg => rfl); (case hr => first | (go_simp; done) | (go_simp; rfl)); intro gb204 hg w9 hbox hb; have n0_ := Aside0.mk (Kd.S_below (Kd.S_elderB (by (with_reducible repeat (first | apply Kd.S_alloc | apply Kd.S_drewN | apply Kd.S_drew)); exact HO_3.out) gb204 (Nat.le_of_eq hg.symm)) hb); have n1_ := Aside0.mk (below_step (by repeat (first | (with_reducible first | exact HB.out | apply below_alloc | apply pw_below_drewN | apply below_drew1) | exact HB.out)) hb); have n2_ := Aside0.mk (hbox); have n3_ := Aside0.mk ((by rw [hg]; exact (below_size (by repeat (first | (with_reducible first | exact HB.out | apply below_alloc | apply pw_below_drewN | apply below_drew1) | exact HB.out))) : w.heap.size ≤ gb204)); have n4_ := Aside0.mk ((by rw [hg]; exact (below_size (by repeat (first | (with_reducible first | exact HB.out | apply below_alloc | apply pw_below_drewN | apply below_drew1) | exact HB.out))) : w.heap.size ≤ gb204)); clear HO_3; clear HB; have HO_3 := n0_; have HB := n1_; have BK204 := n2_; have GW204 := n3_; have GE204 := n4_; clear n0_ n1_ n2_ n3_ n4_; clear hb hbox hg; have hcz10_0 : w9.cell? ⟨gb204, 0, none⟩ = some (.int .i64 0) := (blk_cell BK204.out 0).trans rfl; have hcz10_1 : w9.cell? ⟨gb204, 1, none⟩ = some (.slice none 0 0) := (blk_cell BK204.out 1).trans rfl; have hfz10_0 := blk_frozen BK204.out 0; have hfz10_1 := blk_frozen BK204.out 1) | ((with_reducible refine gate_callee (f := 36) rfl ?_); refine goesL_ (some 15) rfl rfl Try.func36 (by kernel_rfl) rfl #[.agg #[.int .i64 ((rd_T26 l0 x9_1).f0), .slice A203_1 ((rd_T26 l0 x9_1).f1).length c203_1]] rfl (by (try simp only [List.map_toArray, List.map_cons, List.map_nil]); first | done | rfl | (simp only [List.length_drop, List.length_take]; rfl)) ?_; (with_reducible refine (impl_Row_cloned.calls ((rd_T26 l0 x9_1).f0) _ _ ((rd_T26 l0 x9_1).f1) t205 t206 _ ?side1 ?side2 A7.out).mono ?_); (case side1 => exact Kd.C_below HR203_1.out (by repeat (first | (with_reducible first | exact HB.out | apply below_alloc | apply pw_below_drewN | apply below_drew1 | refine below_set ?_ GE204.out) | exact HB.out))); (case side2 => exact HC203_1.out); rintro e w11 ⟨v207, rfl, ho0, hb⟩; refine ⟨_, rfl, ?_⟩; have n0_ := Aside0.mk (Kd.S_elder' (by (with_reducible repeat (first | apply Kd.S_alloc | apply Kd.S_drewN | apply Kd.S_drew)); exact (Kd.S_mono (Kd.S_far (p := ⟨gb204, 1, none⟩) (Kd.S_far (p := ⟨gb204, 0, none⟩) (Kd.S_mono HO_3.out (fun k_ hk => (⟨hk, hk.2⟩ : _ ∧ k_ ≠ gb204))) (fun _ hk => hk.2) (.int .i64 ((rd_T26 l0 x9_1).f0))) (fun _ hk => hk.2) (.slice A203_1 ((rd_T26 l0 x9_1).f1).length c203_1)) (fun _ h_ => h_.1))) (Kd.R_base ho0) hb); have n1_ := Aside0.mk (Kd.R_lower ho0 (below_size (by repeat (first | (with_reducible first | exact HB.out | apply below_alloc | apply pw_below_drewN | apply below_drew1 | refine below_set ?_ GE204.out) | exact HB.out)))); have n2_ := Aside0.mk (blk_below (g := gb204) (o := .cells #[.int .i64 ((rd_T26 l0 x9_1).f0), .slice A203_1 ((rd_T26 l0 x9_1).f1).length c203_1] 26 (0, 0)) (by (with_reducible repeat (first | refine blk_drewN ?_ _ | refine blk_drew ?_ | refine blk_alloc ?_ _)); refine blk_put (cs := #[.int .i64 ((rd_T26 l0 x9_1).f0), .slice none 0 0]) ?_ 1 _ rfl; (with_reducible repeat (first | refine blk_drewN ?_ _ | refine blk_drew ?_ | refine blk_alloc ?_ _)); refine blk_put (cs := #[.int .i64 0, .slice none 0 0]) ?_ 0 _ rfl; (with_reducible repeat (first | refine blk_drewN ?_ _ | refine blk_drew ?_ | refine blk_alloc ?_ _)); exact BK204.out) hb); have n3_ := Aside0.mk (below_step (by repeat (first | (with_reducible first | exact HB.out | apply below_alloc | apply pw_below_drewN | apply below_drew1 | refine below_set ?_ GE204.out) | exact HB.out)) hb); clear HO_3; clear BK204; clear HB; have HO_3 := n0_; have HO208 := n1_; have BK204 := n2_; have HB := n3_; clear n0_ n1_ n2_ n3_; (try clear hb); (try clear hb2); (try clear hk); (try clear hi); (try clear ho0); obtain ⟨Ao13, co13, eo13⟩ := Kd.R_slice HO208.out; subst eo13) | ((with_reducible refine gate_builtin (b := .append) (xs := #[.tmp 13, .tmp 16]) rfl ?_); at_builtin; refine Kd.S_append k26 (w0 := w) w.heap.size rfl (.tmp 13) (.tmp 16) 29 26 (.agg #[(.int .i64 0), (.slice none 0 0)]) 32 rfl Try.underlying29 info26 rfl (by decide) (by omega) u3 x3_1 (⟨t205, t206⟩ : S26) [.int .i64 t205, .slice Ao13 t206.length co13] (fun k_ => k_ ≠ gb204) (fun k_ => some k_ = (.slice Ao13 t206.length co13 : Value).ownBlock) rfl rfl ?aP (fun k_ hk_ => ((Kd.R_mono (ok' := fun k_ => ((fun k_ => k_ ≠ gb204)) k_ ∧ some k_ ≠ (u3 : Value).ownBlock) (Kd.R_types (Kd.R_apart' (HO208.out) (Kd.S_typed HO_3.out) (by decide)) BK204.out (by decide)) (fun k_ hk => ⟨hk.2, hk.1.2⟩))).1 k_ hk_.symm) ?aF ?aO ?aB ?aS ?aL ?_; (case aP => exact k26_mkM _ _ _ (⟨t205, t206⟩ : S26) (Kd.R_mono (Kd.R_tight rfl (Kd.R_mono (ok' := fun k_ => ((fun k_ => k_ ≠ gb204)) k_ ∧ some k_ ≠ (u3 : Value).ownBlock) (Kd.R_types (Kd.R_apart' (HO208.out) (Kd.S_typed HO_3.out) (by decide)) BK204.out (by decide)) (fun k_ hk => ⟨hk.2, hk.1.2⟩))) (fun _ h_ => h_))); (case aB => exact (by repeat (first | (with_reducible first | exact HB.out | apply below_alloc | apply pw_below_drewN | apply below_drew1 | refine below_set ?_ GE204.out) | exact HB.out))); (case aF => exact (fun k_ hk => Kd.freshB (g := gb204) (o := .cells #[.int .i64 ((rd_T26 l0 x9_1).f0), .slice A203_1 ((rd_T26 l0 x9_1).f1).length c203_1] 26 (0, 0)) (by (with_reducible repeat (first | refine blk_drewN ?_ _ | refine blk_drew ?_ | refine blk_alloc ?_ _)); exact BK204.out) k_ hk)); (case aO => exact (by (with_reducible repeat (first | apply Kd.S_alloc | apply Kd.S_drewN | apply Kd.S_drew)); exact Kd.S_mono HO_3.out (fun k_ hk => ⟨hk.1.2, fun e_ => hk.2 e_⟩))); (case aS => exact (below_size (by repeat (first | (with_reducible first | exact HB.out | apply below_alloc | apply pw_below_drewN | apply below_drew1 | refine below_set ?_ GE204.out) | exact HB.out)))); (case aL => have := LMc8.out; omega); intro v210 w12 ho hb hg hat; rw [← Ny209.out] at ho; have n0_ := Aside0.mk (blk_grown (g := gb204) (o := .cells #[.int .i64 ((rd_T26 l0 x9_1).f0), .slice A203_1 ((rd_T26 l0 x9_1).f1).length c203_1] 26 (0, 0)) (by (with_reducible repeat (first | refine blk_drewN ?_ _ | refine blk_drew ?_ | refine blk_alloc ?_ _)); exact BK204.out) hg (Kd.S_away HO_3.out (fun _ hk => hk.1.2))); have n1_ := Aside0.mk (hb); have n2_ := Aside0.mk (ho); clear BK204; clear HB; clear HO_3; clear HO208; have BK204 := n0_; have HB := n1_; have HO211 := n2_; clear n0_ n1_ n2_; clear ho hb hg hat))
              go_roundg k1
              case measure => have := HK1.out; omega
              case rel => exact ⟨(y209), (wrap64 (x9_1 + 1)), (by first | rfl | (simp; done) | (simp [*]; done)), H', ⟨by have := HK1.out; omega⟩, ⟨by (with_reducible repeat (first | apply Kd.S_alloc | apply Kd.S_drewN | apply Kd.S_drew)); exact Kd.S_mono HO211.out (fun _ hk => trivial)⟩, ⟨by repeat (first | (with_reducible first | exact HB.out | apply below_alloc | apply pw_below_drewN | apply below_drew1 | refine below_set ?_ GE204.out) | exact HB.out)⟩⟩
            · rw [if_neg c8] at H
              exact absurd H (by simp)
          · rw [if_neg c6] at H
            exact absurd H (by simp)
        · rw [if_neg c5] at H
          exact absurd H (by simp)
      · rw [if_neg c4] at H
        have c4b0 : decide (x9_1 < (l0.length : Int)) = false := decide_eq_false c4
        clear c4
        obtain rfl := Option.some.inj H
        go_wp2
        go_ret
        exact ⟨_, by first | rfl | (simp [errW_none, errW_some] <;> rfl) | (simp [*, errW_none, errW_some] <;> rfl), by (with_reducible repeat (first | apply Kd.S_alloc | apply Kd.S_drewN | apply Kd.S_drew)); exact HO_3.out, by repeat (first | (with_reducible first | exact HB.out | apply below_alloc | apply pw_below_drewN | apply below_drew1) | exact HB.out)⟩

/-! ### impl_RangeOf_1: function 44, by hand -/
set_option maxHeartbeats 1000000 in
theorem h_range1 (B1 B2 : Nat) (fr to_ : Int) (xs : List S26) (w : World) (S : Nat → Prop) (hB1 : ¬ S B1) (hB2 : ¬ S B2) (hcell1 : w.cell? ⟨B1, 0, none⟩ = some (.int .i64 fr)) (hcell2 : w.cell? ⟨B2, 0, none⟩ = some (.int .i64 to_)) :
    PredRow 44 #[.pointer (some ⟨B1, 0, none⟩), .pointer (some ⟨B2, 0, none⟩)] xs (fun x => decide (x.f0 < fr) || decide (to_ < x.f0)) w S := by
  intro W x A c hk hx
  have hc1 : (W.alloc (.cells #[.int .i64 x.f0, .slice A x.f1.length c] 26)).cell? ⟨B1, 0, none⟩ = some (.int .i64 fr) := pw_cell_below (below_alloc (Below.refl W.heap.size W) _) (cell_kept hcell1 hk hB1)
  have hc2 : (W.alloc (.cells #[.int .i64 x.f0, .slice A x.f1.length c] 26)).cell? ⟨B2, 0, none⟩ = some (.int .i64 to_) := pw_cell_below (below_alloc (Below.refl W.heap.size W) _) (cell_kept hcell2 hk hB2)
  have hc0 : (W.alloc (.cells #[.int .i64 x.f0, .slice A x.f1.length c] 26)).cell? ⟨W.heap.size, 0, none⟩ = some (.int .i64 x.f0) := by simp
  clear hcell1 hcell2 hk hB1 hB2 hx
  show Calls Try.prog 44 #[.agg #[.int .i64 x.f0, .slice A x.f1.length c], .pointer (some ⟨B1, 0, none⟩), .pointer (some ⟨B2, 0, none⟩)] W fun e w' => e = .returned (.bool (decide (x.f0 < fr) || decide (to_ < x.f0))) ∧ Below W.heap.size W w'
  by_cases h1 : x.f0 < fr
  · have e1 : decide (x.f0 < fr) = true := decide_eq_true h1
    rw [e1, Bool.true_or]
    go_enter Try.func44, Try.ntmps44
    go_wp2
    go_ret
    exact ⟨rfl, below_alloc (Below.refl _ _) _⟩
  · have e1 : decide (x.f0 < fr) = false := decide_eq_false h1
    rw [e1, Bool.false_or]
    go_enter Try.func44, Try.ntmps44
    go_wp2
    go_ret
    exact ⟨rfl, below_alloc (Below.refl _ _) _⟩

/-! ### impl_RangeOf: function 17, by hand -/
def impl_RangeOf.f (k : Nat) (l0 : List (S26)) (a1 : Int) (a2 : Int) : Option ((List (S26)) × Bool) := (impl_GoodTable.f k l0).bind fun g => if g = true then (impl_clonedRows.f k l0).bind fun l => if l.length ≤ 1000000 then some (l.filter (fun x => !(decide (x.f0 < a1) || decide (a2 < x.f0))), true) else none else some ([], false)
theorem impl_RangeOf.mono : ∀ a0 a1 a2 k, LeO (impl_RangeOf.f k a0 a1 a2) (impl_RangeOf.f (k + 1) a0 a1 a2) := by
  intro a0 a1 a2 k
  unfold impl_RangeOf.f
  repeat' first
      | (with_reducible exact impl_GoodTable.mono _ _)
      | (with_reducible exact impl_clonedRows.mono _ _)
      | (with_reducible exact LeO.refl _)
      | (with_reducible exact LeO.none _)
      | (with_reducible refine LeO.ite ?_ ?_)
      | (with_reducible refine LeO.bind ?_ (fun _ => ?_))
      | exact impl_GoodTable.mono _ _
      | exact impl_clonedRows.mono _ _
      | exact LeO.none _
      | refine LeO.ite ?_ ?_
      | refine LeO.bind ?_ (fun _ => ?_)
set_option maxHeartbeats 8000000 in
set_option maxRecDepth 100000 in
theorem impl_RangeOf.calls (k : Nat) (A0 : Option Addr) (c0 : Nat) (l0 : List (S26)) (a1 : Int) (a2 : Int) (r1 : List (S26)) (r2 : Bool) (w : World) (hr0 : Kd.C k26 w A0 l0.length l0) (hc0 : l0.length ≤ c0) (h : impl_RangeOf.f k l0 a1 a2 = some (r1, r2)) :
    Calls Try.prog 17 #[.slice A0 l0.length c0, .int .i64 a1, .int .i64 a2] w fun e w' => ∃ v0_ : Value, e = .returned (.tuple #[v0_, .bool r2]) ∧ Kd.S k26 26 w' w.heap.size (fun _ => True) v0_ r1 ∧ Below w.heap.size w w' := by
  unfold impl_RangeOf.f at h
  obtain ⟨g, hg, h⟩ := Option.bind_eq_some_iff.1 h
  have eg : ∀ args w, (callFunc 44 args).run Try.prog w = .ok (.enter 44 args) w := enters_ Try.func44 (by kernel_rfl) rfl
  have hb0 : Below w.heap.size w ((w.alloc (.cells #[.int .i64 a1] 3)).alloc (.cells #[.int .i64 a2] 3)) := below_alloc (below_alloc (Below.refl _ _) _) _
  have HG := Lib.hid (impl_GoodTable.calls k A0 c0 l0 g ((w.alloc (.cells #[.int .i64 a1] 3)).alloc (.cells #[.int .i64 a2] 3)) (Kd.C_below hr0 hb0) hc0 hg)
  cases g with
  | false =>
    rw [if_neg (by decide)] at h
    cases h
    clear hr0 hg eg
    go_enter Try.func17, Try.ntmps17
    go_wp2_with (go_at_call 33; refine HG.out.mono ?_; rintro e w' ⟨rfl, hb⟩)
    go_ret2
    exact ⟨_, rfl, Kd.S_nil _ _ _ _ _, below_step hb0 hb⟩
  | true =>
    rw [if_pos rfl] at h
    obtain ⟨l, hl, h⟩ := Option.bind_eq_some_iff.1 h
    by_cases hlen : l.length ≤ 1000000
    · rw [if_pos hlen] at h
      cases h
      have HC := Lib.hid (show ∀ W, Below w.heap.size w W → Calls Try.prog 43 #[.slice A0 l0.length c0] W _ from fun W hb => impl_clonedRows.calls k A0 c0 l0 l W (Kd.C_below hr0 hb) hc0 hl)
      have HD := Lib.hid (show ∀ (v : Value) (W W1 : World), Below (w.heap.size + 2) ((w.alloc (.cells #[.int .i64 a1] 3)).alloc (.cells #[.int .i64 a2] 3)) W → Below W.heap.size W W1 → Kd.S k26 26 W1 W.heap.size (fun _ => True) v l → Calls Try.prog 42 #[v, .func (.func 44) #[] #[.pointer (some ⟨w.heap.size, 0, none⟩), .pointer (some ⟨w.heap.size + 1, 0, none⟩)]] W1 fun e w' => ∃ v0_ : Value, e = .returned v0_ ∧ Kd.S k26 26 w' w.heap.size (fun _ => True) v0_ (l.filter fun x => !(decide (x.f0 < a1) || decide (a2 < x.f0))) ∧ Below w.heap.size w w' from fun v W W1 hb hb1 hS => by
        have hsz : ((w.alloc (.cells #[.int .i64 a1] 3)).alloc (.cells #[.int .i64 a2] 3)).heap.size = w.heap.size + 2 := by simp
        have hb' : Below ((w.alloc (.cells #[.int .i64 a1] 3)).alloc (.cells #[.int .i64 a2] 3)).heap.size ((w.alloc (.cells #[.int .i64 a1] 3)).alloc (.cells #[.int .i64 a2] 3)) W := by rw [hsz]; exact hb
        have hWs : w.heap.size + 2 ≤ W.heap.size := by have := hb'.size; rw [hsz] at this; exact this
        have hB : Below w.heap.size w W1 := below_step (below_step hb0 hb') hb1
        have hP := h_range1 w.heap.size (w.heap.size + 1) a1 a2 l W1 (fun k => W.heap.size ≤ k) (fun hk => by have : W.heap.size ≤ w.heap.size := hk; omega) (fun hk => by have : W.heap.size ≤ w.heap.size + 1 := hk; omega)
          (pw_cell_below hb1 (pw_cell_below hb' (a := ⟨w.heap.size, 0, none⟩) (v := .int .i64 a1) (by simp))) (pw_cell_below hb1 (pw_cell_below hb' (a := ⟨w.heap.size + 1, 0, none⟩) (v := .int .i64 a2) (by simp)))
        refine (DeleteFunc_row 44 _ eg (fun k => W.heap.size ≤ k) v l _ w W1 hB (Kd.S_lower (Kd.S_mono (Kd.S_bound hS) (fun k hk => hk.2.1)) (by omega)) hP hlen).mono ?_
        rintro e w' ⟨v0, rfl, hR', hB', _⟩
        exact ⟨v0, rfl, Kd.S_mono hR' (fun _ _ => trivial), hB'⟩)
      clear hr0 hg hl eg hlen
      generalize (l.filter fun x => !(decide (x.f0 < a1) || decide (a2 < x.f0))) = q at HD ⊢
      have HB0 := Aside0.mk hb0
      clear hb0
      go_enter Try.func17, Try.ntmps17
      go_wp2_with (first | (go_at_call 33; refine HG.out.mono ?_; rintro e w1 ⟨rfl, hb⟩; have HB1 := Aside0.mk hb; clear hb) | (go_at_call 43; refine (HC.out _ (below_step HB0.out HB1.out)).mono ?_; rintro e w2 ⟨v, rfl, hR, hb⟩; have HR := Aside0.mk hR; have HB2 := Aside0.mk hb; clear hR hb) | (go_at_call 42; refine (HD.out _ _ _ (by simpa using HB1.out) HB2.out HR.out).mono ?_; rintro e w' ⟨v0, rfl, hR, hb⟩))
      go_ret2
      exact ⟨_, rfl, hR, hb⟩
    · rw [if_neg hlen] at h
      cases h

end Go.Proofs.Ytcihgepinnajjaa.PFnExactRangeOf
