-- Written for this claim by the session's own program (drive.py), over the kit's print, with contracts typed by hand.
import Derived.Test.YtcihgepinnajjaaPFnExactWithoutOfx0
import Derived.Test.YtcihgepinnajjaaPFnExactWithoutOfx2
import Derived.Test.YtcihgepinnajjaaPFnExactWithoutOfx5
import Derived.Test.YtcihgepinnajjaaPFnExactWithoutOfx6
namespace Go.Proofs.Ytcihgepinnajjaa.PFnExactWithoutOf
open Go.RowKit Go.Proofs.YtcihgepinnajjaaW.PrintWords Go.Proofs.YtcihgepinnajjaaW.PrintLast Go.Proofs.YtcihgepinnajjaaW.PrintMore
attribute [local go_sem] max2_int min2_int max_two min_two max_three min_three max_four min_four   -- for this text's walks alone
set_option linter.unusedVariables false
set_option linter.unusedSimpArgs false

/-! ### slices_CompactFunc_int_int: function 84, by hand -/
/-- What slices.CompactFunc leaves: of elements that follow one another and are equal, the first. -/
def keepR (prev : List Int) : List Tup → List Tup
 | [] => []
 | p :: r => if p.2.1 = prev then keepR p.2.1 r else p :: keepR p.2.1 r
def compT : List Tup → List Tup
 | [] => []
 | p :: r => p :: keepR p.2.1 r
def zT : Tup := (undef, [], 0)
theorem keepR_take : ∀ (r : List Tup) (prev : List Int) (j : Nat), j < r.length → keepR prev (r.take (j + 1)) = keepR prev (r.take j) ++ (if (r.getD j zT).2.1 = (if j = 0 then prev else (r.getD (j - 1) zT).2.1) then [] else [r.getD j zT])
 | [], _, _, h => by simp at h
 | p :: r, prev, 0, _ => by
  simp [keepR]
 | p :: r, prev, j + 1, h => by
  have ih := keepR_take r p.2.1 j (by simpa using h)
  rw [List.take_succ_cons, List.take_succ_cons, keepR, keepR]
  have e : (if j + 1 = 0 then prev else ((p :: r).getD (j + 1 - 1) zT).2.1) = (if j = 0 then p.2.1 else (r.getD (j - 1) zT).2.1) := by
   rw [if_neg (by omega)]
   cases j with
   | zero => rfl
   | succ j => rfl
  rw [e, show (p :: r).getD (j + 1) zT = r.getD j zT from rfl, ih]
  split <;> simp
theorem compT_take (ps : List Tup) (j : Nat) (h0 : 0 < j) (h : j < ps.length) : compT (ps.take (j + 1)) = compT (ps.take j) ++ (if (ps.getD j zT).2.1 = (ps.getD (j - 1) zT).2.1 then [] else [ps.getD j zT]) := by
 cases ps with
 | nil => simp at h
 | cons p r =>
  obtain ⟨i, rfl⟩ : ∃ i, j = i + 1 := ⟨j - 1, by omega⟩
  rw [List.take_succ_cons, List.take_succ_cons, compT, compT, keepR_take r p.2.1 i (by simpa using h)]
  have e : (if i = 0 then p.2.1 else (r.getD (i - 1) zT).2.1) = ((p :: r).getD (i + 1 - 1) zT).2.1 := by
   cases i with
   | zero => rfl
   | succ i => rfl
  rw [e, show (p :: r).getD (i + 1) zT = r.getD i zT from rfl]
  simp
theorem keepR_sub : ∀ (r : List Tup) (prev : List Int), (keepR prev r).Sublist r
 | [], _ => List.Sublist.refl _
 | p :: r, prev => by
  rw [keepR]
  split
  ·exact (keepR_sub r _).cons _
  ·exact (keepR_sub r _).cons_cons _
theorem compT_sub : ∀ ps : List Tup, (compT ps).Sublist ps
 | [] => List.Sublist.refl _
 | p :: r => by
  rw [compT]
  exact (keepR_sub r _).cons_cons _
theorem compT_small {ps : List Tup} (h : ps.length < 2) : compT ps = ps := by
 match ps, h with
 | [], _ => rfl
 | [p], _ => rfl
theorem h_getT (ps : List Tup) (j : Nat) (h : j < ps.length) : (ps.map (·.1)).getD j undef = (ps.getD j zT).1 ∧ ps.getD j zT ∈ ps := by
 constructor
 ·simp [List.getD, List.getElem?_eq_getElem h]
 ·exact mem_getD ps zT j h
/-- What the row holds after some rounds. -/
structure CompG (ps : List Tup) (i j : Nat) (cur : List Tup) : Prop where
 lo : 1 ≤ i
 lt : i < j
 le : j ≤ ps.length
 len : cur.length = ps.length
 low : cur.take i = compT (ps.take j)
 high : cur.drop (j - 1) = ps.drop (j - 1)
section
variable {ps cur : List Tup} {i j : Nat}
theorem CompG.start {k : Nat} (hk : 1 ≤ k) (hkn : k < ps.length) (hc : compT (ps.take k) = ps.take k) (he : (ps.getD k zT).2.1 = (ps.getD (k - 1) zT).2.1) : CompG ps k (k + 1) ps := by
 refine ⟨hk, by omega, by omega, rfl, ?_, rfl⟩
 rw [compT_take ps k (by omega) hkn, if_pos he, List.append_nil, hc]
theorem CompG.at_ (h : CompG ps i j cur) (q : Nat) (hq : j - 1 ≤ q) : cur.getD q zT = ps.getD q zT := by
 have h1 := congrArg (fun l : List Tup => l[q - (j - 1)]?) h.high
 simp only [List.getElem?_drop] at h1
 rw [show j - 1 + (q - (j - 1)) = q by omega] at h1
 simp only [List.getD]
 rw [h1]
theorem CompG.keep (h : CompG ps i j cur) (hj : j < ps.length) (hne : (ps.getD j zT).2.1 ≠ (ps.getD (j - 1) zT).2.1) : CompG ps (i + 1) (j + 1) (cur.set i (ps.getD j zT)) := by
 have h0 := h.lo
 have hi := h.lt
 have hlen := h.len
 refine ⟨by omega, by omega, by omega, by simpa using h.len, ?_, ?_⟩
 ·rw [compT_take ps j (by omega) hj, if_neg hne, List.take_succ_eq_append_getElem (by rw [List.length_set]; omega), List.take_set_of_le (Nat.le_refl i), h.low]
  simp
 ·rw [List.drop_set_of_lt (by omega)]
  have := congrArg (List.drop 1) h.high
  rw [List.drop_drop, List.drop_drop, show j - 1 + 1 = j + 1 - 1 by omega] at this
  exact this
theorem CompG.skip (h : CompG ps i j cur) (hj : j < ps.length) (he : (ps.getD j zT).2.1 = (ps.getD (j - 1) zT).2.1) : CompG ps i (j + 1) cur := by
 have h0 := h.lo
 have hi := h.lt
 refine ⟨h0, by omega, by omega, h.len, ?_, ?_⟩
 ·rw [h.low, compT_take ps j (by omega) hj, if_pos he, List.append_nil]
 ·have := congrArg (List.drop 1) h.high
  rw [List.drop_drop, List.drop_drop, show j - 1 + 1 = j + 1 - 1 by omega] at this
  exact this
end
theorem own_set {w : World} {base e g n c : Nat} {vals : List Value} (h : w.ownsRow base e 1 (.slice (some ⟨g, 0, none⟩) n c) n vals) (i : Nat) (hi : i < n) (u : Value) : (w.setCell ⟨g, i, none⟩ u).ownsRow base e 1 (.slice (some ⟨g, 0, none⟩) n c) n (vals.set i u) := by
 rcases h.2 with ⟨hv, _⟩ | ⟨g', cap', cur, hv, hb, hh, hlc, hcm, hcs, htk⟩
 ·cases hv
 injection hv with ha _ hc
 injection ha with ha
 injection ha with hg
 subst hg hc
 refine ⟨by rw [List.length_set]; exact h.1, .inr ⟨g, c, _, rfl, hb, blk_set hh i u, hlc, hcm, by simpa using hcs, ?_⟩⟩
 rw [Array.toList_setIfInBounds, List.take_set, htk]
/-- The first elements of a row, whatever is stored behind them. -/
theorem own_cut {w : World} {base e g n c : Nat} {vals : List Value} (h : w.ownsRow base e 1 (.slice (some ⟨g, 0, none⟩) n c) n vals) (i : Nat) (hi : i ≤ n) (vs : List Value) (hv : i + vs.length ≤ n) : (w.setCells g i vs).ownsRow base e 1 (.slice (some ⟨g, 0, none⟩) i c) i (vals.take i) := by
 have hl := h.1
 rcases h.2 with ⟨hv, _⟩ | ⟨g', cap', cur, hv, hb, hh, hlc, hcm, hcs, htk⟩
 ·cases hv
 injection hv with ha _ hc
 injection ha with ha
 injection ha with hg
 subst hg hc
 obtain ⟨cur', h1, h2⟩ := h_sets_blk vs i w cur hh (by omega)
 refine ⟨by rw [List.length_take]; omega, .inr ⟨g, c, cur', rfl, hb, h1, by omega, hcm, ?_, ?_⟩⟩
 ·have := congrArg List.length h2
  simp at this
  omega
 ·rw [h2, ← htk, List.take_take]
  have hcl : cur.toList.length = c := by simp [hcs]
  rw [List.append_assoc, List.take_append_of_le_length (by rw [List.length_take]; omega), List.take_take]
  congr 1
  omega
set_option maxHeartbeats 4000000 in
set_option maxRecDepth 100000 in
/-- slices.CompactFunc of a row of slices, by slices.Equal. -/
theorem CompactFunc_vals (v : Value) (ps : List Tup) (w0 w : World) (hB : Below w0.heap.size w0 w) (ho : w.ownsRow w0.heap.size 39 1 v ps.length (ps.map (·.1))) (hp : ∀ p ∈ ps, Reads1 (fun q => some q = v.ownBlock) w p.1 p.2.1) (hl : ps.length ≤ 1000000) (hs : ∀ p ∈ ps, p.2.1.length ≤ 1000000) :
  Calls Try.prog 84 #[v, .func (.func 66) #[] #[]] w fun e w' => ∃ v0, e = .returned v0 ∧ w'.ownsRow w0.heap.size 39 1 v0 (compT ps).length ((compT ps).map (·.1)) ∧ (v0 = v ∨ v0.ownBlock = v.ownBlock) ∧ Below w0.heap.size w0 w' ∧ Kept w w' (fun q => some q = v.ownBlock) := by
 by_cases h2 : ps.length < 2
 ·have ec := compT_small h2
  rw [ec]
  obtain ⟨A, c, rfl⟩ := own_val ho
  have h2z : (ps.length : Int) < 2 := by omega
  have HO := Aside0.mk ho
  have HB := Aside0.mk hB
  clear ho hB hp hs
  go_enter Try.func84, Try.ntmps84
  go_wp2
  go_ret
  exact ⟨_, rfl, HO.out, .inl rfl, HB.out, Kept.refl _ _⟩
 ·obtain ⟨g, c, rfl, hg, hgl, hnc⟩ := own_form ho (by omega)
  have eg : ∀ args w, (callFunc 66 args).run Try.prog w = .ok (.enter 66 args) w := enters_ Try.func66 (by kernel_rfl) rfl
  have HE := Lib.hid (show ∀ (p q : Tup) (W : World), p ∈ ps → q ∈ ps → Kept w W (fun k => some k = (Value.slice (some ⟨g, 0, none⟩) ps.length c).ownBlock) → Calls Try.prog 66 #[p.1, q.1] W fun e w' => e = .returned (.bool (decide (p.2.1 = q.2.1))) ∧ Drawn0 W w' from fun p q W hpm hqm hk => by
   obtain ⟨A1, k1, e1, hk1, hC1⟩ := hp p hpm
   obtain ⟨A2, k2, e2, hk2, hC2⟩ := hp q hqm
   obtain ⟨K, hK⟩ := seq_tells p.2.1 q.2.1 (by have := hs p hpm; omega)
   rw [e1, e2]
   exact slices_Equal_int_int.calls K A1 k1 p.2.1 A2 k2 q.2.1 _ W (hC1 W hk) hk1 (hC2 W hk) hk2 (hK K (Nat.le_refl _)))
  have HV := Aside0.mk (show ∀ p ∈ ps, ∃ A n, p.1 = .slice A p.2.1.length n from fun p hpm => (hp p hpm).imp fun _ h => h.imp fun _ h => h.1)
  have h2z : ¬ (ps.length : Int) < 2 := by omega
  have HO0 := Aside0.mk ho
  have HB0 := Aside0.mk hB
  have HG0 := Aside0.mk hg
  have HS := Aside0.mk (show (some g = (Value.slice (some ⟨g, 0, none⟩) ps.length c).ownBlock) ∨ w.heap.size ≤ g from .inl rfl)
  have HNC := Aside0.mk hnc
  clear ho hB hp hs hg
  go_enter Try.func84, Try.ntmps84
  go_wp2
  go_loopg [5] ps.length (fun gg s5 wr => ∃ k : Nat, s5 = .int .i64 k ∧ 1 ≤ k ∧ k ≤ ps.length ∧ ps.length - k ≤ gg ∧ Aside0 (compT (ps.take k) = ps.take k) ∧ Aside0 (Below w.heap.size w wr))
  case atStart => exact ⟨1, rfl, Nat.le_refl _, by omega, by omega, ⟨compT_small (by simp; omega)⟩, ⟨Below.refl _ _⟩⟩
  case round =>
   obtain ⟨k, rfl, hk1, hkn, hgg, HC, HD⟩ := hrel
   by_cases hlt : k < ps.length
   ·have hltz : (k : Int) < (ps.length : Int) := by omega
    have HOr := Aside0.mk (own_below HO0.out HD.out)
    obtain ⟨kp, hkp⟩ : ∃ kp, kp + 1 = k := ⟨k - 1, by omega⟩
    have hwk : IntKind.i64.wrap ((k : Int) - 1) = (kp : Int) := by rw [← hkp]; simp [IntKind.wrap, IntKind.bits, IntKind.signed]; omega
    have hkp0 : (0 : Int) ≤ (kp : Int) := by omega
    have hkp1 : (kp : Int) < (ps.length : Int) := by omega
    have hk0z : (0 : Int) ≤ (k : Int) := by omega
    obtain ⟨hx1, hf1⟩ := own_cell HOr.out k hlt
    obtain ⟨hx0, hf0⟩ := own_cell HOr.out kp (by omega)
    obtain ⟨e1, m1⟩ := h_getT ps k hlt
    obtain ⟨e0, m0⟩ := h_getT ps kp (by omega)
    rw [e1] at hx1
    rw [e0] at hx0
    have hcall := fun (W : World) (hb : Below w.heap.size w W) => HE.out _ _ W m1 m0 (Kept.of_below hb _)
    obtain ⟨y1, hy1⟩ : ∃ y, y = ps.getD k zT := ⟨_, rfl⟩
    obtain ⟨y0, hy0⟩ : ∃ y, y = ps.getD kp zT := ⟨_, rfl⟩
    rw [← hy1, ← hy0] at hcall
    rw [← hy1] at hx1
    rw [← hy0] at hx0
    have HY1 := Aside0.mk hy1
    have HY0 := Aside0.mk hy0
    clear e1 m1 e0 m0 hf1 hf0 hy1 hy0
    cases hq : decide (y1.2.1 = y0.2.1) with
    | false =>
     rw [hq] at hcall
     have HQ := Aside0.mk (of_decide_eq_false hq)
     clear hq
     go_wp2
     go_region_held3 (fun w' => Below w.heap.size w w' ∧ w'.cell? ⟨g, k, none⟩ = some y1.1 ∧ w'.cell? ⟨g, kp, none⟩ = some y0.1) (first | assumption | exact ⟨below_drew HD.out, hx1, hx0⟩)
      (first | (go_at_fn 66; have hS := ‹Below w.heap.size w _ ∧ _ ∧ _›; refine (hcall _ hS.1).mono ?_; rintro e w2 ⟨rfl, hd⟩; have hb := hd.below; have hS2 := And.intro (below_step hS.1 hb) (And.intro (pw_cell_below hb hS.2.1) (pw_cell_below hb hS.2.2)); clear hS hb hd))
     have hS := ‹Below w.heap.size w _ ∧ _ ∧ _›
     go_wp2
     go_roundg (ps.length - (k + 1))
     case measure => omega
     case rel => exact ⟨k + 1, by go_num, by omega, by omega, by omega, ⟨by rw [compT_take ps k (by omega) hlt, if_neg (by rw [show k - 1 = kp by omega, ← HY1.out, ← HY0.out]; exact HQ.out), HC.out, List.take_succ_eq_append_getElem hlt]; simp [List.getD, List.getElem?_eq_getElem hlt]⟩, ⟨hS.1⟩⟩
    | true =>
     rw [hq] at hcall
     have HQ := Aside0.mk (of_decide_eq_true hq)
     have hkc : k ≤ c := by have := HNC.out; omega
     have hkz : (k : Int) ≤ (ps.length : Int) := by omega
     clear hq
     go_wp2
     go_region_held3 (fun w' => Below w.heap.size w w' ∧ w'.cell? ⟨g, k, none⟩ = some y1.1 ∧ w'.cell? ⟨g, kp, none⟩ = some y0.1) (first | assumption | exact ⟨below_drew HD.out, hx1, hx0⟩)
      (first | (go_at_fn 66; have hS := ‹Below w.heap.size w _ ∧ _ ∧ _›; refine (hcall _ hS.1).mono ?_; rintro e w2 ⟨rfl, hd⟩; have hb := hd.below; have hS2 := And.intro (below_step hS.1 hb) (And.intro (pw_cell_below hb hS.2.1) (pw_cell_below hb hS.2.2)); clear hS hb hd))
     have hS := ‹Below w.heap.size w _ ∧ _ ∧ _›
     go_wp2
     go_loopg [5, 7] ps.length (fun gg s5 s7 wr => ∃ (i q j : Nat) (cur : List Tup), s5 = .int .i64 i ∧ s7 = .int .i64 q ∧ k + q = j ∧ 1 ≤ q ∧ ps.length - j ≤ gg ∧ Aside0 (CompG ps i j cur) ∧ Aside0 (wr.ownsRow w0.heap.size 39 1 (.slice (some ⟨g, 0, none⟩) ps.length c) ps.length (cur.map (·.1))) ∧ Aside0 (Below w0.heap.size w0 wr) ∧ Aside0 (Kept w wr (fun b => some b = (Value.slice (some ⟨g, 0, none⟩) ps.length c).ownBlock)))
     case atStart => exact ⟨k, 1, k + 1, ps, rfl, rfl, rfl, Nat.le_refl _, by omega, ⟨CompG.start hk1 hlt HC.out (by rw [show k - 1 = kp by omega, ← HY1.out, ← HY0.out]; exact HQ.out)⟩, ⟨own_below HO0.out hS.1⟩, ⟨below_step HB0.out hS.1⟩, ⟨Kept.of_below hS.1 _⟩⟩
     case round =>
      clear hS HD HOr hx1 hx0 hcall HY1 HY0 HQ HC hwk
      obtain ⟨i, q, j, cur, rfl, rfl, hj, hq1, hgg2, HI, HO, HB, HK⟩ := hrel
      have hi1 := HI.out.lo
      have hij := HI.out.lt
      have hjn := HI.out.le
      have hcl := HI.out.len
      by_cases hlt2 : j < ps.length
      ·have hltz2 : (q : Int) < ((ps.length - k : Nat) : Int) := by omega
       obtain ⟨qp, hqp⟩ : ∃ qp, qp + 1 = q := ⟨q - 1, by omega⟩
       have hwq : IntKind.i64.wrap ((q : Int) - 1) = (qp : Int) := by rw [← hqp]; simp [IntKind.wrap, IntKind.bits, IntKind.signed]; omega
       have hqp0 : (0 : Int) ≤ (qp : Int) := by omega
       have hqp1 : (qp : Int) < ((ps.length - k : Nat) : Int) := by omega
       have hq0z : (0 : Int) ≤ (q : Int) := by omega
       have hi0z : (0 : Int) ≤ (i : Int) := by omega
       have hinz : (i : Int) < (ps.length : Int) := by omega
       obtain ⟨hx1, _⟩ := own_cell HO.out j hlt2
       obtain ⟨hx0, _⟩ := own_cell HO.out (j - 1) (by omega)
       obtain ⟨hxi, hfi⟩ := own_cell HO.out i (by omega)
       have e1 := (h_getT cur j (by omega)).1
       have e0 := (h_getT cur (j - 1) (by omega)).1
       rw [HI.out.at_ j (by omega)] at e1
       rw [HI.out.at_ (j - 1) (by omega)] at e0
       rw [e1] at hx1
       rw [e0] at hx0
       have hcall := fun (W : World) (hb : Kept w W (fun b => some b = (Value.slice (some ⟨g, 0, none⟩) ps.length c).ownBlock)) => HE.out _ _ W (h_getT ps j hlt2).2 (h_getT ps (j - 1) (by omega)).2 hb
       obtain ⟨y1, hy1⟩ : ∃ y, y = ps.getD j zT := ⟨_, rfl⟩
       obtain ⟨y0, hy0⟩ : ∃ y, y = ps.getD (j - 1) zT := ⟨_, rfl⟩
       obtain ⟨vi, hvi⟩ : ∃ vi, vi = (cur.map (·.1)).getD i undef := ⟨_, rfl⟩
       rw [← hy1, ← hy0] at hcall
       rw [← hy1, show j = k + q by omega] at hx1
       rw [← hy0, show j - 1 = k + qp by omega] at hx0
       rw [← hvi] at hxi
       have HY1 := Aside0.mk hy1
       have HY0 := Aside0.mk hy0
       clear e1 e0 hy1 hy0 hvi
       have HJ := Aside0.mk hj
       clear hj hqp
       cases hq : decide (y1.2.1 = y0.2.1) with
       | true =>
        rw [hq] at hcall
        have HQ := Aside0.mk (of_decide_eq_true hq)
        clear hq
        go_wp2
        go_region_held3 (fun w' => Below wr.heap.size wr w' ∧ w'.cell? ⟨g, k + q, none⟩ = some y1.1 ∧ w'.cell? ⟨g, k + qp, none⟩ = some y0.1) (first | assumption | exact ⟨below_drew (Below.refl _ _), hx1, hx0⟩)
         (first | (go_at_fn 66; have hS := ‹Below wr.heap.size wr _ ∧ _ ∧ _›; refine (hcall _ (Kept.below HK.out hS.1)).mono ?_; rintro e w2 ⟨rfl, hd⟩; have hb := hd.below; have hS2 := And.intro (below_step hS.1 hb) (And.intro (pw_cell_below hb hS.2.1) (pw_cell_below hb hS.2.2)); clear hS hb hd))
        have hS := ‹Below wr.heap.size wr _ ∧ _ ∧ _›
        go_wp2
        have hj := HJ.out
        go_roundg (ps.length - (j + 1))
        case measure => omega
        case rel => exact ⟨i, q + 1, j + 1, cur, rfl, by go_num, by omega, by omega, by omega, ⟨HI.out.skip hlt2 (by rw [← HY1.out, ← HY0.out]; exact HQ.out)⟩, ⟨own_below HO.out hS.1⟩, ⟨below_step HB.out hS.1⟩, ⟨Kept.below HK.out hS.1⟩⟩
       | false =>
        rw [hq] at hcall
        have HQ := Aside0.mk (of_decide_eq_false hq)
        clear hq
        obtain ⟨A1, n1, hv1⟩ := HV.out y1 (by rw [HY1.out]; exact (h_getT ps j hlt2).2)
        rw [hv1] at hx1 hcall
        go_wp2
        go_region_held3 (fun w' => Below wr.heap.size wr w' ∧ w'.cell? ⟨g, k + q, none⟩ = some (.slice A1 y1.2.1.length n1) ∧ w'.cell? ⟨g, k + qp, none⟩ = some y0.1) (first | assumption | exact ⟨below_drew (Below.refl _ _), hx1, hx0⟩)
         (first | (go_at_fn 66; have hS := ‹Below wr.heap.size wr _ ∧ _ ∧ _›; refine (hcall _ (Kept.below HK.out hS.1)).mono ?_; rintro e w2 ⟨rfl, hd⟩; have hb := hd.below; have hS2 := And.intro (below_step hS.1 hb) (And.intro (pw_cell_below hb hS.2.1) (pw_cell_below hb hS.2.2)); clear hS hb hd))
        have hS := ‹Below wr.heap.size wr _ ∧ _ ∧ _›
        have hO3 := Aside0.mk (own_below HO.out hS.1)
        have hz1 := hS.2.1
        have hzi := (own_cell hO3.out i (by omega)).1
        have hzf := (own_cell hO3.out i (by omega)).2
        go_wp2
        have hj := HJ.out
        go_roundg (ps.length - (j + 1))
        case measure => omega
        case rel =>
         refine ⟨i + 1, q + 1, j + 1, cur.set i (ps.getD j zT), by go_num, by go_num, by omega, by omega, by omega, ⟨HI.out.keep hlt2 (by rw [← HY1.out, ← HY0.out]; exact HQ.out)⟩, ⟨?_⟩, ⟨below_set (below_step HB.out hS.1) HG0.out⟩, ⟨(Kept.below HK.out hS.1).setCell (p := ⟨g, i, none⟩) HS.out _⟩⟩
         rw [List.map_set, ← HY1.out]
         rw [hv1]
         exact own_set hO3.out i (by omega) _
      ·obtain rfl : j = ps.length := by omega
       have hltz2 : ¬ (q : Int) < ((ps.length - k : Nat) : Int) := by omega
       have hlow := HI.out.low
       rw [List.take_of_length_le (l := ps) (Nat.le_refl _)] at hlow
       have hil : i < ps.length := hij
       have hic : i ≤ c := by have := HNC.out; omega
       have hicz : (i : Int) ≤ (ps.length : Int) := by omega
       have hcl2 : ∀ ty, (Builtin.clear_ #[40] ty #[.slice (some ⟨g, i, none⟩) (ps.length - i) (c - i)]).run Try.prog wr = .ok (.tuple #[]) (wr.setCells g i (List.replicate (ps.length - i) (.slice none 0 0))) :=
        fun ty => Lib.run_clear_slice wr _ _ ty _ Try.underlying40 Try.zeroValue39 rfl rfl g i _ _ (by omega) (fun t ht => by
         rw [(own_cell HO.out (i + t) (by omega)).1]
         rfl) (fun t ht => (own_cell HO.out (i + t) (by omega)).2)
       have HLOW := Aside0.mk hlow
       clear hlow
       go_wp2
       go_ret
       have hT := own_cut HO.out i (by omega) (List.replicate (ps.length - i) (.slice none 0 0)) (by simp; omega)
       rw [← List.map_take, HLOW.out] at hT
       have hlen3 : (compT ps).length = i := by rw [← HLOW.out, List.length_take]; omega
       rw [hlen3]
       exact ⟨_, rfl, hT, .inr rfl, h_below_sets HB.out HG0.out _ _, h_kept_sets HK.out HS.out _ _⟩
   ·obtain rfl : k = ps.length := by omega
    have hltz : ¬ (ps.length : Int) < (ps.length : Int) := by omega
    have hc := HC.out
    rw [List.take_of_length_le (l := ps) (Nat.le_refl _)] at hc
    have HCC := Aside0.mk hc
    clear hc HC
    go_wp2
    go_ret
    rw [HCC.out]
    exact ⟨_, rfl, own_below HO0.out HD.out, .inl rfl, below_step HB0.out HD.out, Kept.of_below HD.out _⟩

end Go.Proofs.Ytcihgepinnajjaa.PFnExactWithoutOf
