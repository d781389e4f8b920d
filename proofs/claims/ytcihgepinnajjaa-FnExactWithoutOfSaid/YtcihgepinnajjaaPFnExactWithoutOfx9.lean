-- Written for this claim by the session's own program (drive.py), over the kit's print, with contracts typed by hand.
import Derived.Test.YtcihgepinnajjaaPFnExactWithoutOfx0
import Derived.Test.YtcihgepinnajjaaPFnExactWithoutOfx2
import Derived.Test.YtcihgepinnajjaaPFnExactWithoutOfx5
import Derived.Test.YtcihgepinnajjaaPFnExactWithoutOfx6
import Derived.Test.YtcihgepinnajjaaPFnExactWithoutOfx7
import Derived.Test.YtcihgepinnajjaaPFnExactWithoutOfx8
namespace Go.Proofs.Ytcihgepinnajjaa.PFnExactWithoutOf
open Go.RowKit Go.Proofs.YtcihgepinnajjaaW.PrintWords Go.Proofs.YtcihgepinnajjaaW.PrintLast Go.Proofs.YtcihgepinnajjaaW.PrintMore
attribute [local go_sem] max2_int min2_int max_two min_two max_three min_three max_four min_four   -- for this text's walks alone
set_option linter.unusedVariables false
set_option linter.unusedSimpArgs false

/-! ### slices_DeleteFunc_int_int: function 61, by hand -/
theorem h_three (w : World) (a b c : Obj) : (((w.alloc a).alloc b).alloc c).heap[w.heap.size]? = some a ∧ (((w.alloc a).alloc b).alloc c).heap[w.heap.size + 1]? = some b ∧ (((w.alloc a).alloc b).alloc c).heap[w.heap.size + 1 + 1]? = some c ∧ (((w.alloc a).alloc b).alloc c).heap.size = w.heap.size + 3 := by
 have s1 : (w.alloc a).heap.size = w.heap.size + 1 := by simp
 have s2 : ((w.alloc a).alloc b).heap.size = w.heap.size + 1 + 1 := by simp
 refine ⟨?_, ?_, ?_, by simp⟩
 ·rw [heap_alloc_old _ _ (by omega), heap_alloc_old _ _ (by omega)]
  exact heap_alloc_new w a
 ·rw [heap_alloc_old _ _ (by omega), ← s1]
  exact heap_alloc_new _ b
 ·rw [← s2]
  exact heap_alloc_new _ c
/-- What lies in memory while two relations are taken: the boxes of both, and the result's cells. -/
structure TwoS (w wr : World) (a0 a1 b0 b1 : Value) : Prop where
 below : Below w.heap.size w wr
 ba : wr.heap[w.heap.size]? = some (.cells #[a0, a1] 44 (0, 0))
 bb : wr.heap[w.heap.size + 1]? = some (.cells #[b0, b1] 44 (0, 0))
 bc : wr.heap[w.heap.size + 1 + 1]? = some (.cells #[.slice none 0 0, .slice none 0 0] 44 (0, 0))
section
variable {w wr w1 : World} {a0 a1 b0 b1 : Value}
theorem TwoS.start (w : World) (a0 a1 b0 b1 : Value) : TwoS w (((w.alloc (.cells #[a0, a1] 44)).alloc (.cells #[b0, b1] 44)).alloc (.cells #[.slice none 0 0, .slice none 0 0] 44)) a0 a1 b0 b1 := by
 obtain ⟨h1, h2, h3, _⟩ := h_three w (.cells #[a0, a1] 44) (.cells #[b0, b1] 44) (.cells #[.slice none 0 0, .slice none 0 0] 44)
 exact ⟨below_alloc (below_alloc (below_alloc (Below.refl _ _) _) _) _, h1, h2, h3⟩
theorem TwoS.step (h : TwoS w wr a0 a1 b0 b1) (hb : Below wr.heap.size wr w1) : TwoS w w1 a0 a1 b0 b1 :=
 ⟨below_step h.below hb, (hb.block _ (blk_lt h.ba)).trans h.ba, (hb.block _ (blk_lt h.bb)).trans h.bb, (hb.block _ (blk_lt h.bc)).trans h.bc⟩
theorem TwoS.xa0 (h : TwoS w wr a0 a1 b0 b1) : wr.cell? ⟨w.heap.size, 0, none⟩ = some a0 := (blk_cell h.ba 0).trans rfl
theorem TwoS.xa1 (h : TwoS w wr a0 a1 b0 b1) : wr.cell? ⟨w.heap.size, 1, none⟩ = some a1 := (blk_cell h.ba 1).trans rfl
theorem TwoS.xb0 (h : TwoS w wr a0 a1 b0 b1) : wr.cell? ⟨w.heap.size + 1, 0, none⟩ = some b0 := (blk_cell h.bb 0).trans rfl
theorem TwoS.xb1 (h : TwoS w wr a0 a1 b0 b1) : wr.cell? ⟨w.heap.size + 1, 1, none⟩ = some b1 := (blk_cell h.bb 1).trans rfl
theorem TwoS.c0 (h : TwoS w wr a0 a1 b0 b1) : wr.cell? ⟨w.heap.size + 1 + 1, 0, none⟩ = some (.slice none 0 0) := (blk_cell h.bc 0).trans rfl
theorem TwoS.c1 (h : TwoS w wr a0 a1 b0 b1) : wr.cell? ⟨w.heap.size + 1 + 1, 1, none⟩ = some (.slice none 0 0) := (blk_cell h.bc 1).trans rfl
theorem TwoS.fr (h : TwoS w wr a0 a1 b0 b1) (j : Nat) : wr.frozen? ⟨w.heap.size + 1 + 1, j, none⟩ = false := by simp [World.frozen?, h.bc]
theorem TwoS.lt (h : TwoS w wr a0 a1 b0 b1) : w.heap.size + 1 + 1 < wr.heap.size := blk_lt h.bc
/-- The result of related, laid into the result's cells. -/
theorem TwoS.done {w3 : World} {v0 v1 u0 u1 : Value} {n : List Int} {l : List (List Int)} (h : TwoS w w3 a0 a1 b0 b1) (hb : Below w3.heap.size w3 w1) (hn : (Kd.int .i64).R 3 w1 w3.heap.size (fun _ => True) v0 n) (hl : Kd.S (Kd.slice 3 (Kd.int .i64)) 39 w1 w3.heap.size (fun k_ => some k_ ≠ (v0 : Value).ownBlock) v1 l) :
  (Kd.int .i64).R 3 ((w1.setCell ⟨w.heap.size + 1 + 1, 0, none⟩ u0).setCell ⟨w.heap.size + 1 + 1, 1, none⟩ u1) w.heap.size (fun _ => True) v0 n ∧ Kd.S (Kd.slice 3 (Kd.int .i64)) 39 ((w1.setCell ⟨w.heap.size + 1 + 1, 0, none⟩ u0).setCell ⟨w.heap.size + 1 + 1, 1, none⟩ u1) w.heap.size (fun k_ => some k_ ≠ (v0 : Value).ownBlock) v1 l ∧ Below w.heap.size w ((w1.setCell ⟨w.heap.size + 1 + 1, 0, none⟩ u0).setCell ⟨w.heap.size + 1 + 1, 1, none⟩ u1) := by
 have hlt := h.lt
 have hle := h.below.size
 refine ⟨?_, ?_, below_set (below_set (below_step h.below hb) (by omega)) (by omega)⟩
 ·refine Kd.R_lower (Kd.R_mono (Kd.R_far (p := ⟨w.heap.size + 1 + 1, 1, none⟩) (Kd.R_far (p := ⟨w.heap.size + 1 + 1, 0, none⟩) (Kd.R_bound hn) (fun k hk e => ?_) _) (fun k hk e => ?_) _) (fun _ _ => trivial)) hle
  ·have h1 := hk.2.1
   have h2 : k = w.heap.size + 1 + 1 := e
   omega
  ·have h1 := hk.2.1
   have h2 : k = w.heap.size + 1 + 1 := e
   omega
 ·refine Kd.S_lower (Kd.S_mono (Kd.S_far (p := ⟨w.heap.size + 1 + 1, 1, none⟩) (Kd.S_far (p := ⟨w.heap.size + 1 + 1, 0, none⟩) (Kd.S_bound hl) (fun k hk e => ?_) _) (fun k hk e => ?_) _) (fun _ hk => hk.1)) hle
  ·have h1 := hk.2.1
   have h2 : k = w.heap.size + 1 + 1 := e
   omega
  ·have h1 := hk.2.1
   have h2 : k = w.heap.size + 1 + 1 := e
   omega
end
/-- A predicate over slices that answers whatever is done to the blocks in S. -/
def PredR (g : Nat) (lb : Array Value) (xs : List (List Int)) (p : List Int → Bool) (w : World) (S : Nat → Prop) : Prop :=
 ∀ (W : World) (x : List Int) (A : Option Addr) (c : Nat), Kept w W S → x ∈ xs → x.length ≤ c → (Kd.int .i64).C W A x.length x → Calls Try.prog g (#[.slice A x.length c] ++ lb) W fun e w' => e = .returned (.bool (p x)) ∧ Below W.heap.size W w'
theorem PredR.one {g : Nat} {lb : Array Value} {xs : List (List Int)} {p : List Int → Bool} {w : World} {S : Nat → Prop} (h : PredR g lb xs p w S) : Pred1 (Kd.slice 3 (Kd.int .i64)) g lb xs p w := by
 intro W x v hb hx hK
 obtain ⟨A1, c1, e1, hl1, hC1⟩ := hK
 obtain rfl : v = .slice A1 x.length c1 := by simpa using e1
 exact h W x A1 c1 (Kept.of_below hb _) hx hl1 hC1
/-- append of a row of slices that is read to a row of slices of the call's own. -/
theorem append_vals (w : World) (A : Option Addr) (n c : Nat) (ps qs : List Tup) (v : Value) (W : World) (hps : ps.length = n) (hn : n ≤ 1100000) (hqs : qs.length ≤ 2000000) (hr : ∀ p ∈ ps, ReadsI w p.1 p.2.1) (hv : 0 < n → ∃ ad, A = some ad ∧ ∀ j u, (ps.map (·.1))[j]? = some u → w.cell? (ad.add j) = some u) (hb : Below w.heap.size w W) (ho : W.ownsRow w.heap.size 39 1 v qs.length (qs.map (·.1))) :
  ∃ v' W', (Builtin.append_ #[40, 40] 40 #[v, .slice A n c]).run Try.prog W = .ok v' W' ∧ W'.ownsRow w.heap.size 39 1 v' (qs ++ ps).length ((qs ++ ps).map (·.1)) ∧ Below w.heap.size w W' := by
 obtain ⟨i0, hi, hzz⟩ := Option.map_eq_some_iff.1 (show (Try.prog.info? 39).map (fun i => (i.zero, i.size, i.bytes)) = some (some (.slice none 0 0), 1, 24) by kernel_rfl)
 simp only [Prod.mk.injEq] at hzz
 obtain ⟨hz0, hz1, hz2⟩ := hzz
 rcases Nat.eq_zero_or_pos n with h0 | h0
 ·have hnil : ps = [] := List.eq_nil_of_length_eq_zero (by omega)
  exact ⟨v, W, h_append_none W _ _ _ i0 Try.underlying40 hi _ _ v _ _ A n c h0 ho, by rw [hnil, List.append_nil]; exact ho, hb⟩
 ·obtain ⟨ad, rfl, hcell⟩ := hv h0
  have hmax : (3200000 : Nat) ≤ maxLen := by unfold maxLen; omega
  obtain ⟨v', W', h1, h2, h3, _⟩ := run_append_own W w.heap.size 40 40 39 i0 (.slice none 0 0) 1 24 Try.underlying40 hi hz0 hz1 hz2 rfl (by omega) v qs.length (qs.map (·.1)) ho ad n c (ps.map (·.1)) (by rw [List.length_map, Nat.mul_one]; exact hps) (fun j u hu => pw_cell_below hb (hcell j u hu)) (fun u hu => by
   obtain ⟨p, hp, rfl⟩ := List.mem_map.1 hu
   exact (hr p hp).cell) (by omega) (by omega) hb.size
  refine ⟨v', W', h1, by rw [List.length_append, List.map_append, hps]; exact h2, ?_⟩
  exact pw_below_grown hb _ hb.size h3 (fun k hk => (ho.lt k hk).1)
theorem own_empty (w : World) (base : Nat) (hb : base ≤ w.heap.size) : (w.alloc (.cells #[] 39)).ownsRow base 39 1 (.slice (some ⟨w.heap.size, 0, none⟩) 0 0) 0 [] :=
 ⟨rfl, .inr ⟨w.heap.size, 0, #[], rfl, hb, heap_alloc_new _ _, Nat.le_refl _, Nat.zero_le _, rfl, rfl⟩⟩
set_option maxHeartbeats 4000000 in
set_option maxRecDepth 100000 in
/-- slices.DeleteFunc of a row of slices of the call's own. -/
theorem DeleteFunc_vals (g : Nat) (lb : Array Value) (eg : ∀ args w, (callFunc g args).run Try.prog w = .ok (.enter g args) w) (v : Value) (ps : List Tup) (p : List Int → Bool) (w0 w : World) (hB : Below w0.heap.size w0 w) (ho : w.ownsRow w0.heap.size 39 1 v ps.length (ps.map (·.1)))
  (hq : ∀ t ∈ ps, Reads1 (fun q => some q = v.ownBlock) w t.1 t.2.1) (hp : PredR g lb (ps.map (·.2.1)) p w (fun q => some q = v.ownBlock)) (hl : ps.length ≤ 1000000) :
  Calls Try.prog 61 #[v, .func (.func g) #[] lb] w fun e w' => ∃ v0, e = .returned v0 ∧ w'.ownsRow w0.heap.size 39 1 v0 (ps.filter fun t => !p t.2.1).length ((ps.filter fun t => !p t.2.1).map (·.1)) ∧ Below w0.heap.size w0 w' := by
 have hme : ∀ t ∈ ps, t.2.1 ∈ ps.map (·.2.1) := fun t ht => List.mem_map_of_mem ht
 have hIF : Calls Try.prog 86 #[v, .func (.func g) #[] lb] w fun e w' => e = .returned (.int .i64 (idxF (fun t : Tup => p t.2.1) ps)) ∧ Below w.heap.size w w' := by
  obtain ⟨A, c, e, hlc, hC⟩ := vals_C ho (fun t ht => (hq t ht).now)
  have h := IndexFunc_rows g lb eg A c (ps.map (·.2.1)) p w hp.one hC
  have e2 : idxF p (ps.map (·.2.1)) = idxF (fun t : Tup => p t.2.1) ps := by
   unfold idxF
   rw [List.findIdx?_map]
   rfl
  rw [e2, ← e] at h
  exact h
 have HIF := Lib.hid hIF
 have HV := Aside0.mk (show ∀ t ∈ ps, ∃ A n, t.1 = .slice A t.2.1.length n from fun t ht => (hq t ht).imp fun _ h => h.imp fun _ h => h.1)
 obtain ⟨Av, cv, hvv⟩ := own_val ho
 rcases idxG_spec zT (fun t : Tup => p t.2.1) ps with ⟨e1, hall⟩ | ⟨k0, hk0, e1, ht, hall⟩
 ·rw [e1] at HIF
  rw [filterG_none zT (fun t : Tup => p t.2.1) ps hall]
  subst hvv
  have HO := Aside0.mk ho
  have HB := Aside0.mk hB
  clear ho hp hall hB e1 hq hIF
  go_enter Try.func61, Try.ntmps61
  go_wp2_with (go_at_call 86; refine HIF.out.mono ?_; rintro e w' ⟨rfl, hb⟩)
  go_ret
  exact ⟨_, rfl, own_below HO.out hb, below_step HB.out hb⟩
 ·obtain ⟨gb, c, rfl, hg, hgl, hnc⟩ := own_form ho (by omega)
  rw [e1] at HIF
  have HO0 := Aside0.mk ho
  have HB0 := Aside0.mk hB
  have HG0 := Aside0.mk hg
  have HS := Aside0.mk (show (some gb = (Value.slice (some ⟨gb, 0, none⟩) ps.length c).ownBlock) ∨ w.heap.size ≤ gb from .inl rfl)
  have HNC := Aside0.mk hnc
  have HP := Aside0.mk hp
  have HQQ := Aside0.mk hq
  have HTT := Aside0.mk ht
  have HX := Aside0.mk hall
  have hk0z : ¬ ((k0 : Int) = -1) := by omega
  clear ho hB hp hq hg hIF ht hall e1 hvv
  go_enter Try.func61, Try.ntmps61
  go_wp2_with (go_at_call 86; refine HIF.out.mono ?_; rintro e w' ⟨rfl, hb⟩)
  rename_i w1
  have HB1 := Aside0.mk hb
  clear hb
  go_loopg [5, 6, 7] ps.length (fun gg s5 s6 _ wr => ∃ (i j : Nat) (cur : List Tup), s5 = .int .i64 i ∧ s6 = .int .i64 j ∧ ps.length - j ≤ gg ∧ Aside0 (DelG zT (fun t : Tup => p t.2.1) ps i j cur) ∧ Aside0 (wr.ownsRow w0.heap.size 39 1 (.slice (some ⟨gb, 0, none⟩) ps.length c) ps.length (cur.map (·.1))) ∧ Aside0 (Below w0.heap.size w0 wr) ∧ Aside0 (Kept w wr (fun b => some b = (Value.slice (some ⟨gb, 0, none⟩) ps.length c).ownBlock)))
  case atStart => exact ⟨k0, k0 + 1, ps, rfl, by go_num, by omega, ⟨DelG.start hk0 HTT.out HX.out⟩, ⟨own_below HO0.out HB1.out⟩, ⟨below_step HB0.out HB1.out⟩, ⟨Kept.of_below HB1.out _⟩⟩
  case round =>
   clear HO0 HB0 HB1
   obtain ⟨i, j, cur, rfl, rfl, hgg, HI, HO, HB, HK⟩ := hrel
   have hij := HI.out.lt
   have hjl : j ≤ ps.length := HI.out.le
   have hcl : cur.length = ps.length := HI.out.len
   by_cases hlt : j < ps.length
   ·have hltz : (j : Int) < (ps.length : Int) := by omega
    have hit : (i : Int) < (ps.length : Int) := by omega
    obtain ⟨hx1, _⟩ := own_cell HO.out j hlt
    have e1 := (h_getT cur j (by omega)).1
    rw [HI.out.at_ hlt] at e1
    rw [e1] at hx1
    have hmem := (h_getT ps j hlt).2
    obtain ⟨y, hy⟩ : ∃ y, y = ps.getD j zT := ⟨_, rfl⟩
    rw [← hy] at hx1 hmem
    obtain ⟨A1, n1, hv1, hl1, hC1⟩ := HQQ.out y hmem
    rw [hv1] at hx1
    have hcall := HP.out wr y.2.1 A1 n1 HK.out (List.mem_map_of_mem (f := fun t : Tup => t.2.1) hmem) hl1 (hC1 wr HK.out)
    have HY := Aside0.mk hy
    have HV1 := Aside0.mk hv1
    clear e1 hy hmem hC1 hl1 hv1
    cases hqq : p y.2.1 with
    | true =>
     rw [hqq] at hcall
     have HQ := Aside0.mk hqq
     clear hqq
     go_wp2_with (go_at_fn g; refine hcall.mono ?_; rintro e w2 ⟨rfl, hb2⟩)
     go_roundg (ps.length - (j + 1))
     case measure => omega
     case rel => exact ⟨i, j + 1, cur, rfl, by go_num, by omega, ⟨HI.out.skip hlt (by rw [← HY.out]; exact HQ.out)⟩, ⟨own_below HO.out hb2⟩, ⟨below_step HB.out hb2⟩, ⟨Kept.below HK.out hb2⟩⟩
    | false =>
     rw [hqq] at hcall
     have HQ := Aside0.mk hqq
     clear hqq
     go_wp2_with (go_at_fn g; refine hcall.mono ?_; rintro e w2 ⟨rfl, hb2⟩; have HO3 := Aside0.mk (own_below HO.out hb2); have HB3 := Aside0.mk (below_step HB.out hb2); have HK3 := Aside0.mk (Kept.below HK.out hb2); have hzi := (own_cell HO3.out i (by omega)).1; have hzf := (own_cell HO3.out i (by omega)).2; clear hb2)
     go_roundg (ps.length - (j + 1))
     case measure => omega
     case rel =>
      refine ⟨i + 1, j + 1, cur.set i y, by go_num, by go_num, by omega, ⟨by rw [HY.out]; exact HI.out.keep hlt (by rw [← HY.out]; exact HQ.out)⟩, ⟨?_⟩, ⟨below_set HB3.out HG0.out⟩, ⟨HK3.out.setCell (p := ⟨gb, i, none⟩) HS.out _⟩⟩
      rw [List.map_set, HV1.out]
      exact own_set HO3.out i (by omega) _
   ·obtain rfl : j = ps.length := by omega
    have hltz : ¬ (ps.length : Int) < (ps.length : Int) := by omega
    have hlow := HI.out.low
    rw [List.take_of_length_le (l := ps) (Nat.le_refl _)] at hlow
    have hil : i < ps.length := hij
    have hic : i ≤ c := by have := HNC.out; omega
    have hicz : (i : Int) ≤ (ps.length : Int) := by omega
    have hcl2 : ∀ ty, (Builtin.clear_ #[40] ty #[.slice (some ⟨gb, i, none⟩) (ps.length - i) (c - i)]).run Try.prog wr = .ok (.tuple #[]) (wr.setCells gb i (List.replicate (ps.length - i) (.slice none 0 0))) :=
     fun ty => Lib.run_clear_slice wr _ _ ty _ Try.underlying40 Try.zeroValue39 rfl rfl gb i _ _ (by omega) (fun t ht => by
      rw [(own_cell HO.out (i + t) (by omega)).1]
      rfl) (fun t ht => (own_cell HO.out (i + t) (by omega)).2)
    have HLOW := Aside0.mk hlow
    clear hlow
    go_wp2
    go_ret
    have hT := own_cut HO.out i (by omega) (List.replicate (ps.length - i) (.slice none 0 0)) (by simp; omega)
    rw [← List.map_take, HLOW.out] at hT
    have hlen3 : (ps.filter fun t => !p t.2.1).length = i := by rw [← HLOW.out, List.length_take]; omega
    rw [hlen3]
    exact ⟨_, rfl, hT, h_below_sets HB.out HG0.out _ _⟩

/-! ### slices_Clone_int_int_62: function 62, by hand -/
set_option maxHeartbeats 2000000 in
set_option maxRecDepth 100000 in
/-- slices.Clone of a row of slices. -/
theorem Clone_vals (A : Option Addr) (c : Nat) (xs : List (List Int)) (w : World) (hC : Kd.C (Kd.slice 3 (Kd.int .i64)) w A xs.length xs) (hl : xs.length ≤ 1000000) :
  Calls Try.prog 62 #[.slice A xs.length c] w fun e w' => ∃ (v : Value) (ps : List Tup), e = .returned v ∧ ps.map (·.2.1) = xs ∧ (∀ p ∈ ps, ReadsI w p.1 p.2.1) ∧ w'.ownsRow w.heap.size 39 1 v ps.length (ps.map (·.1)) ∧ Below w.heap.size w w' := by
 obtain ⟨ps, e1, hr, hv⟩ := rows_vals hC
 have hn : ps.length = xs.length := by rw [← e1, List.length_map]
 have HE := Aside0.mk e1
 have HR := Aside0.mk hr
 have q22 : ∀ (w : World) (a : Option Addr) (n c n' c' : Nat), (binOp .eql 40 (.slice a n c) (.slice none n' c')).run Try.prog w = .ok (.bool a.isNone) w := fun w a n c n' c' => Lib.run_eql_slice_nil w _ _ a n c n' c' Try.underlying40
 cases A with
 | none =>
  have h0 : xs.length = 0 := by
   rcases Nat.eq_zero_or_pos xs.length with h | h
   ·exact h
   ·obtain ⟨ad, e, _⟩ := hv h
    cases e
  have hnil : ps = [] := List.eq_nil_of_length_eq_zero (by omega)
  clear hC hv hr e1
  go_enter Try.func62, Try.ntmps62
  go_wp2
  go_ret
  exact ⟨_, ps, rfl, HE.out, HR.out, by rw [hnil]; exact World.ownsRow_nil _ _ _ _, Below.refl _ _⟩
 | some ad =>
  have HAP := Aside0.mk (append_vals w (some ad) xs.length c ps [] (.slice (some ⟨w.heap.size, 0, none⟩) 0 0) (w.alloc (.cells #[] 39)) hn (by omega) (by simp) hr hv (below_alloc (Below.refl _ _) _) (own_empty w _ (Nat.le_refl _)))
  clear hC hv hr e1
  go_enter Try.func62, Try.ntmps62
  go_wp2_with ((with_reducible refine gate_builtin (b := .append) (xs := #[.tmp 5, .tmp 6]) rfl ?_); at_builtin; obtain ⟨v', W', hrun, hO', hb'⟩ := HAP.out; have HO2 := Aside0.mk hO'; have HB2 := Aside0.mk hb'; clear hO' hb'; refine h_append_at rfl (.tmp 5) (.tmp 6) 40 _ _ _ rfl rfl rfl hrun ?_)
  go_ret
  exact ⟨_, ps, rfl, HE.out, HR.out, HO2.out, HB2.out⟩

/-! ### slices_ContainsFunc_int_int_64: function 64, by hand -/
/-- slices.ContainsFunc at [][]int. -/
theorem ContainsFunc_rows (g : Nat) (lb : Array Value) (eg : ∀ args w, (callFunc g args).run Try.prog w = .ok (.enter g args) w) (A : Option Addr) (c : Nat) (xs : List (List Int)) (p : List Int → Bool) (w : World)
  (hp : Pred1 (Kd.slice 3 (Kd.int .i64)) g lb xs p w) (hr : Kd.C (Kd.slice 3 (Kd.int .i64)) w A xs.length xs) :
  Calls Try.prog 64 #[.slice A xs.length c, .func (.func g) #[] lb] w fun e w' => e = .returned (.bool (xs.any p)) ∧ Below w.heap.size w w' := by
 have H := IndexFunc_rows g lb eg A c xs p w hp hr
 rw [← idxF_any p xs]
 clear hp hr
 generalize idxF p xs = q at H ⊢
 go_enter Try.func64, Try.ntmps64
 go_wp2_with (go_at_call 86; refine H.mono ?_; rintro e w' ⟨rfl, hb⟩)
 go_ret
 exact ⟨by first | rfl | simp, hb⟩

/-! ### impl_WithoutOf_1_1: function 65, by hand -/
/-- s is t. -/
theorem h_wo11 (B : Nat) (At : Option Addr) (ct : Nat) (t : List Int) (l : List (List Int)) (w : World) (hB : B < w.heap.size) (hcell : w.cell? ⟨B, 0, none⟩ = some (.slice At t.length ct)) (hct : t.length ≤ ct) (hC : (Kd.int .i64).C w At t.length t) (hl : ∀ s ∈ l, s.length ≤ 4611686018427387904) :
  Pred1 (Kd.slice 3 (Kd.int .i64)) 65 #[.pointer (some ⟨B, 0, none⟩)] l (fun s => decide (s = t)) w := by
 intro W x v hb hx hK
 obtain ⟨A1, c1, e1, hl1, hC1⟩ := hK
 obtain rfl : v = .slice A1 x.length c1 := by simpa using e1
 obtain ⟨K, hE⟩ := seq_tells x t (hl x hx)
 have hc0 : W.cell? ⟨B, 0, none⟩ = some (.slice At t.length ct) := (hb.cell (p := ⟨B, 0, none⟩) hB).trans hcell
 have HE := Lib.hid (slices_Equal_int_int.calls K A1 c1 x At ct t _ W hC1 hl1 (Kd.C_below hC hb) hct (hE K (Nat.le_refl _)))
 clear hcell hb hC1 e1 hC hE
 show Calls Try.prog 65 #[.slice A1 x.length c1, .pointer (some ⟨B, 0, none⟩)] W _
 go_enter Try.func65, Try.ntmps65
 go_wp2_with (go_at_call 66; refine HE.out.mono ?_; rintro e w' ⟨rfl, hd⟩)
 go_ret
 exact ⟨by first | rfl | simp, hd.below⟩

/-! ### impl_WithoutOf_1: function 63, by hand -/
/-- t is one of m. -/
theorem h_wo1 (B : Nat) (A : Option Addr) (c : Nat) (m xs : List (List Int)) (w : World) (S : Nat → Prop) (hBS : ¬ S B) (hcell : w.cell? ⟨B, 1, none⟩ = some (.slice A m.length c)) (hm : ∀ W, Kept w W S → Kd.C (Kd.slice 3 (Kd.int .i64)) W A m.length m) (hl : ∀ s ∈ m, s.length ≤ 4611686018427387904) :
  PredR 63 #[.pointer (some ⟨B, 0, none⟩)] xs (fun x => m.any fun s => decide (s = x)) w S := by
 intro W x Ax cx hk hx hcx hCx
 have eg : ∀ args w, (callFunc 65 args).run Try.prog w = .ok (.enter 65 args) w := enters_ Try.func65 (by kernel_rfl) rfl
 have hc1 : (W.alloc (.cells #[.slice Ax x.length cx] 39)).cell? ⟨B, 1, none⟩ = some (.slice A m.length c) := pw_cell_below (below_alloc (Below.refl W.heap.size W) _) (cell_kept hcell hk hBS)
 have hbA : Below W.heap.size W (W.alloc (.cells #[.slice Ax x.length cx] 39)) := below_alloc (Below.refl _ _) _
 have HC := Lib.hid (ContainsFunc_rows _ _ eg A c m (fun s => decide (s = x)) (W.alloc (.cells #[.slice Ax x.length cx] 39)) (h_wo11 W.heap.size Ax cx x m (W.alloc (.cells #[.slice Ax x.length cx] 39)) (by simp) (by simp) hcx (Kd.C_below hCx hbA) hl) (Kd.C_below (hm W hk) hbA))
 have HB := Aside0.mk hbA
 clear hcell hk hBS hx hm hCx hbA
 show Calls Try.prog 63 #[.slice Ax x.length cx, .pointer (some ⟨B, 0, none⟩)] W fun e w' => e = .returned (.bool (m.any fun s => decide (s = x))) ∧ Below W.heap.size W w'
 generalize (m.any fun s => decide (s = x)) = q at HC ⊢
 go_enter Try.func63, Try.ntmps63
 go_wp2_with (go_at_call 64; refine HC.out.mono ?_; rintro e w' ⟨rfl, hb⟩)
 go_ret
 exact ⟨by first | rfl | simp, below_step HB.out hb⟩

/-! ### impl_WithoutOf: function 27, by hand -/
def impl_WithoutOf.f (k : Nat) (l0_0 : List Int) (l0_1 : List (List Int)) (l1_0 : List Int) (l1_1 : List (List Int)) : Option (List Int × (List (List Int)) × Bool) := (impl_areAlike.f k l0_0 l0_1 l1_0 l1_1).bind fun t => if t = true then (if l0_1.length ≤ 1000000 ∧ (∀ s ∈ l1_1, s.length ≤ 1000000) then impl_related.f l0_0 (l0_1.filter fun x => !(l1_1.any fun s => decide (s = x))) else none) else some ([], [], false)
theorem impl_WithoutOf.mono : ∀ a0 a1 a2 a3 k, LeO (impl_WithoutOf.f k a0 a1 a2 a3) (impl_WithoutOf.f (k + 1) a0 a1 a2 a3) := by
 intro a0 a1 a2 a3 k
 unfold impl_WithoutOf.f
 repeat' first
   | (with_reducible exact impl_areAlike.mono _ _ _ _ _)
   | (with_reducible exact slices_Compare_int_int.mono _ _ _)
   | (with_reducible exact slices_Equal_int_int.mono _ _ _)
   | (with_reducible exact LeO.refl _)
   | (with_reducible exact LeO.none _)
   | (with_reducible refine LeO.ite ?_ ?_)
   | (with_reducible refine LeO.bind ?_ (fun _ => ?_))
   | exact impl_areAlike.mono _ _ _ _ _
   | exact slices_Compare_int_int.mono _ _ _
   | exact slices_Equal_int_int.mono _ _ _
   | exact LeO.none _
   | refine LeO.ite ?_ ?_
   | refine LeO.bind ?_ (fun _ => ?_)
set_option maxHeartbeats 8000000 in
set_option maxRecDepth 100000 in
theorem impl_WithoutOf.calls (k : Nat) (A0_0 : Option Addr) (c0_0 : Nat) (l0_0 : List Int) (A0_1 : Option Addr) (c0_1 : Nat) (l0_1 : List (List Int)) (A1_0 : Option Addr) (c1_0 : Nat) (l1_0 : List Int) (A1_1 : Option Addr) (c1_1 : Nat) (l1_1 : List (List Int)) (r1 : List Int) (r2 : List (List Int)) (r3 : Bool) (w : World) (hr0_0 : Kd.C (Kd.int .i64) w A0_0 l0_0.length l0_0) (hc0_0 : l0_0.length ≤ c0_0) (hr0_1 : Kd.C (Kd.slice 3 (Kd.int .i64)) w A0_1 l0_1.length l0_1) (hc0_1 : l0_1.length ≤ c0_1) (hr1_0 : Kd.C (Kd.int .i64) w A1_0 l1_0.length l1_0) (hc1_0 : l1_0.length ≤ c1_0) (hr1_1 : Kd.C (Kd.slice 3 (Kd.int .i64)) w A1_1 l1_1.length l1_1) (hc1_1 : l1_1.length ≤ c1_1) (h : impl_WithoutOf.f k l0_0 l0_1 l1_0 l1_1 = some (r1, r2, r3)) :
  Calls Try.prog 27 #[.agg #[.slice A0_0 l0_0.length c0_0, .slice A0_1 l0_1.length c0_1], .agg #[.slice A1_0 l1_0.length c1_0, .slice A1_1 l1_1.length c1_1]] w fun e w' => ∃ v0_ v1_ : Value, e = .returned (.tuple #[.agg #[v0_, v1_], .bool r3]) ∧ Kd.R (Kd.int .i64) 3 w' w.heap.size (fun _ => True) v0_ r1 ∧ Kd.S (Kd.slice 3 (Kd.int .i64)) 39 w' w.heap.size (fun k_ => some k_ ≠ (v0_ : Value).ownBlock) v1_ r2 ∧ Below w.heap.size w w' := by
 unfold impl_WithoutOf.f at h
 obtain ⟨t, ht, h⟩ := Option.bind_eq_some_iff.1 h
 have hbW : Below w.heap.size w (((w.alloc (.cells #[.slice A0_0 l0_0.length c0_0, .slice A0_1 l0_1.length c0_1] 44)).alloc (.cells #[.slice A1_0 l1_0.length c1_0, .slice A1_1 l1_1.length c1_1] 44)).alloc (.cells #[.slice none 0 0, .slice none 0 0] 44)) := below_alloc (below_alloc (below_alloc (Below.refl _ _) _) _) _
 have HAA := Lib.hid (impl_areAlike.calls k A0_0 c0_0 l0_0 A0_1 c0_1 l0_1 A1_0 c1_0 l1_0 A1_1 c1_1 l1_1 t _ (Kd.C_below hr0_0 hbW) hc0_0 (Kd.C_below hr0_1 hbW) hc0_1 (Kd.C_below hr1_0 hbW) hc1_0 (Kd.C_below hr1_1 hbW) hc1_1 ht)
 have HR0 := Aside0.mk hr0_0
 have HR1 := Aside0.mk hr0_1
 have HR2 := Aside0.mk hr1_1
 have HT := Aside0.mk (TwoS.start w (.slice A0_0 l0_0.length c0_0) (.slice A0_1 l0_1.length c0_1) (.slice A1_0 l1_0.length c1_0) (.slice A1_1 l1_1.length c1_1))
 clear hr0_0 hr0_1 hr1_0 hr1_1 hbW ht
 cases t with
 | false =>
  simp only [Bool.false_eq_true, if_false, Option.some.injEq, Prod.mk.injEq] at h
  obtain ⟨rfl, rfl, rfl⟩ := h
  go_enter Try.func27, Try.ntmps27
  go_wp2_with (go_at_call 51; refine HAA.out.mono ?_; rintro e w1 ⟨rfl, hb⟩; have HT1 := Aside0.mk (HT.out.step hb); have hz0 := HT1.out.c0; have hz1 := HT1.out.c1; have hf0 := HT1.out.fr 0; have hf1 := HT1.out.fr 1; clear hb)
  refine bodyPost_ret (results_ct rfl _ _ (w.heap.size + 1 + 1) 44 #[.slice none 0 0, .slice none 0 0] (0, 0) _ rfl (by refine blk_put (cs := #[.slice none 0 0, .slice none 0 0]) ?_ 1 _ rfl; refine blk_put (cs := #[.slice none 0 0, .slice none 0 0]) ?_ 0 _ rfl; exact HT1.out.bc) Try.underlying44 rfl (by kernel_rfl)) rfl ?_
  exact ⟨_, _, rfl, Kd.R_nil _ _ _ _ _, Kd.S_nil _ _ _ _ _, below_set (below_set HT1.out.below (by omega)) (by omega)⟩
 | true =>
  simp only [if_true] at h
  by_cases hl : l0_1.length ≤ 1000000 ∧ (∀ s ∈ l1_1, s.length ≤ 1000000)
  ·rw [if_pos hl] at h
   obtain ⟨hl1, hl2⟩ := hl
   have HH := Aside0.mk h
   clear h
   have eg : ∀ args w, (callFunc 63 args).run Try.prog w = .ok (.enter 63 args) w := enters_ Try.func63 (by kernel_rfl) rfl
   have HCL := Lib.hid (show ∀ W, Below w.heap.size w W → Calls Try.prog 62 #[.slice A0_1 l0_1.length c0_1] W _ from fun W hb => Clone_vals A0_1 c0_1 l0_1 W (Kd.C_below HR1.out hb) hl1)
   have HDL := Lib.hid (show ∀ (W0 W : World) (v : Value) (ps : List Tup), TwoS w W0 (.slice A0_0 l0_0.length c0_0) (.slice A0_1 l0_1.length c0_1) (.slice A1_0 l1_0.length c1_0) (.slice A1_1 l1_1.length c1_1) → Below W0.heap.size W0 W → ps.map (·.2.1) = l0_1 → (∀ p ∈ ps, ReadsI W0 p.1 p.2.1) → W.ownsRow W0.heap.size 39 1 v ps.length (ps.map (·.1)) →
     Calls Try.prog 61 #[v, .func (.func 63) #[] #[.pointer (some ⟨w.heap.size + 1, 0, none⟩)]] W fun e w' => ∃ A c, e = .returned (.slice A (l0_1.filter fun x => !(l1_1.any fun s => decide (s = x))).length c) ∧ (l0_1.filter fun x => !(l1_1.any fun s => decide (s = x))).length ≤ c ∧ Kd.C (Kd.slice 3 (Kd.int .i64)) w' A (l0_1.filter fun x => !(l1_1.any fun s => decide (s = x))).length (l0_1.filter fun x => !(l1_1.any fun s => decide (s = x))) ∧ TwoS w w' (.slice A0_0 l0_0.length c0_0) (.slice A0_1 l0_1.length c0_1) (.slice A1_0 l1_0.length c1_0) (.slice A1_1 l1_1.length c1_1) from fun W0 W v ps hT hb he hr ho => by
    have hlo : ∀ k, some k = v.ownBlock → W0.heap.size ≤ k := fun k hk => (ho.lt k hk.symm).1
    have hlt := hT.lt
    have hP := h_wo1 (w.heap.size + 1) A1_1 c1_1 l1_1 (ps.map (·.2.1)) W (fun q => some q = v.ownBlock) (fun hk => by have := hlo _ hk; omega) ((hT.step hb).xb1) (Kd.C_kept_came (Kd.heap_slice 3 (Kd.heap_int .i64)) (Kd.C_below HR2.out hT.below) hb hlo) (fun s hs => by have := hl2 s hs; omega)
    have hlen : ps.length = l0_1.length := by rw [← he, List.length_map]
    refine (DeleteFunc_vals 63 _ eg v ps _ W0 W hb ho (fun t ht => (hr t ht).came hb hlo) hP (by omega)).mono ?_
    rintro e w' ⟨v0, rfl, ho', hb'⟩
    obtain ⟨A, c, hv, hlc, hC⟩ := vals_C ho' (fun t ht => (hr t (List.mem_filter.1 ht).1).below hb')
    have ef : (ps.filter fun t => !(l1_1.any fun s => decide (s = t.2.1))).map (·.2.1) = l0_1.filter fun x => !(l1_1.any fun s => decide (s = x)) := by
     rw [← he, List.filter_map]
     rfl
    rw [ef] at hv hlc hC
    exact ⟨A, c, by rw [hv], hlc, hC, hT.step hb'⟩)
   have hlf : (l0_1.filter fun x => !(l1_1.any fun s => decide (s = x))).length ≤ l0_1.length := List.length_filter_le _ _
   generalize (l0_1.filter fun x => !(l1_1.any fun s => decide (s = x))) = xs at HDL HH hlf
   clear hl2 hlf eg
   go_enter Try.func27, Try.ntmps27
   go_wp2_with (first | (go_at_call 51; refine HAA.out.mono ?_; rintro e w1 ⟨rfl, hb⟩; have HT1 := Aside0.mk (HT.out.step hb); have hz0 := HT1.out.xa0; have hz1 := HT1.out.xa1; clear hb) | (go_at_call 62; refine (HCL.out _ HT1.out.below).mono ?_; rintro e w2 ⟨v, ps, rfl, he, hr, ho, hb⟩; obtain ⟨Av, cv, ev⟩ := own_val ho; subst ev; have HE := Aside0.mk he; have HRP := Aside0.mk hr; have HO := Aside0.mk ho; have HB2 := Aside0.mk hb; clear he hr ho hb) | (go_at_call 61; refine (HDL.out _ _ _ _ HT1.out HB2.out HE.out HRP.out HO.out).mono ?_; rintro e w3 ⟨A9, c9, rfl, hl9, hC9, hT9⟩; have HT3 := Aside0.mk hT9; have HC9 := Aside0.mk hC9; have HL9 := Aside0.mk hl9; have hy0 := HT3.out.xa0; clear hT9 hC9 hl9) | (go_at_call 52; refine (impl_related.calls A0_0 c0_0 l0_0 A9 c9 xs r1 r2 r3 w3 (Kd.C_below HR0.out HT3.out.below) hc0_0 HC9.out HL9.out HH.out).mono ?_; rintro e w4 ⟨v0, v1, rfl, hRn, hSr, hb4⟩; have HT4 := Aside0.mk (HT3.out.step hb4); obtain ⟨A5, c5, e5⟩ := Kd.R_slice hRn; obtain ⟨A6, c6, e6⟩ := Kd.S_slice hSr; subst e5 e6; have HF := Aside0.mk (HT3.out.done (u0 := .slice A5 r1.length c5) (u1 := .slice A6 r2.length c6) hb4 hRn hSr); have hx0 := HT4.out.c0; have hx1 := HT4.out.c1; have hf0 := HT4.out.fr 0; have hf1 := HT4.out.fr 1; clear hRn hSr hb4))
   refine bodyPost_ret (results_ct rfl _ _ (w.heap.size + 1 + 1) 44 #[.slice A5 r1.length c5, .slice A6 r2.length c6] (0, 0) _ rfl (by refine blk_put (cs := #[.slice A5 r1.length c5, .slice none 0 0]) ?_ 1 _ rfl; refine blk_put (cs := #[.slice none 0 0, .slice none 0 0]) ?_ 0 _ rfl; exact HT4.out.bc) Try.underlying44 rfl (by kernel_rfl)) rfl ?_
   exact ⟨_, _, rfl, HF.out⟩
  ·rw [if_neg hl] at h
   cases h

-- NOT PRINTED: function 6 (laws_FnExactWithoutOf)

end Go.Proofs.Ytcihgepinnajjaa.PFnExactWithoutOf
