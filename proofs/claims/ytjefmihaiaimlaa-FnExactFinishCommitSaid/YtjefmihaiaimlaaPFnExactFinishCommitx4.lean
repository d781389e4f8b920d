-- Written for this claim by the session's own program (drive.py), over the kit's print, with contracts typed by hand.
import Derived.Test.YtjefmihaiaimlaaPFnExactFinishCommitx0
import Derived.Test.YtjefmihaiaimlaaPFnExactFinishCommitx1
import Derived.Test.YtjefmihaiaimlaaPFnExactFinishCommitx2
import Derived.Test.YtjefmihaiaimlaaPFnExactFinishCommitx3
namespace Go.Proofs.Ytjefmihaiaimlaa.PFnExactFinishCommit
open Go.RowKit Go.Proofs.YtjefmihaiaimlaaW.PrintWords Go.Proofs.YtjefmihaiaimlaaW.PrintLast Go.Proofs.YtjefmihaiaimlaaW.PrintMore
attribute [local go_sem] max2_int min2_int max_two min_two max_three min_three max_four min_four   -- for this text's walks alone
set_option linter.unusedVariables false
set_option linter.unusedSimpArgs false

/-- What is asked of a predicate over elements of one cell that is handed in: wherever all that lay in w lies, it answers `p x` at each of xs; it may lay blocks of its own. -/
def Pred1 {α : Type} (d : Kd α) (g : Nat) (lb : Array Value) (xs : List α) (p : α → Bool) (w : World) : Prop :=
  ∀ (W : World) (x : α) (v : Value), Below w.heap.size w W → x ∈ xs → d.K W x [v] → Calls Try.prog g (#[v] ++ lb) W fun e w' => e = .returned (.bool (p x)) ∧ Below W.heap.size W w'
/-- The place of the first one, or -1. -/
def idxF {α : Type} (p : α → Bool) (xs : List α) : Int := match xs.findIdx? p with
  | some i => (i : Int)
  | none => -1
theorem idxF_hit {α : Type} (p : α → Bool) (xs : List α) (z : α) (k : Nat) (hk : k < xs.length) (hp : p (xs.getD k z) = true) (hn : ∀ j, j < k → p (xs.getD j z) = false) : idxF p xs = k := by
  unfold idxF
  have e : xs.findIdx? p = some k := by
    rw [List.findIdx?_eq_some_iff_getElem]
    refine ⟨hk, by simpa [List.getD, List.getElem?_eq_getElem hk] using hp, fun j hj => ?_⟩
    have := hn j hj
    have hj' : j < xs.length := by omega
    simpa [List.getD, List.getElem?_eq_getElem hj'] using this
  rw [e]
theorem idxF_miss {α : Type} (p : α → Bool) (xs : List α) (z : α) (hn : ∀ j, j < xs.length → p (xs.getD j z) = false) : idxF p xs = -1 := by
  unfold idxF
  have e : xs.findIdx? p = none := by
    rw [List.findIdx?_eq_none_iff]
    intro x hx
    obtain ⟨j, hj, rfl⟩ := List.mem_iff_getElem.1 hx
    have := hn j hj
    simpa [List.getD, List.getElem?_eq_getElem hj] using this
  rw [e]
theorem idxF_any {α : Type} (p : α → Bool) (xs : List α) : decide (0 ≤ idxF p xs) = xs.any p := by
  unfold idxF
  cases h : xs.findIdx? p with
  | none =>
    rw [List.findIdx?_eq_none_iff] at h
    have : xs.any p = false := by
      rw [List.any_eq_false]
      intro x hx
      have := h x hx
      simp [this]
    rw [this]
    rfl
  | some i =>
    rw [List.findIdx?_eq_some_iff_getElem] at h
    obtain ⟨hi, hp, _⟩ := h
    have : xs.any p = true := List.any_eq_true.2 ⟨xs[i], List.getElem_mem hi, hp⟩
    rw [this]
    simp
theorem mem_getD {α : Type} (xs : List α) (z : α) (k : Nat) (hk : k < xs.length) : xs.getD k z ∈ xs := by
  rw [show xs.getD k z = xs[k] from by simp [List.getD, List.getElem?_eq_getElem hk]]
  exact List.getElem_mem hk
theorem bcell {W w1 : World} (hb : Below W.heap.size W w1) : (∀ b o, b < W.heap.size → w1.cell? ⟨b, o, none⟩ = W.cell? ⟨b, o, none⟩) ∧ (∀ b o, b < W.heap.size → w1.frozen? ⟨b, o, none⟩ = W.frozen? ⟨b, o, none⟩) :=
  ⟨fun b o h => hb.cell (p := ⟨b, o, none⟩) h, fun b o h => hb.frozen (p := ⟨b, o, none⟩) h⟩

/-! ### spec_l16Step: function 23, by hand -/
def overB (x : Int) : Bool := decide (x = 2) || decide (x = 3)
theorem h_over_tells (a : Int) : impl_isOver.f a = some (overB a) := by
  unfold impl_isOver.f overB
  by_cases h : a = 2
  · rw [if_pos h]; simp [h]
  · rw [if_neg h, decide_eq_false h, Bool.false_or]; rfl
theorem h_over_pred (xs : List Int) (w : World) : Pred1 (Kd.int .i64) 47 #[] xs overB w := fun W x v hb hx hv => by
  obtain rfl : v = .int .i64 x := by simpa [Kd.int, Kd.scalar] using hv
  have := impl_isOver.calls x _ W (h_over_tells x)
  refine (show Calls Try.prog 47 #[.int .i64 x] W _ from this).mono ?_
  rintro e w' ⟨rfl, ⟨n, rfl⟩⟩
  exact ⟨rfl, pw_below_drewN (Below.refl _ _) _⟩
/-- A commit's own blocks. -/
def ComK (B : Nat) (v0 v1 : Value) (k : Nat) : Prop := k = B ∨ some k = v0.ownBlock ∨ some k = v1.ownBlock
/-- A commit that lies in block B of our own: its two rows lie apart; since wk nothing else has been written. -/
def ComS (w0 wk w : World) (B : Nat) (v0 v1 : Value) (l0 l1 : List Int) (q : Int) : Prop :=
  w.heap[B]? = some (.cells #[v0, v1, .int .i64 q] 26 (0, 0)) ∧ (Kd.int .i64).R 3 w w0.heap.size (fun k => some k ≠ v1.ownBlock) v0 l0 ∧ (Kd.int .i64).R 3 w w0.heap.size (fun k => some k ≠ v0.ownBlock) v1 l1 ∧ w0.heap.size ≤ B ∧ Below w0.heap.size w0 w ∧ Kept wk w (ComK B v0 v1)
theorem ComS_ty : ∀ t, t ∈ 3 :: (Kd.int .i64).E → t ≠ 26 := fun t ht => by
  simp only [List.mem_cons] at ht
  rcases ht with rfl | ht
  · decide
  · exact absurd ht (by simp [Kd.int, Kd.scalar])
section
variable {w0 wk w w1 : World} {B g n c : Nat} {v0 v1 : Value} {l0 l1 : List Int} {q : Int}
theorem ComS_b (h : ComS w0 wk w B v0 v1 l0 l1 q) : Below w0.heap.size w0 w := h.2.2.2.2.1
theorem ComS_k (h : ComS w0 wk w B v0 v1 l0 l1 q) : Kept wk w (ComK B v0 v1) := h.2.2.2.2.2
theorem ComS_r0 (h : ComS w0 wk w B v0 v1 l0 l1 q) : (Kd.int .i64).R 3 w w0.heap.size (fun k => some k ≠ v1.ownBlock) v0 l0 := h.2.1
theorem ComS_r1 (h : ComS w0 wk w B v0 v1 l0 l1 q) : (Kd.int .i64).R 3 w w0.heap.size (fun k => some k ≠ v0.ownBlock) v1 l1 := h.2.2.1
theorem ComS_c0 (h : ComS w0 wk w B v0 v1 l0 l1 q) : w.cell? ⟨B, 0, none⟩ = some v0 := (blk_cell h.1 0).trans rfl
theorem ComS_c1 (h : ComS w0 wk w B v0 v1 l0 l1 q) : w.cell? ⟨B, 1, none⟩ = some v1 := (blk_cell h.1 1).trans rfl
theorem ComS_c2 (h : ComS w0 wk w B v0 v1 l0 l1 q) : w.cell? ⟨B, 2, none⟩ = some (.int .i64 q) := (blk_cell h.1 2).trans rfl
theorem ComS_fr (h : ComS w0 wk w B v0 v1 l0 l1 q) (i : Nat) : w.frozen? ⟨B, i, none⟩ = false := blk_frozen h.1 i
theorem ComS_below (h : ComS w0 wk w B v0 v1 l0 l1 q) (hb : Below w.heap.size w w1) : ComS w0 wk w1 B v0 v1 l0 l1 q :=
  ⟨(hb.block B (blk_lt h.1)).trans h.1, Kd.R_below h.2.1 hb, Kd.R_below h.2.2.1 hb, h.2.2.2.1, below_step h.2.2.2.2.1 hb, h.2.2.2.2.2.below hb⟩
theorem ComS_drewN (h : ComS w0 wk w B v0 v1 l0 l1 q) (m : Nat) : ComS w0 wk (w.drewN m) B v0 v1 l0 l1 q := ComS_below h (pw_below_drewN (Below.refl _ _) m)
theorem ComS_alloc (h : ComS w0 wk w B v0 v1 l0 l1 q) (o : Obj) : ComS w0 wk (w.alloc o) B v0 v1 l0 l1 q := ComS_below h (below_alloc (Below.refl _ _) o)
theorem ComS_word (h : ComS w0 wk w B v0 v1 l0 l1 q) (q' : Int) : ComS w0 wk (w.setCell ⟨B, 2, none⟩ (.int .i64 q')) B v0 v1 l0 l1 q' :=
  ⟨(blk_set h.1 2 (.int .i64 q')).trans rfl, Kd.R_set h.2.1 h.1 ComS_ty 2 _, Kd.R_set h.2.2.1 h.1 ComS_ty 2 _, h.2.2.2.1, below_set h.2.2.2.2.1 h.2.2.2.1, h.2.2.2.2.2.setCell (.inl (.inl rfl)) _⟩
theorem ComS_form0 (h : ComS w0 wk w B v0 v1 l0 l1 q) (hp : 0 < l0.length) : ∃ g c, v0 = .slice (some ⟨g, 0, none⟩) l0.length c := by
  obtain ⟨g, c, e, _⟩ := Kd.R_form h.2.1 hp
  exact ⟨g, c, e⟩
theorem ComS_form1 (h : ComS w0 wk w B v0 v1 l0 l1 q) (hp : 0 < l1.length) : ∃ g c, v1 = .slice (some ⟨g, 0, none⟩) l1.length c := by
  obtain ⟨g, c, e, _⟩ := Kd.R_form h.2.2.1 hp
  exact ⟨g, c, e⟩
theorem ComS_at0 (h : ComS w0 wk w B (.slice (some ⟨g, 0, none⟩) l0.length c) v1 l0 l1 q) (i : Int) (h0 : 0 ≤ i) (h1 : i < l0.length) : w.cell? ⟨g, i.toNat, none⟩ = some (.int .i64 (rd l0 i)) ∧ w.frozen? ⟨g, i.toNat, none⟩ = false :=
  Kd.R_cell (enc := Value.int .i64) (0 : Int) h.2.1 i h0 h1
theorem ComS_at1 (h : ComS w0 wk w B v0 (.slice (some ⟨g, 0, none⟩) l1.length c) l0 l1 q) (i : Int) (h0 : 0 ≤ i) (h1 : i < l1.length) : w.cell? ⟨g, i.toNat, none⟩ = some (.int .i64 (rd l1 i)) ∧ w.frozen? ⟨g, i.toNat, none⟩ = false :=
  Kd.R_cell (enc := Value.int .i64) (0 : Int) h.2.2.1 i h0 h1
theorem ComS_gne (h : ComS w0 wk w B v0 v1 l0 l1 q) {n : Nat} (ho : v0.ownBlock = some g) : g ≠ B ∧ some g ≠ v1.ownBlock :=
  ⟨fun e => Kd.R_ne h.2.1 h.1 (by decide) (by rw [← e, ho]), h.2.1.1 g ho⟩
theorem ComS_put0 (h : ComS w0 wk w B (.slice (some ⟨g, 0, none⟩) n c) v1 l0 l1 q) (i x : Int) : ComS w0 wk (w.setCell ⟨g, i.toNat, none⟩ (.int .i64 x)) B (.slice (some ⟨g, 0, none⟩) n c) v1 (l0.set i.toNat x) l1 q := by
  have ho : (Value.slice (some ⟨g, 0, none⟩) n c).ownBlock = some g := by simp [Value.ownBlock]
  obtain ⟨hB, hr0, hr1, hle, hb, hk⟩ := h
  have hne : g ≠ B := fun e => Kd.R_ne hr0 hB (by decide) (by rw [← e, ho])
  refine ⟨blk_far hB (p := ⟨g, i.toNat, none⟩) (fun e => hne e.symm) _, Kd.R_putn (enc := Value.int .i64) hr0 i x, ?_, hle, below_set hb (Kd.R_base hr0 g ho), hk.setCell (.inl (.inr (.inl ho.symm))) _⟩
  refine Kd.R_far hr1 (fun k hk e => hk ?_) _
  rw [ho, e]
theorem ComS_put1 (h : ComS w0 wk w B v0 (.slice (some ⟨g, 0, none⟩) n c) l0 l1 q) (i x : Int) : ComS w0 wk (w.setCell ⟨g, i.toNat, none⟩ (.int .i64 x)) B v0 (.slice (some ⟨g, 0, none⟩) n c) l0 (l1.set i.toNat x) q := by
  have ho : (Value.slice (some ⟨g, 0, none⟩) n c).ownBlock = some g := by simp [Value.ownBlock]
  obtain ⟨hB, hr0, hr1, hle, hb, hk⟩ := h
  have hne : g ≠ B := fun e => Kd.R_ne hr1 hB (by decide) (by rw [← e, ho])
  refine ⟨blk_far hB (p := ⟨g, i.toNat, none⟩) (fun e => hne e.symm) _, ?_, Kd.R_putn (enc := Value.int .i64) hr1 i x, hle, below_set hb (Kd.R_base hr1 g ho), hk.setCell (.inl (.inr (.inr ho.symm))) _⟩
  refine Kd.R_far hr0 (fun k hk e => hk ?_) _
  rw [ho, e]
end
/-- What is decided. -/
def decW (l1 : List Int) (q : Int) : Int := if q = 0 then (if l1.any (fun x => decide (x ≠ 1)) then 2 else 1) else q
/-- What a part is told. -/
def tellB (l0 : List Int) (q i : Int) : Bool := !(overB (rd l0 i) || decide (q = 0))
def tellP (l0 : List Int) (q i : Int) : List Int := if overB (rd l0 i) || decide (q = 0) then l0 else l0.set i.toNat (if q = 2 then 3 else 2)
theorem h_w64 {i : Int} (h0 : -9223372036854775808 ≤ i) (h1 : i ≤ 9223372036854775807) : wrap64 i = i := by
  unfold wrap64
  omega
theorem h_rd (l : List Int) (i : Nat) : rd l (i : Int) = l.getD i 0 := by simp [rd]
section
variable {w0 wk w w1 : World} {B g n c : Nat} {v0 v1 x y z : Value} {l0 l1 : List Int} {q : Int}
/-- A commit's cells are laid into a block of our own. -/
theorem ComS_set3 (hg : w.heap[g]? = some (.cells #[x, y, z] 26 (0, 0))) (hr0 : (Kd.int .i64).R 3 w w0.heap.size (fun k => some k ≠ v1.ownBlock) v0 l0) (hr1 : (Kd.int .i64).R 3 w w0.heap.size (fun k => some k ≠ v0.ownBlock) v1 l1) (hle : w0.heap.size ≤ g) (hB : Below w0.heap.size w0 w) :
    ComS w0 (((w.setCell ⟨g, 0, none⟩ v0).setCell ⟨g, 1, none⟩ v1).setCell ⟨g, 2, none⟩ (.int .i64 q)) (((w.setCell ⟨g, 0, none⟩ v0).setCell ⟨g, 1, none⟩ v1).setCell ⟨g, 2, none⟩ (.int .i64 q)) g v0 v1 l0 l1 q := by
  have b0 := blk_set hg 0 v0
  have b1 := blk_set b0 1 v1
  have b2 := blk_set b1 2 (.int .i64 q)
  refine ⟨b2.trans rfl, ?_, ?_, hle, below_set (below_set (below_set hB hle) hle) hle, Kept.refl _ _⟩
  · exact Kd.R_set (Kd.R_set (Kd.R_set hr0 hg ComS_ty 0 _) b0 ComS_ty 1 _) b1 ComS_ty 2 _
  · exact Kd.R_set (Kd.R_set (Kd.R_set hr1 hg ComS_ty 0 _) b0 ComS_ty 1 _) b1 ComS_ty 2 _
/-- A block of another commit is no part of it. -/
theorem ComS_blk {o : Obj} (h : ComS w0 wk w B v0 v1 l0 l1 q) (hg : w0.heap[g]? = some o) : w.heap[g]? = some o := (h.2.2.2.2.1.block g (blk_lt hg)).trans hg
theorem ComS_out {b : Nat} (h : ComS w0 wk w B v0 v1 l0 l1 q) (hb : b ≤ w0.heap.size) : (Kd.int .i64).R 3 w b (fun k => some k ≠ v1.ownBlock) v0 l0 ∧ (Kd.int .i64).R 3 w b (fun k => some k ≠ v0.ownBlock) v1 l1 := ⟨Kd.R_lower h.2.1 hb, Kd.R_lower h.2.2.1 hb⟩
end
/-- All parts from one on are told. -/
def tellFrom (q : Int) : Nat → List Int → Int → List Int
  | 0, l, _ => l
  | d + 1, l, i => tellFrom q d (tellP l q i) (i + 1)
theorem tellP_length (l : List Int) (q i : Int) : (tellP l q i).length = l.length := by
  unfold tellP
  split
  · rfl
  · rw [List.length_set]
theorem decW_int (l : List Int) (q : Int) : decW l q = q ∨ decW l q = 1 ∨ decW l q = 2 := by
  unfold decW
  split
  · split
    · exact .inr (.inr rfl)
    · exact .inr (.inl rfl)
  · exact .inl rfl
theorem wrap_succ (k : Nat) (h : k ≤ 1000000) : wrap64 ((k : Int) + 1) = ((k + 1 : Nat) : Int) := by
  rw [h_w64 (by omega) (by omega)]
  omega
/-- A commit handed over by value: its two rows are ours and lie apart. -/
def ComR (w0 w : World) (v0 v1 : Value) (l0 l1 : List Int) : Prop :=
  (Kd.int .i64).R 3 w w0.heap.size (fun k => some k ≠ v1.ownBlock) v0 l0 ∧ (Kd.int .i64).R 3 w w0.heap.size (fun k => some k ≠ v0.ownBlock) v1 l1 ∧ Below w0.heap.size w0 w
/-- What lies in memory while spec.l16Step runs: the commit at g2, the talk at g3, the result's place at g4. -/
def LS (w0 wk w : World) (g2 g3 g4 : Nat) (v0 v1 : Value) (l0 l1 : List Int) (q kind part other : Int) : Prop :=
  ComS w0 wk w g2 v0 v1 l0 l1 q ∧ w.heap[g3]? = some (.cells #[.int .i64 kind, .int .i64 part, .int .i64 other] 50 (0, 0)) ∧ w.heap[g4]? = some (.cells #[.slice none 0 0, .slice none 0 0, .int .i64 0] 26 (0, 0)) ∧ g2 ≠ g4 ∧ w0.heap.size ≤ g4 ∧ wk.heap.size ≤ g2 ∧ wk.heap.size ≤ g4
section
variable {w0 wk w w1 : World} {g2 g3 g4 g n c : Nat} {v0 v1 x y z : Value} {l0 l1 : List Int} {q kind part other : Int}
theorem LS_r1 (h : LS w0 wk w g2 g3 g4 v0 v1 l0 l1 q kind part other) : (Kd.int .i64).R 3 w w0.heap.size (fun k => some k ≠ v0.ownBlock) v1 l1 := ComS_r1 h.1
theorem LS_below (h : LS w0 wk w g2 g3 g4 v0 v1 l0 l1 q kind part other) (hb : Below w.heap.size w w1) : LS w0 wk w1 g2 g3 g4 v0 v1 l0 l1 q kind part other :=
  ⟨ComS_below h.1 hb, blk_below h.2.1 hb, blk_below h.2.2.1 hb, h.2.2.2⟩
theorem LS_put0 (h : LS w0 wk w g2 g3 g4 (.slice (some ⟨g, 0, none⟩) n c) v1 l0 l1 q kind part other) (i a : Int) : LS w0 wk (w.setCell ⟨g, i.toNat, none⟩ (.int .i64 a)) g2 g3 g4 (.slice (some ⟨g, 0, none⟩) n c) v1 (l0.set i.toNat a) l1 q kind part other := by
  have ho : (Value.slice (some ⟨g, 0, none⟩) n c).ownBlock = some g := by simp [Value.ownBlock]
  have h3 : g3 ≠ g := fun e => Kd.R_ne (ComS_r0 h.1) h.2.1 (by decide) (by rw [e, ho])
  have h4 : g4 ≠ g := fun e => Kd.R_ne (ComS_r0 h.1) h.2.2.1 (by decide) (by rw [e, ho])
  exact ⟨ComS_put0 h.1 i a, blk_far h.2.1 (p := ⟨g, i.toNat, none⟩) h3 _, blk_far h.2.2.1 (p := ⟨g, i.toNat, none⟩) h4 _, h.2.2.2⟩
theorem LS_put1 (h : LS w0 wk w g2 g3 g4 v0 (.slice (some ⟨g, 0, none⟩) n c) l0 l1 q kind part other) (i a : Int) : LS w0 wk (w.setCell ⟨g, i.toNat, none⟩ (.int .i64 a)) g2 g3 g4 v0 (.slice (some ⟨g, 0, none⟩) n c) l0 (l1.set i.toNat a) q kind part other := by
  have ho : (Value.slice (some ⟨g, 0, none⟩) n c).ownBlock = some g := by simp [Value.ownBlock]
  have h3 : g3 ≠ g := fun e => Kd.R_ne (ComS_r1 h.1) h.2.1 (by decide) (by rw [e, ho])
  have h4 : g4 ≠ g := fun e => Kd.R_ne (ComS_r1 h.1) h.2.2.1 (by decide) (by rw [e, ho])
  exact ⟨ComS_put1 h.1 i a, blk_far h.2.1 (p := ⟨g, i.toNat, none⟩) h3 _, blk_far h.2.2.1 (p := ⟨g, i.toNat, none⟩) h4 _, h.2.2.2⟩
theorem LS_word (h : LS w0 wk w g2 g3 g4 v0 v1 l0 l1 q kind part other) (q' : Int) : LS w0 wk (w.setCell ⟨g2, 2, none⟩ (.int .i64 q')) g2 g3 g4 v0 v1 l0 l1 q' kind part other :=
  ⟨ComS_word h.1 q', blk_far h.2.1 (p := ⟨g2, 2, none⟩) (blk_ne h.2.1 h.1.1 (by decide)) _, blk_far h.2.2.1 (p := ⟨g2, 2, none⟩) h.2.2.2.1.symm _, h.2.2.2⟩
theorem LS_c (h : LS w0 wk w g2 g3 g4 v0 v1 l0 l1 q kind part other) : w.cell? ⟨g2, 0, none⟩ = some v0 ∧ w.cell? ⟨g2, 1, none⟩ = some v1 ∧ w.cell? ⟨g2, 2, none⟩ = some (.int .i64 q) ∧ w.cell? ⟨g3, 0, none⟩ = some (.int .i64 kind) ∧ w.cell? ⟨g3, 1, none⟩ = some (.int .i64 part) ∧ w.cell? ⟨g3, 2, none⟩ = some (.int .i64 other) ∧ w.cell? ⟨g4, 0, none⟩ = some (.slice none 0 0) ∧ w.cell? ⟨g4, 1, none⟩ = some (.slice none 0 0) ∧ w.cell? ⟨g4, 2, none⟩ = some (.int .i64 0) ∧ w.frozen? ⟨g4, 0, none⟩ = false ∧ w.frozen? ⟨g4, 1, none⟩ = false ∧ w.frozen? ⟨g4, 2, none⟩ = false ∧ w.frozen? ⟨g2, 2, none⟩ = false :=
  ⟨ComS_c0 h.1, ComS_c1 h.1, ComS_c2 h.1, (blk_cell h.2.1 0).trans rfl, (blk_cell h.2.1 1).trans rfl, (blk_cell h.2.1 2).trans rfl, (blk_cell h.2.2.1 0).trans rfl, (blk_cell h.2.2.1 1).trans rfl, (blk_cell h.2.2.1 2).trans rfl, blk_frozen h.2.2.1 0, blk_frozen h.2.2.1 1, blk_frozen h.2.2.1 2, ComS_fr h.1 2⟩
theorem LS_at0 (h : LS w0 wk w g2 g3 g4 (.slice (some ⟨g, 0, none⟩) l0.length c) v1 l0 l1 q kind part other) {i a : Int} (ha : rd l0 i = a) (h0 : 0 ≤ i) (h1 : i < l0.length) : w.cell? ⟨g, i.toNat, none⟩ = some (.int .i64 a) ∧ w.frozen? ⟨g, i.toNat, none⟩ = false := by rw [← ha]; exact ComS_at0 h.1 i h0 h1
theorem LS_at1 (h : LS w0 wk w g2 g3 g4 v0 (.slice (some ⟨g, 0, none⟩) l1.length c) l0 l1 q kind part other) {i a : Int} (ha : rd l1 i = a) (h0 : 0 ≤ i) (h1 : i < l1.length) : w.cell? ⟨g, i.toNat, none⟩ = some (.int .i64 a) ∧ w.frozen? ⟨g, i.toNat, none⟩ = false := by rw [← ha]; exact ComS_at1 h.1 i h0 h1
theorem LS_fin (h : LS w0 wk w g2 g3 g4 v0 v1 l0 l1 q kind part other) : ComR w0 (((w.setCell ⟨g4, 0, none⟩ v0).setCell ⟨g4, 1, none⟩ v1).setCell ⟨g4, 2, none⟩ (.int .i64 q)) v0 v1 l0 l1 ∧ Kept wk (((w.setCell ⟨g4, 0, none⟩ v0).setCell ⟨g4, 1, none⟩ v1).setCell ⟨g4, 2, none⟩ (.int .i64 q)) (fun k => some k = v0.ownBlock ∨ some k = v1.ownBlock) := by
  have h' := ComS_set3 (q := q) h.2.2.1 (ComS_r0 h.1) (ComS_r1 h.1) h.2.2.2.2.1 (ComS_b h.1)
  refine ⟨⟨ComS_r0 h', ComS_r1 h', ComS_b h'⟩, ?_⟩
  have hk := (((ComS_k h.1).setCell (p := ⟨g4, 0, none⟩) (.inr h.2.2.2.2.2.2) v0).setCell (p := ⟨g4, 1, none⟩) (.inr h.2.2.2.2.2.2) v1).setCell (p := ⟨g4, 2, none⟩) (.inr h.2.2.2.2.2.2) (.int .i64 q)
  refine ⟨hk.1, fun i hi hn => hk.2 i hi ?_⟩
  rintro (rfl | h1 | h1)
  · have := h.2.2.2.2.2.1
    omega
  · exact hn (.inl h1)
  · exact hn (.inr h1)
theorem LS_new (h : ComR w0 w v0 v1 l0 l1) {wa wb wc : World} (hg2 : g2 = w.heap.size) (h2 : wa.heap[g2]? = some (.cells #[v0, v1, .int .i64 q] 26 (0, 0))) (b2 : Below w.heap.size w wa) (h3 : wb.heap[g3]? = some (.cells #[.int .i64 kind, .int .i64 part, .int .i64 other] 50 (0, 0))) (b3 : Below wa.heap.size wa wb) (hg4 : g4 = wb.heap.size) (h4 : wc.heap[g4]? = some (.cells #[.slice none 0 0, .slice none 0 0, .int .i64 0] 26 (0, 0))) (b4 : Below wb.heap.size wb wc) : LS w0 w wc g2 g3 g4 v0 v1 l0 l1 q kind part other := by
  have hw := h.2.2.size
  have hS : ComS w0 w wa g2 v0 v1 l0 l1 q := ⟨h2, Kd.R_below h.1 b2, Kd.R_below h.2.1 b2, by omega, below_step h.2.2 b2, Kept.of_below b2 _⟩
  have l2 := blk_lt h2
  have s3 := b3.size
  have s2 := b2.size
  exact ⟨ComS_below (ComS_below hS b3) b4, blk_below h3 b4, h4, by omega, by omega, by omega, by omega⟩
end
/-- A step: the parts, what was heard, the word, and whether it may be. -/
def stepR (l0 l1 : List Int) (q kind part other : Int) : List Int × List Int × Int × Bool :=
  if (decide ((0 : Int) ≤ part) && decide (part ≤ (l0.length : Int) - 1)) = true then
    (if kind = 5 then (if (decide ((0 : Int) ≤ other) && decide (other ≤ (l0.length : Int) - 1)) = true then (if other = part then (l0, l1, q, false) else if rd l0 part = 1 then (if overB (rd l0 other) = true then (l0.set part.toNat (rd l0 other), l1, q, true) else (l0, l1, q, false)) else (l0, l1, q, false)) else (l0, l1, q, false))
    else if other = 0 then
      (if kind = 1 then (if rd l0 part = 0 then (if q = 0 then (l0.set part.toNat 1, l1.set part.toNat 1, q, true) else (l0, l1, q, false)) else (l0, l1, q, false))
      else if kind = 2 then (if rd l0 part = 0 then (if q = 1 then (l0, l1, q, false) else (l0.set part.toNat 3, l1.set part.toNat 2, q, true)) else (l0, l1, q, false))
      else if kind = 3 then (if part = 0 then (l0, l1, decW l1 q, decide (q = 0)) else (l0, l1, q, false))
      else if kind = 4 then (tellP l0 q part, l1, q, tellB l0 q part)
      else (l0, l1, q, false))
    else (l0, l1, q, false))
  else (l0, l1, q, false)
theorem h_sover (a : Int) : spec_l16Over.f a = some (overB a) := by
  unfold spec_l16Over.f overB
  by_cases h : a = 2
  · rw [if_pos h]; simp [h]
  · rw [if_neg h, decide_eq_false h, Bool.false_or]; exact congrArg some (by rw [Bool.eq_iff_iff]; simp)
theorem h_sin (a b c : Int) (W : World) (r : Bool) (h : (decide (b ≤ a) && decide (a ≤ c)) = r) : Calls Try.prog 38 #[.int .i64 a, .int .i64 b, .int .i64 c] W fun e w' => e = .returned (.bool r) ∧ Drawn0 W w' :=
  spec_l1In.calls a b c r W (by
    unfold spec_l1In.f
    by_cases hb : b ≤ a
    · rw [if_pos hb, ← h]; simp [hb]
    · rw [if_neg hb, ← h]; simp [hb])
theorem h_l1All (l : List Int) (hl : l.length ≤ 1000000) : ∀ (d i : Nat), i + d = l.length → spec_l1All.l0 (d + 1) 1 1 l (l.length : Int) (i : Int) = some (!((l.drop i).any fun x => decide (x ≠ 1)))
  | 0, i, h => by
    rw [spec_l1All.l0, if_neg (by omega), List.drop_of_length_le (by omega)]
    rfl
  | d + 1, i, h => by
    have hd : l.drop i = l.getD i 0 :: l.drop (i + 1) := by
      rw [List.drop_eq_getElem_cons (show i < l.length by omega)]
      simp [List.getD, List.getElem?_eq_getElem (show i < l.length by omega)]
    rw [spec_l1All.l0, if_pos (by omega), if_pos (by omega), if_pos (by omega), h_rd, hd, List.any_cons]
    unfold spec_l1In.f
    by_cases e : l.getD i 0 = 1
    · rw [if_pos (by omega), Option.bind_some, if_pos (by rw [e]; decide), wrap_succ i (by omega), h_l1All l hl d (i + 1) (by omega), e]
      simp
    · have e2 : decide (l.getD i 0 ≠ 1) = true := decide_eq_true e
      rw [e2, Bool.true_or, Bool.not_true]
      by_cases e1 : l.getD i 0 ≥ 1
      · rw [if_pos e1, Option.bind_some, if_neg (by rw [decide_eq_true_eq]; omega)]
      · rw [if_neg e1, Option.bind_some, if_neg (by decide)]
theorem h_sword (l : List Int) (hl : l.length ≤ 1000000) : spec_l16Word.f (l.length + 1) l = some (decW l 0) := by
  unfold spec_l16Word.f spec_l1All.f decW
  have := h_l1All l hl l.length 0 (by omega)
  rw [Int.natCast_zero] at this
  rw [this, Option.bind_some, List.drop_zero, if_pos rfl]
  cases (l.any fun x => decide (x ≠ 1)) <;> simp
set_option maxHeartbeats 4000000 in
set_option maxRecDepth 100000 in
theorem h_l16_A (w0 w : World) (b0 b1 c0 c1 : Nat) (l0 l1 : List Int) (q kind part other p : Int) (hR : ComR w0 w (.slice (some ⟨b0, 0, none⟩) l0.length c0) (.slice (some ⟨b1, 0, none⟩) l1.length c1) l0 l1) (hn : 1 ≤ l0.length) (hn5 : l0.length ≤ 5) (he : l1.length = l0.length) (hp : (decide ((0 : Int) ≤ part) && decide (part ≤ (l0.length : Int) - 1)) = false) :
    Calls Try.prog 23 #[.agg #[(.slice (some ⟨b0, 0, none⟩) l0.length c0), (.slice (some ⟨b1, 0, none⟩) l1.length c1), .int .i64 q], .agg #[.int .i64 kind, .int .i64 part, .int .i64 other]] w fun e w' => e = .returned (.tuple #[.agg #[(.slice (some ⟨b0, 0, none⟩) l0.length c0), (.slice (some ⟨b1, 0, none⟩) l1.length c1), .int .i64 q], .bool false]) ∧ ComR w0 w' (.slice (some ⟨b0, 0, none⟩) l0.length c0) (.slice (some ⟨b1, 0, none⟩) l1.length c1) l0 l1 ∧ Kept w w' (fun k => some k = ((.slice (some ⟨b0, 0, none⟩) l0.length c0) : Value).ownBlock ∨ some k = ((.slice (some ⟨b1, 0, none⟩) l1.length c1) : Value).ownBlock) := by
  have HR := Aside0.mk hR
  have HE := Aside0.mk he
  have HN := Aside0.mk hn
  clear hR he
  have HIp := Aside0.mk hp
  clear hp
  go_enter Try.func23, Try.ntmps23
  go_wp2_with (first | ((with_reducible refine gate_dst (N := 2) rfl ?_); refine box_event ?hg (N := 2) ?hd (cs := #[(.slice (some ⟨b0, 0, none⟩) l0.length c0), (.slice (some ⟨b1, 0, none⟩) l1.length c1), .int .i64 q]) (t := 26) ?hr ?_; (case hd => rfl); (case hg => rfl); (case hr => first | (go_simp; done) | (go_simp; rfl)); intro g2 hg2 wa xg2 yg2; have Xg2 := Aside0.mk xg2; have Yg2 := Aside0.mk yg2; have Gg2 := Aside0.mk hg2; clear hg2 xg2 yg2) | ((with_reducible refine gate_dst (N := 3) rfl ?_); refine box_event ?hg (N := 3) ?hd (cs := #[.int .i64 kind, .int .i64 part, .int .i64 other]) (t := 50) ?hr ?_; (case hd => rfl); (case hg => rfl); (case hr => first | (go_simp; done) | (go_simp; rfl)); intro g3 hg3 wb xg3 yg3; have Xg3 := Aside0.mk xg3; have Yg3 := Aside0.mk yg3; have Gg3 := Aside0.mk hg3; clear hg3 xg3 yg3) | ((with_reducible refine gate_dst (N := 4) rfl ?_); refine box_event ?hg (N := 4) ?hd (cs := #[.slice none 0 0, .slice none 0 0, .int .i64 0]) (t := 26) ?hr ?_; (case hd => rfl); (case hg => rfl); (case hr => first | (go_simp; done) | (go_simp; rfl)); intro g4 hg4 w3 xg4 yg4; have Xg4 := Aside0.mk xg4; have Yg4 := Aside0.mk yg4; have Gg4 := Aside0.mk hg4; clear hg4 xg4 yg4; have HS0 := Aside0.mk (LS_new HR.out Gg2.out Xg2.out Yg2.out Xg3.out Yg3.out Gg4.out Xg4.out Yg4.out); clear Xg2 Yg2 Gg2 Xg3 Yg3 Gg3 Xg4 Yg4 Gg4; obtain ⟨hx20, hx21, hx22, hx30, hx31, hx32, hx40, hx41, hx42, hf40, hf41, hf42, hf22⟩ := LS_c HS0.out) | (go_at_call 38; (with_reducible refine (h_sin part 0 ((l0.length : Int) - 1) _ false HIp.out).mono ?_); rintro e w4 ⟨rfl, hd⟩; have HS1 := Aside0.mk (LS_below HS0.out hd.below); clear hd; clear hx20 hx21 hx22 hx30 hx31 hx32 hx40 hx41 hx42 hf40 hf41 hf42 hf22; (try clear hy); (try clear hyf); (try clear hy1); (try clear hyf1); (try clear hyo); (try clear hyfo); clear HS0; obtain ⟨hx20, hx21, hx22, hx30, hx31, hx32, hx40, hx41, hx42, hf40, hf41, hf42, hf22⟩ := LS_c HS1.out))
  refine bodyPost_ret (results_ct rfl _ _ g4 26 #[(.slice (some ⟨b0, 0, none⟩) l0.length c0), (.slice (some ⟨b1, 0, none⟩) l1.length c1), .int .i64 q] (0, 0) _ rfl (by refine blk_put (cs := #[(.slice (some ⟨b0, 0, none⟩) l0.length c0), (.slice (some ⟨b1, 0, none⟩) l1.length c1), .int .i64 0]) ?_ 2 _ rfl; refine blk_put (cs := #[(.slice (some ⟨b0, 0, none⟩) l0.length c0), .slice none 0 0, .int .i64 0]) ?_ 1 _ rfl; refine blk_put (cs := #[.slice none 0 0, .slice none 0 0, .int .i64 0]) ?_ 0 _ rfl; exact HS1.out.2.2.1) Try.underlying26 rfl (by kernel_rfl)) rfl ?_
  exact ⟨rfl, LS_fin HS1.out⟩
set_option maxHeartbeats 4000000 in
set_option maxRecDepth 100000 in
theorem h_l16_B (w0 w : World) (b0 b1 c0 c1 : Nat) (l0 l1 : List Int) (q kind part other p : Int) (hR : ComR w0 w (.slice (some ⟨b0, 0, none⟩) l0.length c0) (.slice (some ⟨b1, 0, none⟩) l1.length c1) l0 l1) (hn : 1 ≤ l0.length) (hn5 : l0.length ≤ 5) (he : l1.length = l0.length) (hp : (decide ((0 : Int) ≤ part) && decide (part ≤ (l0.length : Int) - 1)) = true) (ho : (decide ((0 : Int) ≤ other) && decide (other ≤ (l0.length : Int) - 1)) = false) :
    Calls Try.prog 23 #[.agg #[(.slice (some ⟨b0, 0, none⟩) l0.length c0), (.slice (some ⟨b1, 0, none⟩) l1.length c1), .int .i64 q], .agg #[.int .i64 kind, .int .i64 part, .int .i64 other]] w fun e w' => e = .returned (.tuple #[.agg #[(.slice (some ⟨b0, 0, none⟩) l0.length c0), (.slice (some ⟨b1, 0, none⟩) l1.length c1), .int .i64 q], .bool false]) ∧ ComR w0 w' (.slice (some ⟨b0, 0, none⟩) l0.length c0) (.slice (some ⟨b1, 0, none⟩) l1.length c1) l0 l1 ∧ Kept w w' (fun k => some k = ((.slice (some ⟨b0, 0, none⟩) l0.length c0) : Value).ownBlock ∨ some k = ((.slice (some ⟨b1, 0, none⟩) l1.length c1) : Value).ownBlock) := by
  have HR := Aside0.mk hR
  have HE := Aside0.mk he
  have HN := Aside0.mk hn
  clear hR he
  have HIp := Aside0.mk hp
  have HIo := Aside0.mk ho
  clear hp ho
  go_enter Try.func23, Try.ntmps23
  go_wp2_with (first | ((with_reducible refine gate_dst (N := 2) rfl ?_); refine box_event ?hg (N := 2) ?hd (cs := #[(.slice (some ⟨b0, 0, none⟩) l0.length c0), (.slice (some ⟨b1, 0, none⟩) l1.length c1), .int .i64 q]) (t := 26) ?hr ?_; (case hd => rfl); (case hg => rfl); (case hr => first | (go_simp; done) | (go_simp; rfl)); intro g2 hg2 wa xg2 yg2; have Xg2 := Aside0.mk xg2; have Yg2 := Aside0.mk yg2; have Gg2 := Aside0.mk hg2; clear hg2 xg2 yg2) | ((with_reducible refine gate_dst (N := 3) rfl ?_); refine box_event ?hg (N := 3) ?hd (cs := #[.int .i64 kind, .int .i64 part, .int .i64 other]) (t := 50) ?hr ?_; (case hd => rfl); (case hg => rfl); (case hr => first | (go_simp; done) | (go_simp; rfl)); intro g3 hg3 wb xg3 yg3; have Xg3 := Aside0.mk xg3; have Yg3 := Aside0.mk yg3; have Gg3 := Aside0.mk hg3; clear hg3 xg3 yg3) | ((with_reducible refine gate_dst (N := 4) rfl ?_); refine box_event ?hg (N := 4) ?hd (cs := #[.slice none 0 0, .slice none 0 0, .int .i64 0]) (t := 26) ?hr ?_; (case hd => rfl); (case hg => rfl); (case hr => first | (go_simp; done) | (go_simp; rfl)); intro g4 hg4 w3 xg4 yg4; have Xg4 := Aside0.mk xg4; have Yg4 := Aside0.mk yg4; have Gg4 := Aside0.mk hg4; clear hg4 xg4 yg4; have HS0 := Aside0.mk (LS_new HR.out Gg2.out Xg2.out Yg2.out Xg3.out Yg3.out Gg4.out Xg4.out Yg4.out); clear Xg2 Yg2 Gg2 Xg3 Yg3 Gg3 Xg4 Yg4 Gg4; obtain ⟨hx20, hx21, hx22, hx30, hx31, hx32, hx40, hx41, hx42, hf40, hf41, hf42, hf22⟩ := LS_c HS0.out) | (go_at_call 38; (with_reducible refine (h_sin part 0 ((l0.length : Int) - 1) _ true HIp.out).mono ?_); rintro e w4 ⟨rfl, hd⟩; have HS1 := Aside0.mk (LS_below HS0.out hd.below); clear hd; clear hx20 hx21 hx22 hx30 hx31 hx32 hx40 hx41 hx42 hf40 hf41 hf42 hf22; (try clear hy); (try clear hyf); (try clear hy1); (try clear hyf1); (try clear hyo); (try clear hyfo); clear HS0; obtain ⟨hx20, hx21, hx22, hx30, hx31, hx32, hx40, hx41, hx42, hf40, hf41, hf42, hf22⟩ := LS_c HS1.out) | (go_at_call 38; (with_reducible refine (h_sin other 0 ((l0.length : Int) - 1) _ false HIo.out).mono ?_); rintro e w5 ⟨rfl, hd⟩; have HS2 := Aside0.mk (LS_below HS1.out hd.below); clear hd; clear hx20 hx21 hx22 hx30 hx31 hx32 hx40 hx41 hx42 hf40 hf41 hf42 hf22; (try clear hy); (try clear hyf); (try clear hy1); (try clear hyf1); (try clear hyo); (try clear hyfo); clear HS1; obtain ⟨hx20, hx21, hx22, hx30, hx31, hx32, hx40, hx41, hx42, hf40, hf41, hf42, hf22⟩ := LS_c HS2.out))
  refine bodyPost_ret (results_ct rfl _ _ g4 26 #[(.slice (some ⟨b0, 0, none⟩) l0.length c0), (.slice (some ⟨b1, 0, none⟩) l1.length c1), .int .i64 q] (0, 0) _ rfl (by refine blk_put (cs := #[(.slice (some ⟨b0, 0, none⟩) l0.length c0), (.slice (some ⟨b1, 0, none⟩) l1.length c1), .int .i64 0]) ?_ 2 _ rfl; refine blk_put (cs := #[(.slice (some ⟨b0, 0, none⟩) l0.length c0), .slice none 0 0, .int .i64 0]) ?_ 1 _ rfl; refine blk_put (cs := #[.slice none 0 0, .slice none 0 0, .int .i64 0]) ?_ 0 _ rfl; exact HS2.out.2.2.1) Try.underlying26 rfl (by kernel_rfl)) rfl ?_
  exact ⟨rfl, LS_fin HS2.out⟩
set_option maxHeartbeats 4000000 in
set_option maxRecDepth 100000 in
theorem h_l16_C (w0 w : World) (b0 b1 c0 c1 : Nat) (l0 l1 : List Int) (q kind part other p : Int) (hR : ComR w0 w (.slice (some ⟨b0, 0, none⟩) l0.length c0) (.slice (some ⟨b1, 0, none⟩) l1.length c1) l0 l1) (hn : 1 ≤ l0.length) (hn5 : l0.length ≤ 5) (he : l1.length = l0.length) (hp : (decide ((0 : Int) ≤ part) && decide (part ≤ (l0.length : Int) - 1)) = true) (ho : (decide ((0 : Int) ≤ other) && decide (other ≤ (l0.length : Int) - 1)) = true) (hk : (kind != 5) = true) (hz : (other != 0) = true) :
    Calls Try.prog 23 #[.agg #[(.slice (some ⟨b0, 0, none⟩) l0.length c0), (.slice (some ⟨b1, 0, none⟩) l1.length c1), .int .i64 q], .agg #[.int .i64 kind, .int .i64 part, .int .i64 other]] w fun e w' => e = .returned (.tuple #[.agg #[(.slice (some ⟨b0, 0, none⟩) l0.length c0), (.slice (some ⟨b1, 0, none⟩) l1.length c1), .int .i64 q], .bool false]) ∧ ComR w0 w' (.slice (some ⟨b0, 0, none⟩) l0.length c0) (.slice (some ⟨b1, 0, none⟩) l1.length c1) l0 l1 ∧ Kept w w' (fun k => some k = ((.slice (some ⟨b0, 0, none⟩) l0.length c0) : Value).ownBlock ∨ some k = ((.slice (some ⟨b1, 0, none⟩) l1.length c1) : Value).ownBlock) := by
  have HR := Aside0.mk hR
  have HE := Aside0.mk he
  have HN := Aside0.mk hn
  clear hR he
  have HIp := Aside0.mk hp
  have HIo := Aside0.mk ho
  clear hp ho
  go_enter Try.func23, Try.ntmps23
  go_wp2_with (first | ((with_reducible refine gate_dst (N := 2) rfl ?_); refine box_event ?hg (N := 2) ?hd (cs := #[(.slice (some ⟨b0, 0, none⟩) l0.length c0), (.slice (some ⟨b1, 0, none⟩) l1.length c1), .int .i64 q]) (t := 26) ?hr ?_; (case hd => rfl); (case hg => rfl); (case hr => first | (go_simp; done) | (go_simp; rfl)); intro g2 hg2 wa xg2 yg2; have Xg2 := Aside0.mk xg2; have Yg2 := Aside0.mk yg2; have Gg2 := Aside0.mk hg2; clear hg2 xg2 yg2) | ((with_reducible refine gate_dst (N := 3) rfl ?_); refine box_event ?hg (N := 3) ?hd (cs := #[.int .i64 kind, .int .i64 part, .int .i64 other]) (t := 50) ?hr ?_; (case hd => rfl); (case hg => rfl); (case hr => first | (go_simp; done) | (go_simp; rfl)); intro g3 hg3 wb xg3 yg3; have Xg3 := Aside0.mk xg3; have Yg3 := Aside0.mk yg3; have Gg3 := Aside0.mk hg3; clear hg3 xg3 yg3) | ((with_reducible refine gate_dst (N := 4) rfl ?_); refine box_event ?hg (N := 4) ?hd (cs := #[.slice none 0 0, .slice none 0 0, .int .i64 0]) (t := 26) ?hr ?_; (case hd => rfl); (case hg => rfl); (case hr => first | (go_simp; done) | (go_simp; rfl)); intro g4 hg4 w3 xg4 yg4; have Xg4 := Aside0.mk xg4; have Yg4 := Aside0.mk yg4; have Gg4 := Aside0.mk hg4; clear hg4 xg4 yg4; have HS0 := Aside0.mk (LS_new HR.out Gg2.out Xg2.out Yg2.out Xg3.out Yg3.out Gg4.out Xg4.out Yg4.out); clear Xg2 Yg2 Gg2 Xg3 Yg3 Gg3 Xg4 Yg4 Gg4; obtain ⟨hx20, hx21, hx22, hx30, hx31, hx32, hx40, hx41, hx42, hf40, hf41, hf42, hf22⟩ := LS_c HS0.out) | (go_at_call 38; (with_reducible refine (h_sin part 0 ((l0.length : Int) - 1) _ true HIp.out).mono ?_); rintro e w4 ⟨rfl, hd⟩; have HS1 := Aside0.mk (LS_below HS0.out hd.below); clear hd; clear hx20 hx21 hx22 hx30 hx31 hx32 hx40 hx41 hx42 hf40 hf41 hf42 hf22; (try clear hy); (try clear hyf); (try clear hy1); (try clear hyf1); (try clear hyo); (try clear hyfo); clear HS0; obtain ⟨hx20, hx21, hx22, hx30, hx31, hx32, hx40, hx41, hx42, hf40, hf41, hf42, hf22⟩ := LS_c HS1.out) | (go_at_call 38; (with_reducible refine (h_sin other 0 ((l0.length : Int) - 1) _ true HIo.out).mono ?_); rintro e w5 ⟨rfl, hd⟩; have HS2 := Aside0.mk (LS_below HS1.out hd.below); clear hd; clear hx20 hx21 hx22 hx30 hx31 hx32 hx40 hx41 hx42 hf40 hf41 hf42 hf22; (try clear hy); (try clear hyf); (try clear hy1); (try clear hyf1); (try clear hyo); (try clear hyfo); clear HS1; obtain ⟨hx20, hx21, hx22, hx30, hx31, hx32, hx40, hx41, hx42, hf40, hf41, hf42, hf22⟩ := LS_c HS2.out))
  refine bodyPost_ret (results_ct rfl _ _ g4 26 #[(.slice (some ⟨b0, 0, none⟩) l0.length c0), (.slice (some ⟨b1, 0, none⟩) l1.length c1), .int .i64 q] (0, 0) _ rfl (by refine blk_put (cs := #[(.slice (some ⟨b0, 0, none⟩) l0.length c0), (.slice (some ⟨b1, 0, none⟩) l1.length c1), .int .i64 0]) ?_ 2 _ rfl; refine blk_put (cs := #[(.slice (some ⟨b0, 0, none⟩) l0.length c0), .slice none 0 0, .int .i64 0]) ?_ 1 _ rfl; refine blk_put (cs := #[.slice none 0 0, .slice none 0 0, .int .i64 0]) ?_ 0 _ rfl; exact HS2.out.2.2.1) Try.underlying26 rfl (by kernel_rfl)) rfl ?_
  exact ⟨rfl, LS_fin HS2.out⟩
set_option maxHeartbeats 4000000 in
set_option maxRecDepth 100000 in
theorem h_l16_K1a (w0 w : World) (b0 b1 c0 c1 : Nat) (l0 l1 : List Int) (q kind part other p : Int) (hR : ComR w0 w (.slice (some ⟨b0, 0, none⟩) l0.length c0) (.slice (some ⟨b1, 0, none⟩) l1.length c1) l0 l1) (hn : 1 ≤ l0.length) (hn5 : l0.length ≤ 5) (he : l1.length = l0.length) (h0 : 0 ≤ part) (h1 : part < l0.length) (hp : rd l0 part = 0) :
    Calls Try.prog 23 #[.agg #[(.slice (some ⟨b0, 0, none⟩) l0.length c0), (.slice (some ⟨b1, 0, none⟩) l1.length c1), .int .i64 0], .agg #[.int .i64 1, .int .i64 part, .int .i64 0]] w fun e w' => e = .returned (.tuple #[.agg #[(.slice (some ⟨b0, 0, none⟩) l0.length c0), (.slice (some ⟨b1, 0, none⟩) l1.length c1), .int .i64 0], .bool true]) ∧ ComR w0 w' (.slice (some ⟨b0, 0, none⟩) l0.length c0) (.slice (some ⟨b1, 0, none⟩) l1.length c1) (l0.set part.toNat 1) (l1.set part.toNat 1) ∧ Kept w w' (fun k => some k = ((.slice (some ⟨b0, 0, none⟩) l0.length c0) : Value).ownBlock ∨ some k = ((.slice (some ⟨b1, 0, none⟩) l1.length c1) : Value).ownBlock) := by
  have HR := Aside0.mk hR
  have HE := Aside0.mk he
  have HN := Aside0.mk hn
  clear hR he
  have HI0 := Aside0.mk h0
  have HI1 := Aside0.mk h1
  have HIp := Aside0.mk (show (decide ((0 : Int) ≤ part) && decide (part ≤ (l0.length : Int) - 1)) = true by simp; omega)
  have HIz := Aside0.mk (show (decide ((0 : Int) ≤ 0) && decide ((0 : Int) ≤ (l0.length : Int) - 1)) = true by simp; omega)
  have q0_ := eq_true h0
  have q1_ := eq_true h1
  have q4_ : (part < (l1.length : Int)) = True := eq_true (by rw [HE.out]; exact h1)
  have HP := Aside0.mk hp
  clear h0 h1 hp
  go_enter Try.func23, Try.ntmps23
  go_wp2_with (first | ((with_reducible refine gate_dst (N := 2) rfl ?_); refine box_event ?hg (N := 2) ?hd (cs := #[(.slice (some ⟨b0, 0, none⟩) l0.length c0), (.slice (some ⟨b1, 0, none⟩) l1.length c1), .int .i64 0]) (t := 26) ?hr ?_; (case hd => rfl); (case hg => rfl); (case hr => first | (go_simp; done) | (go_simp; rfl)); intro g2 hg2 wa xg2 yg2; have Xg2 := Aside0.mk xg2; have Yg2 := Aside0.mk yg2; have Gg2 := Aside0.mk hg2; clear hg2 xg2 yg2) | ((with_reducible refine gate_dst (N := 3) rfl ?_); refine box_event ?hg (N := 3) ?hd (cs := #[.int .i64 1, .int .i64 part, .int .i64 0]) (t := 50) ?hr ?_; (case hd => rfl); (case hg => rfl); (case hr => first | (go_simp; done) | (go_simp; rfl)); intro g3 hg3 wb xg3 yg3; have Xg3 := Aside0.mk xg3; have Yg3 := Aside0.mk yg3; have Gg3 := Aside0.mk hg3; clear hg3 xg3 yg3) | ((with_reducible refine gate_dst (N := 4) rfl ?_); refine box_event ?hg (N := 4) ?hd (cs := #[.slice none 0 0, .slice none 0 0, .int .i64 0]) (t := 26) ?hr ?_; (case hd => rfl); (case hg => rfl); (case hr => first | (go_simp; done) | (go_simp; rfl)); intro g4 hg4 w3 xg4 yg4; have Xg4 := Aside0.mk xg4; have Yg4 := Aside0.mk yg4; have Gg4 := Aside0.mk hg4; clear hg4 xg4 yg4; have HS0 := Aside0.mk (LS_new HR.out Gg2.out Xg2.out Yg2.out Xg3.out Yg3.out Gg4.out Xg4.out Yg4.out); clear Xg2 Yg2 Gg2 Xg3 Yg3 Gg3 Xg4 Yg4 Gg4; obtain ⟨hx20, hx21, hx22, hx30, hx31, hx32, hx40, hx41, hx42, hf40, hf41, hf42, hf22⟩ := LS_c HS0.out; obtain ⟨hy, hyf⟩ := LS_at0 HS0.out HP.out HI0.out HI1.out; obtain ⟨hy1, hyf1⟩ := LS_at1 HS0.out (rfl : rd l1 part = rd l1 part) HI0.out (by rw [HE.out]; exact HI1.out)) | (go_at_call 38; (with_reducible refine (h_sin part 0 ((l0.length : Int) - 1) _ true HIp.out).mono ?_); rintro e w4 ⟨rfl, hd⟩; have HS1 := Aside0.mk (LS_below HS0.out hd.below); clear hd; clear hx20 hx21 hx22 hx30 hx31 hx32 hx40 hx41 hx42 hf40 hf41 hf42 hf22; (try clear hy); (try clear hyf); (try clear hy1); (try clear hyf1); (try clear hyo); (try clear hyfo); clear HS0; obtain ⟨hx20, hx21, hx22, hx30, hx31, hx32, hx40, hx41, hx42, hf40, hf41, hf42, hf22⟩ := LS_c HS1.out; obtain ⟨hy, hyf⟩ := LS_at0 HS1.out HP.out HI0.out HI1.out; obtain ⟨hy1, hyf1⟩ := LS_at1 HS1.out (rfl : rd l1 part = rd l1 part) HI0.out (by rw [HE.out]; exact HI1.out)) | (go_at_call 38; (with_reducible refine (h_sin 0 0 ((l0.length : Int) - 1) _ true HIz.out).mono ?_); rintro e w5 ⟨rfl, hd⟩; have HS2 := Aside0.mk (LS_below HS1.out hd.below); clear hd; clear hx20 hx21 hx22 hx30 hx31 hx32 hx40 hx41 hx42 hf40 hf41 hf42 hf22; (try clear hy); (try clear hyf); (try clear hy1); (try clear hyf1); (try clear hyo); (try clear hyfo); clear HS1; obtain ⟨hx20, hx21, hx22, hx30, hx31, hx32, hx40, hx41, hx42, hf40, hf41, hf42, hf22⟩ := LS_c HS2.out; obtain ⟨hy, hyf⟩ := LS_at0 HS2.out HP.out HI0.out HI1.out; obtain ⟨hy1, hyf1⟩ := LS_at1 HS2.out (rfl : rd l1 part = rd l1 part) HI0.out (by rw [HE.out]; exact HI1.out)) | ((with_reducible refine gate_store (t := 3) (p := 60) rfl ?_); refine store_event (t := 3) (p := 60) (v := ?vo3) (w1 := (w5.setCell ⟨b0, part.toNat, none⟩ (.int .i64 1))) ?hg ?ho ?hn ?hr ?_; (case ho => rfl); (case hg => rfl); (case hn => rfl); (case hr => first | (go_simp; done) | (go_simp; rfl)); intro w6 hw; have HS3 := Aside0.mk (LS_put0 HS2.out part 1 : LS w0 w (w5.setCell ⟨b0, part.toNat, none⟩ (.int .i64 1)) g2 g3 g4 (.slice (some ⟨b0, 0, none⟩) l0.length c0) (.slice (some ⟨b1, 0, none⟩) l1.length c1) (l0.set part.toNat 1) l1 0 1 part 0); rw [← hw] at HS3; clear hw; clear hx20 hx21 hx22 hx30 hx31 hx32 hx40 hx41 hx42 hf40 hf41 hf42 hf22; (try clear hy); (try clear hyf); (try clear hy1); (try clear hyf1); (try clear hyo); (try clear hyfo); clear HS2; obtain ⟨hx20, hx21, hx22, hx30, hx31, hx32, hx40, hx41, hx42, hf40, hf41, hf42, hf22⟩ := LS_c HS3.out; obtain ⟨hy1, hyf1⟩ := LS_at1 HS3.out (rfl : rd l1 part = rd l1 part) HI0.out (by rw [HE.out]; exact HI1.out)) | ((with_reducible refine gate_store (t := 3) (p := 65) rfl ?_); refine store_event (t := 3) (p := 65) (v := ?vo4) (w1 := (w6.setCell ⟨b1, part.toNat, none⟩ (.int .i64 1))) ?hg ?ho ?hn ?hr ?_; (case ho => rfl); (case hg => rfl); (case hn => rfl); (case hr => first | (go_simp; done) | (go_simp; rfl)); intro w7 hw; have HS4 := Aside0.mk (LS_put1 HS3.out part 1 : LS w0 w (w6.setCell ⟨b1, part.toNat, none⟩ (.int .i64 1)) g2 g3 g4 (.slice (some ⟨b0, 0, none⟩) l0.length c0) (.slice (some ⟨b1, 0, none⟩) l1.length c1) (l0.set part.toNat 1) (l1.set part.toNat 1) 0 1 part 0); rw [← hw] at HS4; clear hw; clear hx20 hx21 hx22 hx30 hx31 hx32 hx40 hx41 hx42 hf40 hf41 hf42 hf22; (try clear hy); (try clear hyf); (try clear hy1); (try clear hyf1); (try clear hyo); (try clear hyfo); clear HS3; obtain ⟨hx20, hx21, hx22, hx30, hx31, hx32, hx40, hx41, hx42, hf40, hf41, hf42, hf22⟩ := LS_c HS4.out))
  refine bodyPost_ret (results_ct rfl _ _ g4 26 #[(.slice (some ⟨b0, 0, none⟩) l0.length c0), (.slice (some ⟨b1, 0, none⟩) l1.length c1), .int .i64 0] (0, 0) _ rfl (by refine blk_put (cs := #[(.slice (some ⟨b0, 0, none⟩) l0.length c0), (.slice (some ⟨b1, 0, none⟩) l1.length c1), .int .i64 0]) ?_ 2 _ rfl; refine blk_put (cs := #[(.slice (some ⟨b0, 0, none⟩) l0.length c0), .slice none 0 0, .int .i64 0]) ?_ 1 _ rfl; refine blk_put (cs := #[.slice none 0 0, .slice none 0 0, .int .i64 0]) ?_ 0 _ rfl; exact HS4.out.2.2.1) Try.underlying26 rfl (by kernel_rfl)) rfl ?_
  exact ⟨rfl, LS_fin HS4.out⟩
set_option maxHeartbeats 4000000 in
set_option maxRecDepth 100000 in
theorem h_l16_K1b (w0 w : World) (b0 b1 c0 c1 : Nat) (l0 l1 : List Int) (q kind part other p : Int) (hR : ComR w0 w (.slice (some ⟨b0, 0, none⟩) l0.length c0) (.slice (some ⟨b1, 0, none⟩) l1.length c1) l0 l1) (hn : 1 ≤ l0.length) (hn5 : l0.length ≤ 5) (he : l1.length = l0.length) (h0 : 0 ≤ part) (h1 : part < l0.length) (hp : rd l0 part = 0) (hq : (q == 0) = false) :
    Calls Try.prog 23 #[.agg #[(.slice (some ⟨b0, 0, none⟩) l0.length c0), (.slice (some ⟨b1, 0, none⟩) l1.length c1), .int .i64 q], .agg #[.int .i64 1, .int .i64 part, .int .i64 0]] w fun e w' => e = .returned (.tuple #[.agg #[(.slice (some ⟨b0, 0, none⟩) l0.length c0), (.slice (some ⟨b1, 0, none⟩) l1.length c1), .int .i64 q], .bool false]) ∧ ComR w0 w' (.slice (some ⟨b0, 0, none⟩) l0.length c0) (.slice (some ⟨b1, 0, none⟩) l1.length c1) l0 l1 ∧ Kept w w' (fun k => some k = ((.slice (some ⟨b0, 0, none⟩) l0.length c0) : Value).ownBlock ∨ some k = ((.slice (some ⟨b1, 0, none⟩) l1.length c1) : Value).ownBlock) := by
  have HR := Aside0.mk hR
  have HE := Aside0.mk he
  have HN := Aside0.mk hn
  clear hR he
  have HI0 := Aside0.mk h0
  have HI1 := Aside0.mk h1
  have HIp := Aside0.mk (show (decide ((0 : Int) ≤ part) && decide (part ≤ (l0.length : Int) - 1)) = true by simp; omega)
  have HIz := Aside0.mk (show (decide ((0 : Int) ≤ 0) && decide ((0 : Int) ≤ (l0.length : Int) - 1)) = true by simp; omega)
  have q0_ := eq_true h0
  have q1_ := eq_true h1
  have q4_ : (part < (l1.length : Int)) = True := eq_true (by rw [HE.out]; exact h1)
  have HP := Aside0.mk hp
  clear h0 h1 hp
  go_enter Try.func23, Try.ntmps23
  go_wp2_with (first | ((with_reducible refine gate_dst (N := 2) rfl ?_); refine box_event ?hg (N := 2) ?hd (cs := #[(.slice (some ⟨b0, 0, none⟩) l0.length c0), (.slice (some ⟨b1, 0, none⟩) l1.length c1), .int .i64 q]) (t := 26) ?hr ?_; (case hd => rfl); (case hg => rfl); (case hr => first | (go_simp; done) | (go_simp; rfl)); intro g2 hg2 wa xg2 yg2; have Xg2 := Aside0.mk xg2; have Yg2 := Aside0.mk yg2; have Gg2 := Aside0.mk hg2; clear hg2 xg2 yg2) | ((with_reducible refine gate_dst (N := 3) rfl ?_); refine box_event ?hg (N := 3) ?hd (cs := #[.int .i64 1, .int .i64 part, .int .i64 0]) (t := 50) ?hr ?_; (case hd => rfl); (case hg => rfl); (case hr => first | (go_simp; done) | (go_simp; rfl)); intro g3 hg3 wb xg3 yg3; have Xg3 := Aside0.mk xg3; have Yg3 := Aside0.mk yg3; have Gg3 := Aside0.mk hg3; clear hg3 xg3 yg3) | ((with_reducible refine gate_dst (N := 4) rfl ?_); refine box_event ?hg (N := 4) ?hd (cs := #[.slice none 0 0, .slice none 0 0, .int .i64 0]) (t := 26) ?hr ?_; (case hd => rfl); (case hg => rfl); (case hr => first | (go_simp; done) | (go_simp; rfl)); intro g4 hg4 w3 xg4 yg4; have Xg4 := Aside0.mk xg4; have Yg4 := Aside0.mk yg4; have Gg4 := Aside0.mk hg4; clear hg4 xg4 yg4; have HS0 := Aside0.mk (LS_new HR.out Gg2.out Xg2.out Yg2.out Xg3.out Yg3.out Gg4.out Xg4.out Yg4.out); clear Xg2 Yg2 Gg2 Xg3 Yg3 Gg3 Xg4 Yg4 Gg4; obtain ⟨hx20, hx21, hx22, hx30, hx31, hx32, hx40, hx41, hx42, hf40, hf41, hf42, hf22⟩ := LS_c HS0.out; obtain ⟨hy, hyf⟩ := LS_at0 HS0.out HP.out HI0.out HI1.out) | (go_at_call 38; (with_reducible refine (h_sin part 0 ((l0.length : Int) - 1) _ true HIp.out).mono ?_); rintro e w4 ⟨rfl, hd⟩; have HS1 := Aside0.mk (LS_below HS0.out hd.below); clear hd; clear hx20 hx21 hx22 hx30 hx31 hx32 hx40 hx41 hx42 hf40 hf41 hf42 hf22; (try clear hy); (try clear hyf); (try clear hy1); (try clear hyf1); (try clear hyo); (try clear hyfo); clear HS0; obtain ⟨hx20, hx21, hx22, hx30, hx31, hx32, hx40, hx41, hx42, hf40, hf41, hf42, hf22⟩ := LS_c HS1.out; obtain ⟨hy, hyf⟩ := LS_at0 HS1.out HP.out HI0.out HI1.out) | (go_at_call 38; (with_reducible refine (h_sin 0 0 ((l0.length : Int) - 1) _ true HIz.out).mono ?_); rintro e w5 ⟨rfl, hd⟩; have HS2 := Aside0.mk (LS_below HS1.out hd.below); clear hd; clear hx20 hx21 hx22 hx30 hx31 hx32 hx40 hx41 hx42 hf40 hf41 hf42 hf22; (try clear hy); (try clear hyf); (try clear hy1); (try clear hyf1); (try clear hyo); (try clear hyfo); clear HS1; obtain ⟨hx20, hx21, hx22, hx30, hx31, hx32, hx40, hx41, hx42, hf40, hf41, hf42, hf22⟩ := LS_c HS2.out; obtain ⟨hy, hyf⟩ := LS_at0 HS2.out HP.out HI0.out HI1.out))
  refine bodyPost_ret (results_ct rfl _ _ g4 26 #[(.slice (some ⟨b0, 0, none⟩) l0.length c0), (.slice (some ⟨b1, 0, none⟩) l1.length c1), .int .i64 q] (0, 0) _ rfl (by refine blk_put (cs := #[(.slice (some ⟨b0, 0, none⟩) l0.length c0), (.slice (some ⟨b1, 0, none⟩) l1.length c1), .int .i64 0]) ?_ 2 _ rfl; refine blk_put (cs := #[(.slice (some ⟨b0, 0, none⟩) l0.length c0), .slice none 0 0, .int .i64 0]) ?_ 1 _ rfl; refine blk_put (cs := #[.slice none 0 0, .slice none 0 0, .int .i64 0]) ?_ 0 _ rfl; exact HS2.out.2.2.1) Try.underlying26 rfl (by kernel_rfl)) rfl ?_
  exact ⟨rfl, LS_fin HS2.out⟩
set_option maxHeartbeats 4000000 in
set_option maxRecDepth 100000 in
theorem h_l16_K1c (w0 w : World) (b0 b1 c0 c1 : Nat) (l0 l1 : List Int) (q kind part other p : Int) (hR : ComR w0 w (.slice (some ⟨b0, 0, none⟩) l0.length c0) (.slice (some ⟨b1, 0, none⟩) l1.length c1) l0 l1) (hn : 1 ≤ l0.length) (hn5 : l0.length ≤ 5) (he : l1.length = l0.length) (h0 : 0 ≤ part) (h1 : part < l0.length) (hp : rd l0 part = p) (hz : (p == 0) = false) :
    Calls Try.prog 23 #[.agg #[(.slice (some ⟨b0, 0, none⟩) l0.length c0), (.slice (some ⟨b1, 0, none⟩) l1.length c1), .int .i64 q], .agg #[.int .i64 1, .int .i64 part, .int .i64 0]] w fun e w' => e = .returned (.tuple #[.agg #[(.slice (some ⟨b0, 0, none⟩) l0.length c0), (.slice (some ⟨b1, 0, none⟩) l1.length c1), .int .i64 q], .bool false]) ∧ ComR w0 w' (.slice (some ⟨b0, 0, none⟩) l0.length c0) (.slice (some ⟨b1, 0, none⟩) l1.length c1) l0 l1 ∧ Kept w w' (fun k => some k = ((.slice (some ⟨b0, 0, none⟩) l0.length c0) : Value).ownBlock ∨ some k = ((.slice (some ⟨b1, 0, none⟩) l1.length c1) : Value).ownBlock) := by
  have HR := Aside0.mk hR
  have HE := Aside0.mk he
  have HN := Aside0.mk hn
  clear hR he
  have HI0 := Aside0.mk h0
  have HI1 := Aside0.mk h1
  have HIp := Aside0.mk (show (decide ((0 : Int) ≤ part) && decide (part ≤ (l0.length : Int) - 1)) = true by simp; omega)
  have HIz := Aside0.mk (show (decide ((0 : Int) ≤ 0) && decide ((0 : Int) ≤ (l0.length : Int) - 1)) = true by simp; omega)
  have q0_ := eq_true h0
  have q1_ := eq_true h1
  have q4_ : (part < (l1.length : Int)) = True := eq_true (by rw [HE.out]; exact h1)
  have HP := Aside0.mk hp
  clear h0 h1 hp
  go_enter Try.func23, Try.ntmps23
  go_wp2_with (first | ((with_reducible refine gate_dst (N := 2) rfl ?_); refine box_event ?hg (N := 2) ?hd (cs := #[(.slice (some ⟨b0, 0, none⟩) l0.length c0), (.slice (some ⟨b1, 0, none⟩) l1.length c1), .int .i64 q]) (t := 26) ?hr ?_; (case hd => rfl); (case hg => rfl); (case hr => first | (go_simp; done) | (go_simp; rfl)); intro g2 hg2 wa xg2 yg2; have Xg2 := Aside0.mk xg2; have Yg2 := Aside0.mk yg2; have Gg2 := Aside0.mk hg2; clear hg2 xg2 yg2) | ((with_reducible refine gate_dst (N := 3) rfl ?_); refine box_event ?hg (N := 3) ?hd (cs := #[.int .i64 1, .int .i64 part, .int .i64 0]) (t := 50) ?hr ?_; (case hd => rfl); (case hg => rfl); (case hr => first | (go_simp; done) | (go_simp; rfl)); intro g3 hg3 wb xg3 yg3; have Xg3 := Aside0.mk xg3; have Yg3 := Aside0.mk yg3; have Gg3 := Aside0.mk hg3; clear hg3 xg3 yg3) | ((with_reducible refine gate_dst (N := 4) rfl ?_); refine box_event ?hg (N := 4) ?hd (cs := #[.slice none 0 0, .slice none 0 0, .int .i64 0]) (t := 26) ?hr ?_; (case hd => rfl); (case hg => rfl); (case hr => first | (go_simp; done) | (go_simp; rfl)); intro g4 hg4 w3 xg4 yg4; have Xg4 := Aside0.mk xg4; have Yg4 := Aside0.mk yg4; have Gg4 := Aside0.mk hg4; clear hg4 xg4 yg4; have HS0 := Aside0.mk (LS_new HR.out Gg2.out Xg2.out Yg2.out Xg3.out Yg3.out Gg4.out Xg4.out Yg4.out); clear Xg2 Yg2 Gg2 Xg3 Yg3 Gg3 Xg4 Yg4 Gg4; obtain ⟨hx20, hx21, hx22, hx30, hx31, hx32, hx40, hx41, hx42, hf40, hf41, hf42, hf22⟩ := LS_c HS0.out; obtain ⟨hy, hyf⟩ := LS_at0 HS0.out HP.out HI0.out HI1.out) | (go_at_call 38; (with_reducible refine (h_sin part 0 ((l0.length : Int) - 1) _ true HIp.out).mono ?_); rintro e w4 ⟨rfl, hd⟩; have HS1 := Aside0.mk (LS_below HS0.out hd.below); clear hd; clear hx20 hx21 hx22 hx30 hx31 hx32 hx40 hx41 hx42 hf40 hf41 hf42 hf22; (try clear hy); (try clear hyf); (try clear hy1); (try clear hyf1); (try clear hyo); (try clear hyfo); clear HS0; obtain ⟨hx20, hx21, hx22, hx30, hx31, hx32, hx40, hx41, hx42, hf40, hf41, hf42, hf22⟩ := LS_c HS1.out; obtain ⟨hy, hyf⟩ := LS_at0 HS1.out HP.out HI0.out HI1.out) | (go_at_call 38; (with_reducible refine (h_sin 0 0 ((l0.length : Int) - 1) _ true HIz.out).mono ?_); rintro e w5 ⟨rfl, hd⟩; have HS2 := Aside0.mk (LS_below HS1.out hd.below); clear hd; clear hx20 hx21 hx22 hx30 hx31 hx32 hx40 hx41 hx42 hf40 hf41 hf42 hf22; (try clear hy); (try clear hyf); (try clear hy1); (try clear hyf1); (try clear hyo); (try clear hyfo); clear HS1; obtain ⟨hx20, hx21, hx22, hx30, hx31, hx32, hx40, hx41, hx42, hf40, hf41, hf42, hf22⟩ := LS_c HS2.out; obtain ⟨hy, hyf⟩ := LS_at0 HS2.out HP.out HI0.out HI1.out))
  refine bodyPost_ret (results_ct rfl _ _ g4 26 #[(.slice (some ⟨b0, 0, none⟩) l0.length c0), (.slice (some ⟨b1, 0, none⟩) l1.length c1), .int .i64 q] (0, 0) _ rfl (by refine blk_put (cs := #[(.slice (some ⟨b0, 0, none⟩) l0.length c0), (.slice (some ⟨b1, 0, none⟩) l1.length c1), .int .i64 0]) ?_ 2 _ rfl; refine blk_put (cs := #[(.slice (some ⟨b0, 0, none⟩) l0.length c0), .slice none 0 0, .int .i64 0]) ?_ 1 _ rfl; refine blk_put (cs := #[.slice none 0 0, .slice none 0 0, .int .i64 0]) ?_ 0 _ rfl; exact HS2.out.2.2.1) Try.underlying26 rfl (by kernel_rfl)) rfl ?_
  exact ⟨rfl, LS_fin HS2.out⟩
set_option maxHeartbeats 4000000 in
set_option maxRecDepth 100000 in
theorem h_l16_K2a (w0 w : World) (b0 b1 c0 c1 : Nat) (l0 l1 : List Int) (q kind part other p : Int) (hR : ComR w0 w (.slice (some ⟨b0, 0, none⟩) l0.length c0) (.slice (some ⟨b1, 0, none⟩) l1.length c1) l0 l1) (hn : 1 ≤ l0.length) (hn5 : l0.length ≤ 5) (he : l1.length = l0.length) (h0 : 0 ≤ part) (h1 : part < l0.length) (hp : rd l0 part = 0) (hq : (q != 1) = true) :
    Calls Try.prog 23 #[.agg #[(.slice (some ⟨b0, 0, none⟩) l0.length c0), (.slice (some ⟨b1, 0, none⟩) l1.length c1), .int .i64 q], .agg #[.int .i64 2, .int .i64 part, .int .i64 0]] w fun e w' => e = .returned (.tuple #[.agg #[(.slice (some ⟨b0, 0, none⟩) l0.length c0), (.slice (some ⟨b1, 0, none⟩) l1.length c1), .int .i64 q], .bool true]) ∧ ComR w0 w' (.slice (some ⟨b0, 0, none⟩) l0.length c0) (.slice (some ⟨b1, 0, none⟩) l1.length c1) (l0.set part.toNat 3) (l1.set part.toNat 2) ∧ Kept w w' (fun k => some k = ((.slice (some ⟨b0, 0, none⟩) l0.length c0) : Value).ownBlock ∨ some k = ((.slice (some ⟨b1, 0, none⟩) l1.length c1) : Value).ownBlock) := by
  have HR := Aside0.mk hR
  have HE := Aside0.mk he
  have HN := Aside0.mk hn
  clear hR he
  have HI0 := Aside0.mk h0
  have HI1 := Aside0.mk h1
  have HIp := Aside0.mk (show (decide ((0 : Int) ≤ part) && decide (part ≤ (l0.length : Int) - 1)) = true by simp; omega)
  have HIz := Aside0.mk (show (decide ((0 : Int) ≤ 0) && decide ((0 : Int) ≤ (l0.length : Int) - 1)) = true by simp; omega)
  have q0_ := eq_true h0
  have q1_ := eq_true h1
  have q4_ : (part < (l1.length : Int)) = True := eq_true (by rw [HE.out]; exact h1)
  have HP := Aside0.mk hp
  clear h0 h1 hp
  go_enter Try.func23, Try.ntmps23
  go_wp2_with (first | ((with_reducible refine gate_dst (N := 2) rfl ?_); refine box_event ?hg (N := 2) ?hd (cs := #[(.slice (some ⟨b0, 0, none⟩) l0.length c0), (.slice (some ⟨b1, 0, none⟩) l1.length c1), .int .i64 q]) (t := 26) ?hr ?_; (case hd => rfl); (case hg => rfl); (case hr => first | (go_simp; done) | (go_simp; rfl)); intro g2 hg2 wa xg2 yg2; have Xg2 := Aside0.mk xg2; have Yg2 := Aside0.mk yg2; have Gg2 := Aside0.mk hg2; clear hg2 xg2 yg2) | ((with_reducible refine gate_dst (N := 3) rfl ?_); refine box_event ?hg (N := 3) ?hd (cs := #[.int .i64 2, .int .i64 part, .int .i64 0]) (t := 50) ?hr ?_; (case hd => rfl); (case hg => rfl); (case hr => first | (go_simp; done) | (go_simp; rfl)); intro g3 hg3 wb xg3 yg3; have Xg3 := Aside0.mk xg3; have Yg3 := Aside0.mk yg3; have Gg3 := Aside0.mk hg3; clear hg3 xg3 yg3) | ((with_reducible refine gate_dst (N := 4) rfl ?_); refine box_event ?hg (N := 4) ?hd (cs := #[.slice none 0 0, .slice none 0 0, .int .i64 0]) (t := 26) ?hr ?_; (case hd => rfl); (case hg => rfl); (case hr => first | (go_simp; done) | (go_simp; rfl)); intro g4 hg4 w3 xg4 yg4; have Xg4 := Aside0.mk xg4; have Yg4 := Aside0.mk yg4; have Gg4 := Aside0.mk hg4; clear hg4 xg4 yg4; have HS0 := Aside0.mk (LS_new HR.out Gg2.out Xg2.out Yg2.out Xg3.out Yg3.out Gg4.out Xg4.out Yg4.out); clear Xg2 Yg2 Gg2 Xg3 Yg3 Gg3 Xg4 Yg4 Gg4; obtain ⟨hx20, hx21, hx22, hx30, hx31, hx32, hx40, hx41, hx42, hf40, hf41, hf42, hf22⟩ := LS_c HS0.out; obtain ⟨hy, hyf⟩ := LS_at0 HS0.out HP.out HI0.out HI1.out; obtain ⟨hy1, hyf1⟩ := LS_at1 HS0.out (rfl : rd l1 part = rd l1 part) HI0.out (by rw [HE.out]; exact HI1.out)) | (go_at_call 38; (with_reducible refine (h_sin part 0 ((l0.length : Int) - 1) _ true HIp.out).mono ?_); rintro e w4 ⟨rfl, hd⟩; have HS1 := Aside0.mk (LS_below HS0.out hd.below); clear hd; clear hx20 hx21 hx22 hx30 hx31 hx32 hx40 hx41 hx42 hf40 hf41 hf42 hf22; (try clear hy); (try clear hyf); (try clear hy1); (try clear hyf1); (try clear hyo); (try clear hyfo); clear HS0; obtain ⟨hx20, hx21, hx22, hx30, hx31, hx32, hx40, hx41, hx42, hf40, hf41, hf42, hf22⟩ := LS_c HS1.out; obtain ⟨hy, hyf⟩ := LS_at0 HS1.out HP.out HI0.out HI1.out; obtain ⟨hy1, hyf1⟩ := LS_at1 HS1.out (rfl : rd l1 part = rd l1 part) HI0.out (by rw [HE.out]; exact HI1.out)) | (go_at_call 38; (with_reducible refine (h_sin 0 0 ((l0.length : Int) - 1) _ true HIz.out).mono ?_); rintro e w5 ⟨rfl, hd⟩; have HS2 := Aside0.mk (LS_below HS1.out hd.below); clear hd; clear hx20 hx21 hx22 hx30 hx31 hx32 hx40 hx41 hx42 hf40 hf41 hf42 hf22; (try clear hy); (try clear hyf); (try clear hy1); (try clear hyf1); (try clear hyo); (try clear hyfo); clear HS1; obtain ⟨hx20, hx21, hx22, hx30, hx31, hx32, hx40, hx41, hx42, hf40, hf41, hf42, hf22⟩ := LS_c HS2.out; obtain ⟨hy, hyf⟩ := LS_at0 HS2.out HP.out HI0.out HI1.out; obtain ⟨hy1, hyf1⟩ := LS_at1 HS2.out (rfl : rd l1 part = rd l1 part) HI0.out (by rw [HE.out]; exact HI1.out)) | ((with_reducible refine gate_store (t := 3) (p := 83) rfl ?_); refine store_event (t := 3) (p := 83) (v := ?vo3) (w1 := (w5.setCell ⟨b0, part.toNat, none⟩ (.int .i64 3))) ?hg ?ho ?hn ?hr ?_; (case ho => rfl); (case hg => rfl); (case hn => rfl); (case hr => first | (go_simp; done) | (go_simp; rfl)); intro w6 hw; have HS3 := Aside0.mk (LS_put0 HS2.out part 3 : LS w0 w (w5.setCell ⟨b0, part.toNat, none⟩ (.int .i64 3)) g2 g3 g4 (.slice (some ⟨b0, 0, none⟩) l0.length c0) (.slice (some ⟨b1, 0, none⟩) l1.length c1) (l0.set part.toNat 3) l1 q 2 part 0); rw [← hw] at HS3; clear hw; clear hx20 hx21 hx22 hx30 hx31 hx32 hx40 hx41 hx42 hf40 hf41 hf42 hf22; (try clear hy); (try clear hyf); (try clear hy1); (try clear hyf1); (try clear hyo); (try clear hyfo); clear HS2; obtain ⟨hx20, hx21, hx22, hx30, hx31, hx32, hx40, hx41, hx42, hf40, hf41, hf42, hf22⟩ := LS_c HS3.out; obtain ⟨hy1, hyf1⟩ := LS_at1 HS3.out (rfl : rd l1 part = rd l1 part) HI0.out (by rw [HE.out]; exact HI1.out)) | ((with_reducible refine gate_store (t := 3) (p := 88) rfl ?_); refine store_event (t := 3) (p := 88) (v := ?vo4) (w1 := (w6.setCell ⟨b1, part.toNat, none⟩ (.int .i64 2))) ?hg ?ho ?hn ?hr ?_; (case ho => rfl); (case hg => rfl); (case hn => rfl); (case hr => first | (go_simp; done) | (go_simp; rfl)); intro w7 hw; have HS4 := Aside0.mk (LS_put1 HS3.out part 2 : LS w0 w (w6.setCell ⟨b1, part.toNat, none⟩ (.int .i64 2)) g2 g3 g4 (.slice (some ⟨b0, 0, none⟩) l0.length c0) (.slice (some ⟨b1, 0, none⟩) l1.length c1) (l0.set part.toNat 3) (l1.set part.toNat 2) q 2 part 0); rw [← hw] at HS4; clear hw; clear hx20 hx21 hx22 hx30 hx31 hx32 hx40 hx41 hx42 hf40 hf41 hf42 hf22; (try clear hy); (try clear hyf); (try clear hy1); (try clear hyf1); (try clear hyo); (try clear hyfo); clear HS3; obtain ⟨hx20, hx21, hx22, hx30, hx31, hx32, hx40, hx41, hx42, hf40, hf41, hf42, hf22⟩ := LS_c HS4.out))
  refine bodyPost_ret (results_ct rfl _ _ g4 26 #[(.slice (some ⟨b0, 0, none⟩) l0.length c0), (.slice (some ⟨b1, 0, none⟩) l1.length c1), .int .i64 q] (0, 0) _ rfl (by refine blk_put (cs := #[(.slice (some ⟨b0, 0, none⟩) l0.length c0), (.slice (some ⟨b1, 0, none⟩) l1.length c1), .int .i64 0]) ?_ 2 _ rfl; refine blk_put (cs := #[(.slice (some ⟨b0, 0, none⟩) l0.length c0), .slice none 0 0, .int .i64 0]) ?_ 1 _ rfl; refine blk_put (cs := #[.slice none 0 0, .slice none 0 0, .int .i64 0]) ?_ 0 _ rfl; exact HS4.out.2.2.1) Try.underlying26 rfl (by kernel_rfl)) rfl ?_
  exact ⟨rfl, LS_fin HS4.out⟩
set_option maxHeartbeats 4000000 in
set_option maxRecDepth 100000 in
theorem h_l16_K2b (w0 w : World) (b0 b1 c0 c1 : Nat) (l0 l1 : List Int) (q kind part other p : Int) (hR : ComR w0 w (.slice (some ⟨b0, 0, none⟩) l0.length c0) (.slice (some ⟨b1, 0, none⟩) l1.length c1) l0 l1) (hn : 1 ≤ l0.length) (hn5 : l0.length ≤ 5) (he : l1.length = l0.length) (h0 : 0 ≤ part) (h1 : part < l0.length) (hp : rd l0 part = 0) :
    Calls Try.prog 23 #[.agg #[(.slice (some ⟨b0, 0, none⟩) l0.length c0), (.slice (some ⟨b1, 0, none⟩) l1.length c1), .int .i64 1], .agg #[.int .i64 2, .int .i64 part, .int .i64 0]] w fun e w' => e = .returned (.tuple #[.agg #[(.slice (some ⟨b0, 0, none⟩) l0.length c0), (.slice (some ⟨b1, 0, none⟩) l1.length c1), .int .i64 1], .bool false]) ∧ ComR w0 w' (.slice (some ⟨b0, 0, none⟩) l0.length c0) (.slice (some ⟨b1, 0, none⟩) l1.length c1) l0 l1 ∧ Kept w w' (fun k => some k = ((.slice (some ⟨b0, 0, none⟩) l0.length c0) : Value).ownBlock ∨ some k = ((.slice (some ⟨b1, 0, none⟩) l1.length c1) : Value).ownBlock) := by
  have HR := Aside0.mk hR
  have HE := Aside0.mk he
  have HN := Aside0.mk hn
  clear hR he
  have HI0 := Aside0.mk h0
  have HI1 := Aside0.mk h1
  have HIp := Aside0.mk (show (decide ((0 : Int) ≤ part) && decide (part ≤ (l0.length : Int) - 1)) = true by simp; omega)
  have HIz := Aside0.mk (show (decide ((0 : Int) ≤ 0) && decide ((0 : Int) ≤ (l0.length : Int) - 1)) = true by simp; omega)
  have q0_ := eq_true h0
  have q1_ := eq_true h1
  have q4_ : (part < (l1.length : Int)) = True := eq_true (by rw [HE.out]; exact h1)
  have HP := Aside0.mk hp
  clear h0 h1 hp
  go_enter Try.func23, Try.ntmps23
  go_wp2_with (first | ((with_reducible refine gate_dst (N := 2) rfl ?_); refine box_event ?hg (N := 2) ?hd (cs := #[(.slice (some ⟨b0, 0, none⟩) l0.length c0), (.slice (some ⟨b1, 0, none⟩) l1.length c1), .int .i64 1]) (t := 26) ?hr ?_; (case hd => rfl); (case hg => rfl); (case hr => first | (go_simp; done) | (go_simp; rfl)); intro g2 hg2 wa xg2 yg2; have Xg2 := Aside0.mk xg2; have Yg2 := Aside0.mk yg2; have Gg2 := Aside0.mk hg2; clear hg2 xg2 yg2) | ((with_reducible refine gate_dst (N := 3) rfl ?_); refine box_event ?hg (N := 3) ?hd (cs := #[.int .i64 2, .int .i64 part, .int .i64 0]) (t := 50) ?hr ?_; (case hd => rfl); (case hg => rfl); (case hr => first | (go_simp; done) | (go_simp; rfl)); intro g3 hg3 wb xg3 yg3; have Xg3 := Aside0.mk xg3; have Yg3 := Aside0.mk yg3; have Gg3 := Aside0.mk hg3; clear hg3 xg3 yg3) | ((with_reducible refine gate_dst (N := 4) rfl ?_); refine box_event ?hg (N := 4) ?hd (cs := #[.slice none 0 0, .slice none 0 0, .int .i64 0]) (t := 26) ?hr ?_; (case hd => rfl); (case hg => rfl); (case hr => first | (go_simp; done) | (go_simp; rfl)); intro g4 hg4 w3 xg4 yg4; have Xg4 := Aside0.mk xg4; have Yg4 := Aside0.mk yg4; have Gg4 := Aside0.mk hg4; clear hg4 xg4 yg4; have HS0 := Aside0.mk (LS_new HR.out Gg2.out Xg2.out Yg2.out Xg3.out Yg3.out Gg4.out Xg4.out Yg4.out); clear Xg2 Yg2 Gg2 Xg3 Yg3 Gg3 Xg4 Yg4 Gg4; obtain ⟨hx20, hx21, hx22, hx30, hx31, hx32, hx40, hx41, hx42, hf40, hf41, hf42, hf22⟩ := LS_c HS0.out; obtain ⟨hy, hyf⟩ := LS_at0 HS0.out HP.out HI0.out HI1.out) | (go_at_call 38; (with_reducible refine (h_sin part 0 ((l0.length : Int) - 1) _ true HIp.out).mono ?_); rintro e w4 ⟨rfl, hd⟩; have HS1 := Aside0.mk (LS_below HS0.out hd.below); clear hd; clear hx20 hx21 hx22 hx30 hx31 hx32 hx40 hx41 hx42 hf40 hf41 hf42 hf22; (try clear hy); (try clear hyf); (try clear hy1); (try clear hyf1); (try clear hyo); (try clear hyfo); clear HS0; obtain ⟨hx20, hx21, hx22, hx30, hx31, hx32, hx40, hx41, hx42, hf40, hf41, hf42, hf22⟩ := LS_c HS1.out; obtain ⟨hy, hyf⟩ := LS_at0 HS1.out HP.out HI0.out HI1.out) | (go_at_call 38; (with_reducible refine (h_sin 0 0 ((l0.length : Int) - 1) _ true HIz.out).mono ?_); rintro e w5 ⟨rfl, hd⟩; have HS2 := Aside0.mk (LS_below HS1.out hd.below); clear hd; clear hx20 hx21 hx22 hx30 hx31 hx32 hx40 hx41 hx42 hf40 hf41 hf42 hf22; (try clear hy); (try clear hyf); (try clear hy1); (try clear hyf1); (try clear hyo); (try clear hyfo); clear HS1; obtain ⟨hx20, hx21, hx22, hx30, hx31, hx32, hx40, hx41, hx42, hf40, hf41, hf42, hf22⟩ := LS_c HS2.out; obtain ⟨hy, hyf⟩ := LS_at0 HS2.out HP.out HI0.out HI1.out))
  refine bodyPost_ret (results_ct rfl _ _ g4 26 #[(.slice (some ⟨b0, 0, none⟩) l0.length c0), (.slice (some ⟨b1, 0, none⟩) l1.length c1), .int .i64 1] (0, 0) _ rfl (by refine blk_put (cs := #[(.slice (some ⟨b0, 0, none⟩) l0.length c0), (.slice (some ⟨b1, 0, none⟩) l1.length c1), .int .i64 0]) ?_ 2 _ rfl; refine blk_put (cs := #[(.slice (some ⟨b0, 0, none⟩) l0.length c0), .slice none 0 0, .int .i64 0]) ?_ 1 _ rfl; refine blk_put (cs := #[.slice none 0 0, .slice none 0 0, .int .i64 0]) ?_ 0 _ rfl; exact HS2.out.2.2.1) Try.underlying26 rfl (by kernel_rfl)) rfl ?_
  exact ⟨rfl, LS_fin HS2.out⟩
set_option maxHeartbeats 4000000 in
set_option maxRecDepth 100000 in
theorem h_l16_K2c (w0 w : World) (b0 b1 c0 c1 : Nat) (l0 l1 : List Int) (q kind part other p : Int) (hR : ComR w0 w (.slice (some ⟨b0, 0, none⟩) l0.length c0) (.slice (some ⟨b1, 0, none⟩) l1.length c1) l0 l1) (hn : 1 ≤ l0.length) (hn5 : l0.length ≤ 5) (he : l1.length = l0.length) (h0 : 0 ≤ part) (h1 : part < l0.length) (hp : rd l0 part = p) (hz : (p == 0) = false) :
    Calls Try.prog 23 #[.agg #[(.slice (some ⟨b0, 0, none⟩) l0.length c0), (.slice (some ⟨b1, 0, none⟩) l1.length c1), .int .i64 q], .agg #[.int .i64 2, .int .i64 part, .int .i64 0]] w fun e w' => e = .returned (.tuple #[.agg #[(.slice (some ⟨b0, 0, none⟩) l0.length c0), (.slice (some ⟨b1, 0, none⟩) l1.length c1), .int .i64 q], .bool false]) ∧ ComR w0 w' (.slice (some ⟨b0, 0, none⟩) l0.length c0) (.slice (some ⟨b1, 0, none⟩) l1.length c1) l0 l1 ∧ Kept w w' (fun k => some k = ((.slice (some ⟨b0, 0, none⟩) l0.length c0) : Value).ownBlock ∨ some k = ((.slice (some ⟨b1, 0, none⟩) l1.length c1) : Value).ownBlock) := by
  have HR := Aside0.mk hR
  have HE := Aside0.mk he
  have HN := Aside0.mk hn
  clear hR he
  have HI0 := Aside0.mk h0
  have HI1 := Aside0.mk h1
  have HIp := Aside0.mk (show (decide ((0 : Int) ≤ part) && decide (part ≤ (l0.length : Int) - 1)) = true by simp; omega)
  have HIz := Aside0.mk (show (decide ((0 : Int) ≤ 0) && decide ((0 : Int) ≤ (l0.length : Int) - 1)) = true by simp; omega)
  have q0_ := eq_true h0
  have q1_ := eq_true h1
  have q4_ : (part < (l1.length : Int)) = True := eq_true (by rw [HE.out]; exact h1)
  have HP := Aside0.mk hp
  clear h0 h1 hp
  go_enter Try.func23, Try.ntmps23
  go_wp2_with (first | ((with_reducible refine gate_dst (N := 2) rfl ?_); refine box_event ?hg (N := 2) ?hd (cs := #[(.slice (some ⟨b0, 0, none⟩) l0.length c0), (.slice (some ⟨b1, 0, none⟩) l1.length c1), .int .i64 q]) (t := 26) ?hr ?_; (case hd => rfl); (case hg => rfl); (case hr => first | (go_simp; done) | (go_simp; rfl)); intro g2 hg2 wa xg2 yg2; have Xg2 := Aside0.mk xg2; have Yg2 := Aside0.mk yg2; have Gg2 := Aside0.mk hg2; clear hg2 xg2 yg2) | ((with_reducible refine gate_dst (N := 3) rfl ?_); refine box_event ?hg (N := 3) ?hd (cs := #[.int .i64 2, .int .i64 part, .int .i64 0]) (t := 50) ?hr ?_; (case hd => rfl); (case hg => rfl); (case hr => first | (go_simp; done) | (go_simp; rfl)); intro g3 hg3 wb xg3 yg3; have Xg3 := Aside0.mk xg3; have Yg3 := Aside0.mk yg3; have Gg3 := Aside0.mk hg3; clear hg3 xg3 yg3) | ((with_reducible refine gate_dst (N := 4) rfl ?_); refine box_event ?hg (N := 4) ?hd (cs := #[.slice none 0 0, .slice none 0 0, .int .i64 0]) (t := 26) ?hr ?_; (case hd => rfl); (case hg => rfl); (case hr => first | (go_simp; done) | (go_simp; rfl)); intro g4 hg4 w3 xg4 yg4; have Xg4 := Aside0.mk xg4; have Yg4 := Aside0.mk yg4; have Gg4 := Aside0.mk hg4; clear hg4 xg4 yg4; have HS0 := Aside0.mk (LS_new HR.out Gg2.out Xg2.out Yg2.out Xg3.out Yg3.out Gg4.out Xg4.out Yg4.out); clear Xg2 Yg2 Gg2 Xg3 Yg3 Gg3 Xg4 Yg4 Gg4; obtain ⟨hx20, hx21, hx22, hx30, hx31, hx32, hx40, hx41, hx42, hf40, hf41, hf42, hf22⟩ := LS_c HS0.out; obtain ⟨hy, hyf⟩ := LS_at0 HS0.out HP.out HI0.out HI1.out) | (go_at_call 38; (with_reducible refine (h_sin part 0 ((l0.length : Int) - 1) _ true HIp.out).mono ?_); rintro e w4 ⟨rfl, hd⟩; have HS1 := Aside0.mk (LS_below HS0.out hd.below); clear hd; clear hx20 hx21 hx22 hx30 hx31 hx32 hx40 hx41 hx42 hf40 hf41 hf42 hf22; (try clear hy); (try clear hyf); (try clear hy1); (try clear hyf1); (try clear hyo); (try clear hyfo); clear HS0; obtain ⟨hx20, hx21, hx22, hx30, hx31, hx32, hx40, hx41, hx42, hf40, hf41, hf42, hf22⟩ := LS_c HS1.out; obtain ⟨hy, hyf⟩ := LS_at0 HS1.out HP.out HI0.out HI1.out) | (go_at_call 38; (with_reducible refine (h_sin 0 0 ((l0.length : Int) - 1) _ true HIz.out).mono ?_); rintro e w5 ⟨rfl, hd⟩; have HS2 := Aside0.mk (LS_below HS1.out hd.below); clear hd; clear hx20 hx21 hx22 hx30 hx31 hx32 hx40 hx41 hx42 hf40 hf41 hf42 hf22; (try clear hy); (try clear hyf); (try clear hy1); (try clear hyf1); (try clear hyo); (try clear hyfo); clear HS1; obtain ⟨hx20, hx21, hx22, hx30, hx31, hx32, hx40, hx41, hx42, hf40, hf41, hf42, hf22⟩ := LS_c HS2.out; obtain ⟨hy, hyf⟩ := LS_at0 HS2.out HP.out HI0.out HI1.out))
  refine bodyPost_ret (results_ct rfl _ _ g4 26 #[(.slice (some ⟨b0, 0, none⟩) l0.length c0), (.slice (some ⟨b1, 0, none⟩) l1.length c1), .int .i64 q] (0, 0) _ rfl (by refine blk_put (cs := #[(.slice (some ⟨b0, 0, none⟩) l0.length c0), (.slice (some ⟨b1, 0, none⟩) l1.length c1), .int .i64 0]) ?_ 2 _ rfl; refine blk_put (cs := #[(.slice (some ⟨b0, 0, none⟩) l0.length c0), .slice none 0 0, .int .i64 0]) ?_ 1 _ rfl; refine blk_put (cs := #[.slice none 0 0, .slice none 0 0, .int .i64 0]) ?_ 0 _ rfl; exact HS2.out.2.2.1) Try.underlying26 rfl (by kernel_rfl)) rfl ?_
  exact ⟨rfl, LS_fin HS2.out⟩
set_option maxHeartbeats 4000000 in
set_option maxRecDepth 100000 in
theorem h_l16_K3a (w0 w : World) (b0 b1 c0 c1 : Nat) (l0 l1 : List Int) (q kind part other p : Int) (hR : ComR w0 w (.slice (some ⟨b0, 0, none⟩) l0.length c0) (.slice (some ⟨b1, 0, none⟩) l1.length c1) l0 l1) (hn : 1 ≤ l0.length) (hn5 : l0.length ≤ 5) (he : l1.length = l0.length) (hp : rd l0 0 = p) :
    Calls Try.prog 23 #[.agg #[(.slice (some ⟨b0, 0, none⟩) l0.length c0), (.slice (some ⟨b1, 0, none⟩) l1.length c1), .int .i64 0], .agg #[.int .i64 3, .int .i64 0, .int .i64 0]] w fun e w' => e = .returned (.tuple #[.agg #[(.slice (some ⟨b0, 0, none⟩) l0.length c0), (.slice (some ⟨b1, 0, none⟩) l1.length c1), .int .i64 (decW l1 0)], .bool true]) ∧ ComR w0 w' (.slice (some ⟨b0, 0, none⟩) l0.length c0) (.slice (some ⟨b1, 0, none⟩) l1.length c1) l0 l1 ∧ Kept w w' (fun k => some k = ((.slice (some ⟨b0, 0, none⟩) l0.length c0) : Value).ownBlock ∨ some k = ((.slice (some ⟨b1, 0, none⟩) l1.length c1) : Value).ownBlock) := by
  have HR := Aside0.mk hR
  have HE := Aside0.mk he
  have HN := Aside0.mk hn
  clear hR he
  have HP := Aside0.mk hp
  have HI0 := Aside0.mk (show (0 : Int) ≤ 0 by omega)
  have HI1 := Aside0.mk (show (0 : Int) < (l0.length : Int) by omega)
  have HIz := Aside0.mk (show (decide ((0 : Int) ≤ 0) && decide ((0 : Int) ≤ (l0.length : Int) - 1)) = true by simp; omega)
  have q1_ : (0 < (l0.length : Int)) = True := eq_true (by omega)
  have q2_ : (0 < l0.length) = True := eq_true (by omega)
  clear hp
  have HWd := Lib.hid (fun W (hC : (Kd.int .i64).R 3 W w0.heap.size (fun k => some k ≠ (Value.slice (some ⟨b0, 0, none⟩) l0.length c0).ownBlock) (.slice (some ⟨b1, 0, none⟩) l1.length c1) l1) => spec_l16Word.calls (l1.length + 1) (some ⟨b1, 0, none⟩) c1 l1 _ W (by obtain ⟨A, c, e, hc, h⟩ := Kd.R_reads hC; injection e with e1 e2 e3; subst e1; exact h) (by obtain ⟨A, c, e, hc, h⟩ := Kd.R_reads hC; injection e with e1 e2 e3; subst e3; exact hc) (h_sword l1 (by have := HE.out; omega)))
  go_enter Try.func23, Try.ntmps23
  go_wp2_with (first | ((with_reducible refine gate_dst (N := 2) rfl ?_); refine box_event ?hg (N := 2) ?hd (cs := #[(.slice (some ⟨b0, 0, none⟩) l0.length c0), (.slice (some ⟨b1, 0, none⟩) l1.length c1), .int .i64 0]) (t := 26) ?hr ?_; (case hd => rfl); (case hg => rfl); (case hr => first | (go_simp; done) | (go_simp; rfl)); intro g2 hg2 wa xg2 yg2; have Xg2 := Aside0.mk xg2; have Yg2 := Aside0.mk yg2; have Gg2 := Aside0.mk hg2; clear hg2 xg2 yg2) | ((with_reducible refine gate_dst (N := 3) rfl ?_); refine box_event ?hg (N := 3) ?hd (cs := #[.int .i64 3, .int .i64 0, .int .i64 0]) (t := 50) ?hr ?_; (case hd => rfl); (case hg => rfl); (case hr => first | (go_simp; done) | (go_simp; rfl)); intro g3 hg3 wb xg3 yg3; have Xg3 := Aside0.mk xg3; have Yg3 := Aside0.mk yg3; have Gg3 := Aside0.mk hg3; clear hg3 xg3 yg3) | ((with_reducible refine gate_dst (N := 4) rfl ?_); refine box_event ?hg (N := 4) ?hd (cs := #[.slice none 0 0, .slice none 0 0, .int .i64 0]) (t := 26) ?hr ?_; (case hd => rfl); (case hg => rfl); (case hr => first | (go_simp; done) | (go_simp; rfl)); intro g4 hg4 w3 xg4 yg4; have Xg4 := Aside0.mk xg4; have Yg4 := Aside0.mk yg4; have Gg4 := Aside0.mk hg4; clear hg4 xg4 yg4; have HS0 := Aside0.mk (LS_new HR.out Gg2.out Xg2.out Yg2.out Xg3.out Yg3.out Gg4.out Xg4.out Yg4.out); clear Xg2 Yg2 Gg2 Xg3 Yg3 Gg3 Xg4 Yg4 Gg4; obtain ⟨hx20, hx21, hx22, hx30, hx31, hx32, hx40, hx41, hx42, hf40, hf41, hf42, hf22⟩ := LS_c HS0.out; obtain ⟨hy, hyf⟩ := LS_at0 HS0.out HP.out HI0.out HI1.out; rw [Int.toNat_zero] at hy hyf) | (go_at_call 38; (with_reducible refine (h_sin 0 0 ((l0.length : Int) - 1) _ true HIz.out).mono ?_); rintro e w4 ⟨rfl, hd⟩; have HS1 := Aside0.mk (LS_below HS0.out hd.below); clear hd; clear hx20 hx21 hx22 hx30 hx31 hx32 hx40 hx41 hx42 hf40 hf41 hf42 hf22; (try clear hy); (try clear hyf); (try clear hy1); (try clear hyf1); (try clear hyo); (try clear hyfo); clear HS0; obtain ⟨hx20, hx21, hx22, hx30, hx31, hx32, hx40, hx41, hx42, hf40, hf41, hf42, hf22⟩ := LS_c HS1.out; obtain ⟨hy, hyf⟩ := LS_at0 HS1.out HP.out HI0.out HI1.out; rw [Int.toNat_zero] at hy hyf) | (go_at_call 38; (with_reducible refine (h_sin 0 0 ((l0.length : Int) - 1) _ true HIz.out).mono ?_); rintro e w5 ⟨rfl, hd⟩; have HS2 := Aside0.mk (LS_below HS1.out hd.below); clear hd; clear hx20 hx21 hx22 hx30 hx31 hx32 hx40 hx41 hx42 hf40 hf41 hf42 hf22; (try clear hy); (try clear hyf); (try clear hy1); (try clear hyf1); (try clear hyo); (try clear hyfo); clear HS1; obtain ⟨hx20, hx21, hx22, hx30, hx31, hx32, hx40, hx41, hx42, hf40, hf41, hf42, hf22⟩ := LS_c HS2.out; obtain ⟨hy, hyf⟩ := LS_at0 HS2.out HP.out HI0.out HI1.out; rw [Int.toNat_zero] at hy hyf) | (go_at_call 40; (with_reducible refine (HWd.out _ (LS_r1 HS2.out)).mono ?_); rintro e w6 ⟨rfl, hd⟩; have HS3 := Aside0.mk (LS_below HS2.out hd.below); clear hd; clear hx20 hx21 hx22 hx30 hx31 hx32 hx40 hx41 hx42 hf40 hf41 hf42 hf22; (try clear hy); (try clear hyf); (try clear hy1); (try clear hyf1); (try clear hyo); (try clear hyfo); clear HS2; obtain ⟨hx20, hx21, hx22, hx30, hx31, hx32, hx40, hx41, hx42, hf40, hf41, hf42, hf22⟩ := LS_c HS3.out; obtain ⟨hy, hyf⟩ := LS_at0 HS3.out HP.out HI0.out HI1.out; rw [Int.toNat_zero] at hy hyf) | ((with_reducible refine gate_store (t := 3) (p := 106) rfl ?_); refine store_event (t := 3) (p := 106) (v := ?vo4) (w1 := (w6.setCell ⟨g2, 2, none⟩ (.int .i64 (decW l1 0)))) ?hg ?ho ?hn ?hr ?_; (case ho => rfl); (case hg => rfl); (case hn => rfl); (case hr => first | (go_simp; done) | (go_simp; rfl)); intro w7 hw; have HS4 := Aside0.mk (LS_word HS3.out (decW l1 0) : LS w0 w (w6.setCell ⟨g2, 2, none⟩ (.int .i64 (decW l1 0))) g2 g3 g4 (.slice (some ⟨b0, 0, none⟩) l0.length c0) (.slice (some ⟨b1, 0, none⟩) l1.length c1) l0 l1 (decW l1 0) 3 0 0); rw [← hw] at HS4; clear hw; clear hx20 hx21 hx22 hx30 hx31 hx32 hx40 hx41 hx42 hf40 hf41 hf42 hf22; (try clear hy); (try clear hyf); (try clear hy1); (try clear hyf1); (try clear hyo); (try clear hyfo); clear HS3; obtain ⟨hx20, hx21, hx22, hx30, hx31, hx32, hx40, hx41, hx42, hf40, hf41, hf42, hf22⟩ := LS_c HS4.out))
  refine bodyPost_ret (results_ct rfl _ _ g4 26 #[(.slice (some ⟨b0, 0, none⟩) l0.length c0), (.slice (some ⟨b1, 0, none⟩) l1.length c1), .int .i64 (decW l1 0)] (0, 0) _ rfl (by refine blk_put (cs := #[(.slice (some ⟨b0, 0, none⟩) l0.length c0), (.slice (some ⟨b1, 0, none⟩) l1.length c1), .int .i64 0]) ?_ 2 _ rfl; refine blk_put (cs := #[(.slice (some ⟨b0, 0, none⟩) l0.length c0), .slice none 0 0, .int .i64 0]) ?_ 1 _ rfl; refine blk_put (cs := #[.slice none 0 0, .slice none 0 0, .int .i64 0]) ?_ 0 _ rfl; exact HS4.out.2.2.1) Try.underlying26 rfl (by kernel_rfl)) rfl ?_
  exact ⟨rfl, LS_fin HS4.out⟩
set_option maxHeartbeats 4000000 in
set_option maxRecDepth 100000 in
theorem h_l16_K3b (w0 w : World) (b0 b1 c0 c1 : Nat) (l0 l1 : List Int) (q kind part other p : Int) (hR : ComR w0 w (.slice (some ⟨b0, 0, none⟩) l0.length c0) (.slice (some ⟨b1, 0, none⟩) l1.length c1) l0 l1) (hn : 1 ≤ l0.length) (hn5 : l0.length ≤ 5) (he : l1.length = l0.length) (hp : rd l0 0 = p) (hq : (q == 0) = false) :
    Calls Try.prog 23 #[.agg #[(.slice (some ⟨b0, 0, none⟩) l0.length c0), (.slice (some ⟨b1, 0, none⟩) l1.length c1), .int .i64 q], .agg #[.int .i64 3, .int .i64 0, .int .i64 0]] w fun e w' => e = .returned (.tuple #[.agg #[(.slice (some ⟨b0, 0, none⟩) l0.length c0), (.slice (some ⟨b1, 0, none⟩) l1.length c1), .int .i64 q], .bool false]) ∧ ComR w0 w' (.slice (some ⟨b0, 0, none⟩) l0.length c0) (.slice (some ⟨b1, 0, none⟩) l1.length c1) l0 l1 ∧ Kept w w' (fun k => some k = ((.slice (some ⟨b0, 0, none⟩) l0.length c0) : Value).ownBlock ∨ some k = ((.slice (some ⟨b1, 0, none⟩) l1.length c1) : Value).ownBlock) := by
  have HR := Aside0.mk hR
  have HE := Aside0.mk he
  have HN := Aside0.mk hn
  clear hR he
  have HP := Aside0.mk hp
  have HI0 := Aside0.mk (show (0 : Int) ≤ 0 by omega)
  have HI1 := Aside0.mk (show (0 : Int) < (l0.length : Int) by omega)
  have HIz := Aside0.mk (show (decide ((0 : Int) ≤ 0) && decide ((0 : Int) ≤ (l0.length : Int) - 1)) = true by simp; omega)
  have q1_ : (0 < (l0.length : Int)) = True := eq_true (by omega)
  have q2_ : (0 < l0.length) = True := eq_true (by omega)
  clear hp
  go_enter Try.func23, Try.ntmps23
  go_wp2_with (first | ((with_reducible refine gate_dst (N := 2) rfl ?_); refine box_event ?hg (N := 2) ?hd (cs := #[(.slice (some ⟨b0, 0, none⟩) l0.length c0), (.slice (some ⟨b1, 0, none⟩) l1.length c1), .int .i64 q]) (t := 26) ?hr ?_; (case hd => rfl); (case hg => rfl); (case hr => first | (go_simp; done) | (go_simp; rfl)); intro g2 hg2 wa xg2 yg2; have Xg2 := Aside0.mk xg2; have Yg2 := Aside0.mk yg2; have Gg2 := Aside0.mk hg2; clear hg2 xg2 yg2) | ((with_reducible refine gate_dst (N := 3) rfl ?_); refine box_event ?hg (N := 3) ?hd (cs := #[.int .i64 3, .int .i64 0, .int .i64 0]) (t := 50) ?hr ?_; (case hd => rfl); (case hg => rfl); (case hr => first | (go_simp; done) | (go_simp; rfl)); intro g3 hg3 wb xg3 yg3; have Xg3 := Aside0.mk xg3; have Yg3 := Aside0.mk yg3; have Gg3 := Aside0.mk hg3; clear hg3 xg3 yg3) | ((with_reducible refine gate_dst (N := 4) rfl ?_); refine box_event ?hg (N := 4) ?hd (cs := #[.slice none 0 0, .slice none 0 0, .int .i64 0]) (t := 26) ?hr ?_; (case hd => rfl); (case hg => rfl); (case hr => first | (go_simp; done) | (go_simp; rfl)); intro g4 hg4 w3 xg4 yg4; have Xg4 := Aside0.mk xg4; have Yg4 := Aside0.mk yg4; have Gg4 := Aside0.mk hg4; clear hg4 xg4 yg4; have HS0 := Aside0.mk (LS_new HR.out Gg2.out Xg2.out Yg2.out Xg3.out Yg3.out Gg4.out Xg4.out Yg4.out); clear Xg2 Yg2 Gg2 Xg3 Yg3 Gg3 Xg4 Yg4 Gg4; obtain ⟨hx20, hx21, hx22, hx30, hx31, hx32, hx40, hx41, hx42, hf40, hf41, hf42, hf22⟩ := LS_c HS0.out; obtain ⟨hy, hyf⟩ := LS_at0 HS0.out HP.out HI0.out HI1.out; rw [Int.toNat_zero] at hy hyf) | (go_at_call 38; (with_reducible refine (h_sin 0 0 ((l0.length : Int) - 1) _ true HIz.out).mono ?_); rintro e w4 ⟨rfl, hd⟩; have HS1 := Aside0.mk (LS_below HS0.out hd.below); clear hd; clear hx20 hx21 hx22 hx30 hx31 hx32 hx40 hx41 hx42 hf40 hf41 hf42 hf22; (try clear hy); (try clear hyf); (try clear hy1); (try clear hyf1); (try clear hyo); (try clear hyfo); clear HS0; obtain ⟨hx20, hx21, hx22, hx30, hx31, hx32, hx40, hx41, hx42, hf40, hf41, hf42, hf22⟩ := LS_c HS1.out; obtain ⟨hy, hyf⟩ := LS_at0 HS1.out HP.out HI0.out HI1.out; rw [Int.toNat_zero] at hy hyf) | (go_at_call 38; (with_reducible refine (h_sin 0 0 ((l0.length : Int) - 1) _ true HIz.out).mono ?_); rintro e w5 ⟨rfl, hd⟩; have HS2 := Aside0.mk (LS_below HS1.out hd.below); clear hd; clear hx20 hx21 hx22 hx30 hx31 hx32 hx40 hx41 hx42 hf40 hf41 hf42 hf22; (try clear hy); (try clear hyf); (try clear hy1); (try clear hyf1); (try clear hyo); (try clear hyfo); clear HS1; obtain ⟨hx20, hx21, hx22, hx30, hx31, hx32, hx40, hx41, hx42, hf40, hf41, hf42, hf22⟩ := LS_c HS2.out; obtain ⟨hy, hyf⟩ := LS_at0 HS2.out HP.out HI0.out HI1.out; rw [Int.toNat_zero] at hy hyf))
  refine bodyPost_ret (results_ct rfl _ _ g4 26 #[(.slice (some ⟨b0, 0, none⟩) l0.length c0), (.slice (some ⟨b1, 0, none⟩) l1.length c1), .int .i64 q] (0, 0) _ rfl (by refine blk_put (cs := #[(.slice (some ⟨b0, 0, none⟩) l0.length c0), (.slice (some ⟨b1, 0, none⟩) l1.length c1), .int .i64 0]) ?_ 2 _ rfl; refine blk_put (cs := #[(.slice (some ⟨b0, 0, none⟩) l0.length c0), .slice none 0 0, .int .i64 0]) ?_ 1 _ rfl; refine blk_put (cs := #[.slice none 0 0, .slice none 0 0, .int .i64 0]) ?_ 0 _ rfl; exact HS2.out.2.2.1) Try.underlying26 rfl (by kernel_rfl)) rfl ?_
  exact ⟨rfl, LS_fin HS2.out⟩
set_option maxHeartbeats 4000000 in
set_option maxRecDepth 100000 in
theorem h_l16_K3c (w0 w : World) (b0 b1 c0 c1 : Nat) (l0 l1 : List Int) (q kind part other p : Int) (hR : ComR w0 w (.slice (some ⟨b0, 0, none⟩) l0.length c0) (.slice (some ⟨b1, 0, none⟩) l1.length c1) l0 l1) (hn : 1 ≤ l0.length) (hn5 : l0.length ≤ 5) (he : l1.length = l0.length) (h0 : 0 ≤ part) (h1 : part < l0.length) (hp : rd l0 part = p) (hz : (part == 0) = false) :
    Calls Try.prog 23 #[.agg #[(.slice (some ⟨b0, 0, none⟩) l0.length c0), (.slice (some ⟨b1, 0, none⟩) l1.length c1), .int .i64 q], .agg #[.int .i64 3, .int .i64 part, .int .i64 0]] w fun e w' => e = .returned (.tuple #[.agg #[(.slice (some ⟨b0, 0, none⟩) l0.length c0), (.slice (some ⟨b1, 0, none⟩) l1.length c1), .int .i64 q], .bool false]) ∧ ComR w0 w' (.slice (some ⟨b0, 0, none⟩) l0.length c0) (.slice (some ⟨b1, 0, none⟩) l1.length c1) l0 l1 ∧ Kept w w' (fun k => some k = ((.slice (some ⟨b0, 0, none⟩) l0.length c0) : Value).ownBlock ∨ some k = ((.slice (some ⟨b1, 0, none⟩) l1.length c1) : Value).ownBlock) := by
  have HR := Aside0.mk hR
  have HE := Aside0.mk he
  have HN := Aside0.mk hn
  clear hR he
  have HI0 := Aside0.mk h0
  have HI1 := Aside0.mk h1
  have HIp := Aside0.mk (show (decide ((0 : Int) ≤ part) && decide (part ≤ (l0.length : Int) - 1)) = true by simp; omega)
  have HIz := Aside0.mk (show (decide ((0 : Int) ≤ 0) && decide ((0 : Int) ≤ (l0.length : Int) - 1)) = true by simp; omega)
  have q0_ := eq_true h0
  have q1_ := eq_true h1
  have q4_ : (part < (l1.length : Int)) = True := eq_true (by rw [HE.out]; exact h1)
  have HP := Aside0.mk hp
  clear h0 h1 hp
  go_enter Try.func23, Try.ntmps23
  go_wp2_with (first | ((with_reducible refine gate_dst (N := 2) rfl ?_); refine box_event ?hg (N := 2) ?hd (cs := #[(.slice (some ⟨b0, 0, none⟩) l0.length c0), (.slice (some ⟨b1, 0, none⟩) l1.length c1), .int .i64 q]) (t := 26) ?hr ?_; (case hd => rfl); (case hg => rfl); (case hr => first | (go_simp; done) | (go_simp; rfl)); intro g2 hg2 wa xg2 yg2; have Xg2 := Aside0.mk xg2; have Yg2 := Aside0.mk yg2; have Gg2 := Aside0.mk hg2; clear hg2 xg2 yg2) | ((with_reducible refine gate_dst (N := 3) rfl ?_); refine box_event ?hg (N := 3) ?hd (cs := #[.int .i64 3, .int .i64 part, .int .i64 0]) (t := 50) ?hr ?_; (case hd => rfl); (case hg => rfl); (case hr => first | (go_simp; done) | (go_simp; rfl)); intro g3 hg3 wb xg3 yg3; have Xg3 := Aside0.mk xg3; have Yg3 := Aside0.mk yg3; have Gg3 := Aside0.mk hg3; clear hg3 xg3 yg3) | ((with_reducible refine gate_dst (N := 4) rfl ?_); refine box_event ?hg (N := 4) ?hd (cs := #[.slice none 0 0, .slice none 0 0, .int .i64 0]) (t := 26) ?hr ?_; (case hd => rfl); (case hg => rfl); (case hr => first | (go_simp; done) | (go_simp; rfl)); intro g4 hg4 w3 xg4 yg4; have Xg4 := Aside0.mk xg4; have Yg4 := Aside0.mk yg4; have Gg4 := Aside0.mk hg4; clear hg4 xg4 yg4; have HS0 := Aside0.mk (LS_new HR.out Gg2.out Xg2.out Yg2.out Xg3.out Yg3.out Gg4.out Xg4.out Yg4.out); clear Xg2 Yg2 Gg2 Xg3 Yg3 Gg3 Xg4 Yg4 Gg4; obtain ⟨hx20, hx21, hx22, hx30, hx31, hx32, hx40, hx41, hx42, hf40, hf41, hf42, hf22⟩ := LS_c HS0.out; obtain ⟨hy, hyf⟩ := LS_at0 HS0.out HP.out HI0.out HI1.out) | (go_at_call 38; (with_reducible refine (h_sin part 0 ((l0.length : Int) - 1) _ true HIp.out).mono ?_); rintro e w4 ⟨rfl, hd⟩; have HS1 := Aside0.mk (LS_below HS0.out hd.below); clear hd; clear hx20 hx21 hx22 hx30 hx31 hx32 hx40 hx41 hx42 hf40 hf41 hf42 hf22; (try clear hy); (try clear hyf); (try clear hy1); (try clear hyf1); (try clear hyo); (try clear hyfo); clear HS0; obtain ⟨hx20, hx21, hx22, hx30, hx31, hx32, hx40, hx41, hx42, hf40, hf41, hf42, hf22⟩ := LS_c HS1.out; obtain ⟨hy, hyf⟩ := LS_at0 HS1.out HP.out HI0.out HI1.out) | (go_at_call 38; (with_reducible refine (h_sin 0 0 ((l0.length : Int) - 1) _ true HIz.out).mono ?_); rintro e w5 ⟨rfl, hd⟩; have HS2 := Aside0.mk (LS_below HS1.out hd.below); clear hd; clear hx20 hx21 hx22 hx30 hx31 hx32 hx40 hx41 hx42 hf40 hf41 hf42 hf22; (try clear hy); (try clear hyf); (try clear hy1); (try clear hyf1); (try clear hyo); (try clear hyfo); clear HS1; obtain ⟨hx20, hx21, hx22, hx30, hx31, hx32, hx40, hx41, hx42, hf40, hf41, hf42, hf22⟩ := LS_c HS2.out; obtain ⟨hy, hyf⟩ := LS_at0 HS2.out HP.out HI0.out HI1.out))
  refine bodyPost_ret (results_ct rfl _ _ g4 26 #[(.slice (some ⟨b0, 0, none⟩) l0.length c0), (.slice (some ⟨b1, 0, none⟩) l1.length c1), .int .i64 q] (0, 0) _ rfl (by refine blk_put (cs := #[(.slice (some ⟨b0, 0, none⟩) l0.length c0), (.slice (some ⟨b1, 0, none⟩) l1.length c1), .int .i64 0]) ?_ 2 _ rfl; refine blk_put (cs := #[(.slice (some ⟨b0, 0, none⟩) l0.length c0), .slice none 0 0, .int .i64 0]) ?_ 1 _ rfl; refine blk_put (cs := #[.slice none 0 0, .slice none 0 0, .int .i64 0]) ?_ 0 _ rfl; exact HS2.out.2.2.1) Try.underlying26 rfl (by kernel_rfl)) rfl ?_
  exact ⟨rfl, LS_fin HS2.out⟩
set_option maxHeartbeats 4000000 in
set_option maxRecDepth 100000 in
theorem h_l16_K4a (w0 w : World) (b0 b1 c0 c1 : Nat) (l0 l1 : List Int) (q kind part other p : Int) (hR : ComR w0 w (.slice (some ⟨b0, 0, none⟩) l0.length c0) (.slice (some ⟨b1, 0, none⟩) l1.length c1) l0 l1) (hn : 1 ≤ l0.length) (hn5 : l0.length ≤ 5) (he : l1.length = l0.length) (h0 : 0 ≤ part) (h1 : part < l0.length) (hp : rd l0 part = p) (ho : overB p = true) :
    Calls Try.prog 23 #[.agg #[(.slice (some ⟨b0, 0, none⟩) l0.length c0), (.slice (some ⟨b1, 0, none⟩) l1.length c1), .int .i64 q], .agg #[.int .i64 4, .int .i64 part, .int .i64 0]] w fun e w' => e = .returned (.tuple #[.agg #[(.slice (some ⟨b0, 0, none⟩) l0.length c0), (.slice (some ⟨b1, 0, none⟩) l1.length c1), .int .i64 q], .bool false]) ∧ ComR w0 w' (.slice (some ⟨b0, 0, none⟩) l0.length c0) (.slice (some ⟨b1, 0, none⟩) l1.length c1) l0 l1 ∧ Kept w w' (fun k => some k = ((.slice (some ⟨b0, 0, none⟩) l0.length c0) : Value).ownBlock ∨ some k = ((.slice (some ⟨b1, 0, none⟩) l1.length c1) : Value).ownBlock) := by
  have HR := Aside0.mk hR
  have HE := Aside0.mk he
  have HN := Aside0.mk hn
  clear hR he
  have HI0 := Aside0.mk h0
  have HI1 := Aside0.mk h1
  have HIp := Aside0.mk (show (decide ((0 : Int) ≤ part) && decide (part ≤ (l0.length : Int) - 1)) = true by simp; omega)
  have HIz := Aside0.mk (show (decide ((0 : Int) ≤ 0) && decide ((0 : Int) ≤ (l0.length : Int) - 1)) = true by simp; omega)
  have q0_ := eq_true h0
  have q1_ := eq_true h1
  have q4_ : (part < (l1.length : Int)) = True := eq_true (by rw [HE.out]; exact h1)
  have HP := Aside0.mk hp
  clear h0 h1 hp
  have HOV := Lib.hid (fun W => spec_l16Over.calls p true W ((h_sover p).trans (congrArg some ho)))
  clear ho
  go_enter Try.func23, Try.ntmps23
  go_wp2_with (first | ((with_reducible refine gate_dst (N := 2) rfl ?_); refine box_event ?hg (N := 2) ?hd (cs := #[(.slice (some ⟨b0, 0, none⟩) l0.length c0), (.slice (some ⟨b1, 0, none⟩) l1.length c1), .int .i64 q]) (t := 26) ?hr ?_; (case hd => rfl); (case hg => rfl); (case hr => first | (go_simp; done) | (go_simp; rfl)); intro g2 hg2 wa xg2 yg2; have Xg2 := Aside0.mk xg2; have Yg2 := Aside0.mk yg2; have Gg2 := Aside0.mk hg2; clear hg2 xg2 yg2) | ((with_reducible refine gate_dst (N := 3) rfl ?_); refine box_event ?hg (N := 3) ?hd (cs := #[.int .i64 4, .int .i64 part, .int .i64 0]) (t := 50) ?hr ?_; (case hd => rfl); (case hg => rfl); (case hr => first | (go_simp; done) | (go_simp; rfl)); intro g3 hg3 wb xg3 yg3; have Xg3 := Aside0.mk xg3; have Yg3 := Aside0.mk yg3; have Gg3 := Aside0.mk hg3; clear hg3 xg3 yg3) | ((with_reducible refine gate_dst (N := 4) rfl ?_); refine box_event ?hg (N := 4) ?hd (cs := #[.slice none 0 0, .slice none 0 0, .int .i64 0]) (t := 26) ?hr ?_; (case hd => rfl); (case hg => rfl); (case hr => first | (go_simp; done) | (go_simp; rfl)); intro g4 hg4 w3 xg4 yg4; have Xg4 := Aside0.mk xg4; have Yg4 := Aside0.mk yg4; have Gg4 := Aside0.mk hg4; clear hg4 xg4 yg4; have HS0 := Aside0.mk (LS_new HR.out Gg2.out Xg2.out Yg2.out Xg3.out Yg3.out Gg4.out Xg4.out Yg4.out); clear Xg2 Yg2 Gg2 Xg3 Yg3 Gg3 Xg4 Yg4 Gg4; obtain ⟨hx20, hx21, hx22, hx30, hx31, hx32, hx40, hx41, hx42, hf40, hf41, hf42, hf22⟩ := LS_c HS0.out; obtain ⟨hy, hyf⟩ := LS_at0 HS0.out HP.out HI0.out HI1.out) | (go_at_call 38; (with_reducible refine (h_sin part 0 ((l0.length : Int) - 1) _ true HIp.out).mono ?_); rintro e w4 ⟨rfl, hd⟩; have HS1 := Aside0.mk (LS_below HS0.out hd.below); clear hd; clear hx20 hx21 hx22 hx30 hx31 hx32 hx40 hx41 hx42 hf40 hf41 hf42 hf22; (try clear hy); (try clear hyf); (try clear hy1); (try clear hyf1); (try clear hyo); (try clear hyfo); clear HS0; obtain ⟨hx20, hx21, hx22, hx30, hx31, hx32, hx40, hx41, hx42, hf40, hf41, hf42, hf22⟩ := LS_c HS1.out; obtain ⟨hy, hyf⟩ := LS_at0 HS1.out HP.out HI0.out HI1.out) | (go_at_call 38; (with_reducible refine (h_sin 0 0 ((l0.length : Int) - 1) _ true HIz.out).mono ?_); rintro e w5 ⟨rfl, hd⟩; have HS2 := Aside0.mk (LS_below HS1.out hd.below); clear hd; clear hx20 hx21 hx22 hx30 hx31 hx32 hx40 hx41 hx42 hf40 hf41 hf42 hf22; (try clear hy); (try clear hyf); (try clear hy1); (try clear hyf1); (try clear hyo); (try clear hyfo); clear HS1; obtain ⟨hx20, hx21, hx22, hx30, hx31, hx32, hx40, hx41, hx42, hf40, hf41, hf42, hf22⟩ := LS_c HS2.out; obtain ⟨hy, hyf⟩ := LS_at0 HS2.out HP.out HI0.out HI1.out) | (go_at_call 41; (with_reducible refine (HOV.out _).mono ?_); rintro e w6 ⟨rfl, hd⟩; have HS3 := Aside0.mk (LS_below HS2.out hd.below); clear hd; clear hx20 hx21 hx22 hx30 hx31 hx32 hx40 hx41 hx42 hf40 hf41 hf42 hf22; (try clear hy); (try clear hyf); (try clear hy1); (try clear hyf1); (try clear hyo); (try clear hyfo); clear HS2; obtain ⟨hx20, hx21, hx22, hx30, hx31, hx32, hx40, hx41, hx42, hf40, hf41, hf42, hf22⟩ := LS_c HS3.out; obtain ⟨hy, hyf⟩ := LS_at0 HS3.out HP.out HI0.out HI1.out) | (go_at_call 41; (with_reducible refine (HOV.out _).mono ?_); rintro e w7 ⟨rfl, hd⟩; have HS4 := Aside0.mk (LS_below HS3.out hd.below); clear hd; clear hx20 hx21 hx22 hx30 hx31 hx32 hx40 hx41 hx42 hf40 hf41 hf42 hf22; (try clear hy); (try clear hyf); (try clear hy1); (try clear hyf1); (try clear hyo); (try clear hyfo); clear HS3; obtain ⟨hx20, hx21, hx22, hx30, hx31, hx32, hx40, hx41, hx42, hf40, hf41, hf42, hf22⟩ := LS_c HS4.out; obtain ⟨hy, hyf⟩ := LS_at0 HS4.out HP.out HI0.out HI1.out))
  refine bodyPost_ret (results_ct rfl _ _ g4 26 #[(.slice (some ⟨b0, 0, none⟩) l0.length c0), (.slice (some ⟨b1, 0, none⟩) l1.length c1), .int .i64 q] (0, 0) _ rfl (by refine blk_put (cs := #[(.slice (some ⟨b0, 0, none⟩) l0.length c0), (.slice (some ⟨b1, 0, none⟩) l1.length c1), .int .i64 0]) ?_ 2 _ rfl; refine blk_put (cs := #[(.slice (some ⟨b0, 0, none⟩) l0.length c0), .slice none 0 0, .int .i64 0]) ?_ 1 _ rfl; refine blk_put (cs := #[.slice none 0 0, .slice none 0 0, .int .i64 0]) ?_ 0 _ rfl; exact HS4.out.2.2.1) Try.underlying26 rfl (by kernel_rfl)) rfl ?_
  exact ⟨rfl, LS_fin HS4.out⟩
set_option maxHeartbeats 4000000 in
set_option maxRecDepth 100000 in
theorem h_l16_K4b (w0 w : World) (b0 b1 c0 c1 : Nat) (l0 l1 : List Int) (q kind part other p : Int) (hR : ComR w0 w (.slice (some ⟨b0, 0, none⟩) l0.length c0) (.slice (some ⟨b1, 0, none⟩) l1.length c1) l0 l1) (hn : 1 ≤ l0.length) (hn5 : l0.length ≤ 5) (he : l1.length = l0.length) (h0 : 0 ≤ part) (h1 : part < l0.length) (hp : rd l0 part = p) (ho : overB p = false) :
    Calls Try.prog 23 #[.agg #[(.slice (some ⟨b0, 0, none⟩) l0.length c0), (.slice (some ⟨b1, 0, none⟩) l1.length c1), .int .i64 1], .agg #[.int .i64 4, .int .i64 part, .int .i64 0]] w fun e w' => e = .returned (.tuple #[.agg #[(.slice (some ⟨b0, 0, none⟩) l0.length c0), (.slice (some ⟨b1, 0, none⟩) l1.length c1), .int .i64 1], .bool true]) ∧ ComR w0 w' (.slice (some ⟨b0, 0, none⟩) l0.length c0) (.slice (some ⟨b1, 0, none⟩) l1.length c1) (l0.set part.toNat 2) l1 ∧ Kept w w' (fun k => some k = ((.slice (some ⟨b0, 0, none⟩) l0.length c0) : Value).ownBlock ∨ some k = ((.slice (some ⟨b1, 0, none⟩) l1.length c1) : Value).ownBlock) := by
  have HR := Aside0.mk hR
  have HE := Aside0.mk he
  have HN := Aside0.mk hn
  clear hR he
  have HI0 := Aside0.mk h0
  have HI1 := Aside0.mk h1
  have HIp := Aside0.mk (show (decide ((0 : Int) ≤ part) && decide (part ≤ (l0.length : Int) - 1)) = true by simp; omega)
  have HIz := Aside0.mk (show (decide ((0 : Int) ≤ 0) && decide ((0 : Int) ≤ (l0.length : Int) - 1)) = true by simp; omega)
  have q0_ := eq_true h0
  have q1_ := eq_true h1
  have q4_ : (part < (l1.length : Int)) = True := eq_true (by rw [HE.out]; exact h1)
  have HP := Aside0.mk hp
  clear h0 h1 hp
  have HOV := Lib.hid (fun W => spec_l16Over.calls p false W ((h_sover p).trans (congrArg some ho)))
  clear ho
  go_enter Try.func23, Try.ntmps23
  go_wp2_with (first | ((with_reducible refine gate_dst (N := 2) rfl ?_); refine box_event ?hg (N := 2) ?hd (cs := #[(.slice (some ⟨b0, 0, none⟩) l0.length c0), (.slice (some ⟨b1, 0, none⟩) l1.length c1), .int .i64 1]) (t := 26) ?hr ?_; (case hd => rfl); (case hg => rfl); (case hr => first | (go_simp; done) | (go_simp; rfl)); intro g2 hg2 wa xg2 yg2; have Xg2 := Aside0.mk xg2; have Yg2 := Aside0.mk yg2; have Gg2 := Aside0.mk hg2; clear hg2 xg2 yg2) | ((with_reducible refine gate_dst (N := 3) rfl ?_); refine box_event ?hg (N := 3) ?hd (cs := #[.int .i64 4, .int .i64 part, .int .i64 0]) (t := 50) ?hr ?_; (case hd => rfl); (case hg => rfl); (case hr => first | (go_simp; done) | (go_simp; rfl)); intro g3 hg3 wb xg3 yg3; have Xg3 := Aside0.mk xg3; have Yg3 := Aside0.mk yg3; have Gg3 := Aside0.mk hg3; clear hg3 xg3 yg3) | ((with_reducible refine gate_dst (N := 4) rfl ?_); refine box_event ?hg (N := 4) ?hd (cs := #[.slice none 0 0, .slice none 0 0, .int .i64 0]) (t := 26) ?hr ?_; (case hd => rfl); (case hg => rfl); (case hr => first | (go_simp; done) | (go_simp; rfl)); intro g4 hg4 w3 xg4 yg4; have Xg4 := Aside0.mk xg4; have Yg4 := Aside0.mk yg4; have Gg4 := Aside0.mk hg4; clear hg4 xg4 yg4; have HS0 := Aside0.mk (LS_new HR.out Gg2.out Xg2.out Yg2.out Xg3.out Yg3.out Gg4.out Xg4.out Yg4.out); clear Xg2 Yg2 Gg2 Xg3 Yg3 Gg3 Xg4 Yg4 Gg4; obtain ⟨hx20, hx21, hx22, hx30, hx31, hx32, hx40, hx41, hx42, hf40, hf41, hf42, hf22⟩ := LS_c HS0.out; obtain ⟨hy, hyf⟩ := LS_at0 HS0.out HP.out HI0.out HI1.out) | (go_at_call 38; (with_reducible refine (h_sin part 0 ((l0.length : Int) - 1) _ true HIp.out).mono ?_); rintro e w4 ⟨rfl, hd⟩; have HS1 := Aside0.mk (LS_below HS0.out hd.below); clear hd; clear hx20 hx21 hx22 hx30 hx31 hx32 hx40 hx41 hx42 hf40 hf41 hf42 hf22; (try clear hy); (try clear hyf); (try clear hy1); (try clear hyf1); (try clear hyo); (try clear hyfo); clear HS0; obtain ⟨hx20, hx21, hx22, hx30, hx31, hx32, hx40, hx41, hx42, hf40, hf41, hf42, hf22⟩ := LS_c HS1.out; obtain ⟨hy, hyf⟩ := LS_at0 HS1.out HP.out HI0.out HI1.out) | (go_at_call 38; (with_reducible refine (h_sin 0 0 ((l0.length : Int) - 1) _ true HIz.out).mono ?_); rintro e w5 ⟨rfl, hd⟩; have HS2 := Aside0.mk (LS_below HS1.out hd.below); clear hd; clear hx20 hx21 hx22 hx30 hx31 hx32 hx40 hx41 hx42 hf40 hf41 hf42 hf22; (try clear hy); (try clear hyf); (try clear hy1); (try clear hyf1); (try clear hyo); (try clear hyfo); clear HS1; obtain ⟨hx20, hx21, hx22, hx30, hx31, hx32, hx40, hx41, hx42, hf40, hf41, hf42, hf22⟩ := LS_c HS2.out; obtain ⟨hy, hyf⟩ := LS_at0 HS2.out HP.out HI0.out HI1.out) | (go_at_call 41; (with_reducible refine (HOV.out _).mono ?_); rintro e w6 ⟨rfl, hd⟩; have HS3 := Aside0.mk (LS_below HS2.out hd.below); clear hd; clear hx20 hx21 hx22 hx30 hx31 hx32 hx40 hx41 hx42 hf40 hf41 hf42 hf22; (try clear hy); (try clear hyf); (try clear hy1); (try clear hyf1); (try clear hyo); (try clear hyfo); clear HS2; obtain ⟨hx20, hx21, hx22, hx30, hx31, hx32, hx40, hx41, hx42, hf40, hf41, hf42, hf22⟩ := LS_c HS3.out; obtain ⟨hy, hyf⟩ := LS_at0 HS3.out HP.out HI0.out HI1.out) | ((with_reducible refine gate_store (t := 3) (p := 125) rfl ?_); refine store_event (t := 3) (p := 125) (v := ?vo4) (w1 := (w6.setCell ⟨b0, part.toNat, none⟩ (.int .i64 2))) ?hg ?ho ?hn ?hr ?_; (case ho => rfl); (case hg => rfl); (case hn => rfl); (case hr => first | (go_simp; done) | (go_simp; rfl)); intro w7 hw; have HS4 := Aside0.mk (LS_put0 HS3.out part 2 : LS w0 w (w6.setCell ⟨b0, part.toNat, none⟩ (.int .i64 2)) g2 g3 g4 (.slice (some ⟨b0, 0, none⟩) l0.length c0) (.slice (some ⟨b1, 0, none⟩) l1.length c1) (l0.set part.toNat 2) l1 1 4 part 0); rw [← hw] at HS4; clear hw; clear hx20 hx21 hx22 hx30 hx31 hx32 hx40 hx41 hx42 hf40 hf41 hf42 hf22; (try clear hy); (try clear hyf); (try clear hy1); (try clear hyf1); (try clear hyo); (try clear hyfo); clear HS3; obtain ⟨hx20, hx21, hx22, hx30, hx31, hx32, hx40, hx41, hx42, hf40, hf41, hf42, hf22⟩ := LS_c HS4.out))
  refine bodyPost_ret (results_ct rfl _ _ g4 26 #[(.slice (some ⟨b0, 0, none⟩) l0.length c0), (.slice (some ⟨b1, 0, none⟩) l1.length c1), .int .i64 1] (0, 0) _ rfl (by refine blk_put (cs := #[(.slice (some ⟨b0, 0, none⟩) l0.length c0), (.slice (some ⟨b1, 0, none⟩) l1.length c1), .int .i64 0]) ?_ 2 _ rfl; refine blk_put (cs := #[(.slice (some ⟨b0, 0, none⟩) l0.length c0), .slice none 0 0, .int .i64 0]) ?_ 1 _ rfl; refine blk_put (cs := #[.slice none 0 0, .slice none 0 0, .int .i64 0]) ?_ 0 _ rfl; exact HS4.out.2.2.1) Try.underlying26 rfl (by kernel_rfl)) rfl ?_
  exact ⟨rfl, LS_fin HS4.out⟩
set_option maxHeartbeats 4000000 in
set_option maxRecDepth 100000 in
theorem h_l16_K4c (w0 w : World) (b0 b1 c0 c1 : Nat) (l0 l1 : List Int) (q kind part other p : Int) (hR : ComR w0 w (.slice (some ⟨b0, 0, none⟩) l0.length c0) (.slice (some ⟨b1, 0, none⟩) l1.length c1) l0 l1) (hn : 1 ≤ l0.length) (hn5 : l0.length ≤ 5) (he : l1.length = l0.length) (h0 : 0 ≤ part) (h1 : part < l0.length) (hp : rd l0 part = p) (ho : overB p = false) :
    Calls Try.prog 23 #[.agg #[(.slice (some ⟨b0, 0, none⟩) l0.length c0), (.slice (some ⟨b1, 0, none⟩) l1.length c1), .int .i64 2], .agg #[.int .i64 4, .int .i64 part, .int .i64 0]] w fun e w' => e = .returned (.tuple #[.agg #[(.slice (some ⟨b0, 0, none⟩) l0.length c0), (.slice (some ⟨b1, 0, none⟩) l1.length c1), .int .i64 2], .bool true]) ∧ ComR w0 w' (.slice (some ⟨b0, 0, none⟩) l0.length c0) (.slice (some ⟨b1, 0, none⟩) l1.length c1) (l0.set part.toNat 3) l1 ∧ Kept w w' (fun k => some k = ((.slice (some ⟨b0, 0, none⟩) l0.length c0) : Value).ownBlock ∨ some k = ((.slice (some ⟨b1, 0, none⟩) l1.length c1) : Value).ownBlock) := by
  have HR := Aside0.mk hR
  have HE := Aside0.mk he
  have HN := Aside0.mk hn
  clear hR he
  have HI0 := Aside0.mk h0
  have HI1 := Aside0.mk h1
  have HIp := Aside0.mk (show (decide ((0 : Int) ≤ part) && decide (part ≤ (l0.length : Int) - 1)) = true by simp; omega)
  have HIz := Aside0.mk (show (decide ((0 : Int) ≤ 0) && decide ((0 : Int) ≤ (l0.length : Int) - 1)) = true by simp; omega)
  have q0_ := eq_true h0
  have q1_ := eq_true h1
  have q4_ : (part < (l1.length : Int)) = True := eq_true (by rw [HE.out]; exact h1)
  have HP := Aside0.mk hp
  clear h0 h1 hp
  have HOV := Lib.hid (fun W => spec_l16Over.calls p false W ((h_sover p).trans (congrArg some ho)))
  clear ho
  go_enter Try.func23, Try.ntmps23
  go_wp2_with (first | ((with_reducible refine gate_dst (N := 2) rfl ?_); refine box_event ?hg (N := 2) ?hd (cs := #[(.slice (some ⟨b0, 0, none⟩) l0.length c0), (.slice (some ⟨b1, 0, none⟩) l1.length c1), .int .i64 2]) (t := 26) ?hr ?_; (case hd => rfl); (case hg => rfl); (case hr => first | (go_simp; done) | (go_simp; rfl)); intro g2 hg2 wa xg2 yg2; have Xg2 := Aside0.mk xg2; have Yg2 := Aside0.mk yg2; have Gg2 := Aside0.mk hg2; clear hg2 xg2 yg2) | ((with_reducible refine gate_dst (N := 3) rfl ?_); refine box_event ?hg (N := 3) ?hd (cs := #[.int .i64 4, .int .i64 part, .int .i64 0]) (t := 50) ?hr ?_; (case hd => rfl); (case hg => rfl); (case hr => first | (go_simp; done) | (go_simp; rfl)); intro g3 hg3 wb xg3 yg3; have Xg3 := Aside0.mk xg3; have Yg3 := Aside0.mk yg3; have Gg3 := Aside0.mk hg3; clear hg3 xg3 yg3) | ((with_reducible refine gate_dst (N := 4) rfl ?_); refine box_event ?hg (N := 4) ?hd (cs := #[.slice none 0 0, .slice none 0 0, .int .i64 0]) (t := 26) ?hr ?_; (case hd => rfl); (case hg => rfl); (case hr => first | (go_simp; done) | (go_simp; rfl)); intro g4 hg4 w3 xg4 yg4; have Xg4 := Aside0.mk xg4; have Yg4 := Aside0.mk yg4; have Gg4 := Aside0.mk hg4; clear hg4 xg4 yg4; have HS0 := Aside0.mk (LS_new HR.out Gg2.out Xg2.out Yg2.out Xg3.out Yg3.out Gg4.out Xg4.out Yg4.out); clear Xg2 Yg2 Gg2 Xg3 Yg3 Gg3 Xg4 Yg4 Gg4; obtain ⟨hx20, hx21, hx22, hx30, hx31, hx32, hx40, hx41, hx42, hf40, hf41, hf42, hf22⟩ := LS_c HS0.out; obtain ⟨hy, hyf⟩ := LS_at0 HS0.out HP.out HI0.out HI1.out) | (go_at_call 38; (with_reducible refine (h_sin part 0 ((l0.length : Int) - 1) _ true HIp.out).mono ?_); rintro e w4 ⟨rfl, hd⟩; have HS1 := Aside0.mk (LS_below HS0.out hd.below); clear hd; clear hx20 hx21 hx22 hx30 hx31 hx32 hx40 hx41 hx42 hf40 hf41 hf42 hf22; (try clear hy); (try clear hyf); (try clear hy1); (try clear hyf1); (try clear hyo); (try clear hyfo); clear HS0; obtain ⟨hx20, hx21, hx22, hx30, hx31, hx32, hx40, hx41, hx42, hf40, hf41, hf42, hf22⟩ := LS_c HS1.out; obtain ⟨hy, hyf⟩ := LS_at0 HS1.out HP.out HI0.out HI1.out) | (go_at_call 38; (with_reducible refine (h_sin 0 0 ((l0.length : Int) - 1) _ true HIz.out).mono ?_); rintro e w5 ⟨rfl, hd⟩; have HS2 := Aside0.mk (LS_below HS1.out hd.below); clear hd; clear hx20 hx21 hx22 hx30 hx31 hx32 hx40 hx41 hx42 hf40 hf41 hf42 hf22; (try clear hy); (try clear hyf); (try clear hy1); (try clear hyf1); (try clear hyo); (try clear hyfo); clear HS1; obtain ⟨hx20, hx21, hx22, hx30, hx31, hx32, hx40, hx41, hx42, hf40, hf41, hf42, hf22⟩ := LS_c HS2.out; obtain ⟨hy, hyf⟩ := LS_at0 HS2.out HP.out HI0.out HI1.out) | (go_at_call 41; (with_reducible refine (HOV.out _).mono ?_); rintro e w6 ⟨rfl, hd⟩; have HS3 := Aside0.mk (LS_below HS2.out hd.below); clear hd; clear hx20 hx21 hx22 hx30 hx31 hx32 hx40 hx41 hx42 hf40 hf41 hf42 hf22; (try clear hy); (try clear hyf); (try clear hy1); (try clear hyf1); (try clear hyo); (try clear hyfo); clear HS2; obtain ⟨hx20, hx21, hx22, hx30, hx31, hx32, hx40, hx41, hx42, hf40, hf41, hf42, hf22⟩ := LS_c HS3.out; obtain ⟨hy, hyf⟩ := LS_at0 HS3.out HP.out HI0.out HI1.out) | (go_at_call 41; (with_reducible refine (HOV.out _).mono ?_); rintro e w7 ⟨rfl, hd⟩; have HS4 := Aside0.mk (LS_below HS3.out hd.below); clear hd; clear hx20 hx21 hx22 hx30 hx31 hx32 hx40 hx41 hx42 hf40 hf41 hf42 hf22; (try clear hy); (try clear hyf); (try clear hy1); (try clear hyf1); (try clear hyo); (try clear hyfo); clear HS3; obtain ⟨hx20, hx21, hx22, hx30, hx31, hx32, hx40, hx41, hx42, hf40, hf41, hf42, hf22⟩ := LS_c HS4.out; obtain ⟨hy, hyf⟩ := LS_at0 HS4.out HP.out HI0.out HI1.out) | ((with_reducible refine gate_store (t := 3) (p := 144) rfl ?_); refine store_event (t := 3) (p := 144) (v := ?vo5) (w1 := (w7.setCell ⟨b0, part.toNat, none⟩ (.int .i64 3))) ?hg ?ho ?hn ?hr ?_; (case ho => rfl); (case hg => rfl); (case hn => rfl); (case hr => first | (go_simp; done) | (go_simp; rfl)); intro w8 hw; have HS5 := Aside0.mk (LS_put0 HS4.out part 3 : LS w0 w (w7.setCell ⟨b0, part.toNat, none⟩ (.int .i64 3)) g2 g3 g4 (.slice (some ⟨b0, 0, none⟩) l0.length c0) (.slice (some ⟨b1, 0, none⟩) l1.length c1) (l0.set part.toNat 3) l1 2 4 part 0); rw [← hw] at HS5; clear hw; clear hx20 hx21 hx22 hx30 hx31 hx32 hx40 hx41 hx42 hf40 hf41 hf42 hf22; (try clear hy); (try clear hyf); (try clear hy1); (try clear hyf1); (try clear hyo); (try clear hyfo); clear HS4; obtain ⟨hx20, hx21, hx22, hx30, hx31, hx32, hx40, hx41, hx42, hf40, hf41, hf42, hf22⟩ := LS_c HS5.out))
  refine bodyPost_ret (results_ct rfl _ _ g4 26 #[(.slice (some ⟨b0, 0, none⟩) l0.length c0), (.slice (some ⟨b1, 0, none⟩) l1.length c1), .int .i64 2] (0, 0) _ rfl (by refine blk_put (cs := #[(.slice (some ⟨b0, 0, none⟩) l0.length c0), (.slice (some ⟨b1, 0, none⟩) l1.length c1), .int .i64 0]) ?_ 2 _ rfl; refine blk_put (cs := #[(.slice (some ⟨b0, 0, none⟩) l0.length c0), .slice none 0 0, .int .i64 0]) ?_ 1 _ rfl; refine blk_put (cs := #[.slice none 0 0, .slice none 0 0, .int .i64 0]) ?_ 0 _ rfl; exact HS5.out.2.2.1) Try.underlying26 rfl (by kernel_rfl)) rfl ?_
  exact ⟨rfl, LS_fin HS5.out⟩
set_option maxHeartbeats 4000000 in
set_option maxRecDepth 100000 in
theorem h_l16_K4d (w0 w : World) (b0 b1 c0 c1 : Nat) (l0 l1 : List Int) (q kind part other p : Int) (hR : ComR w0 w (.slice (some ⟨b0, 0, none⟩) l0.length c0) (.slice (some ⟨b1, 0, none⟩) l1.length c1) l0 l1) (hn : 1 ≤ l0.length) (hn5 : l0.length ≤ 5) (he : l1.length = l0.length) (h0 : 0 ≤ part) (h1 : part < l0.length) (hp : rd l0 part = p) (ho : overB p = false) (hq1 : (q == 1) = false) (hq2 : (q == 2) = false) :
    Calls Try.prog 23 #[.agg #[(.slice (some ⟨b0, 0, none⟩) l0.length c0), (.slice (some ⟨b1, 0, none⟩) l1.length c1), .int .i64 q], .agg #[.int .i64 4, .int .i64 part, .int .i64 0]] w fun e w' => e = .returned (.tuple #[.agg #[(.slice (some ⟨b0, 0, none⟩) l0.length c0), (.slice (some ⟨b1, 0, none⟩) l1.length c1), .int .i64 q], .bool false]) ∧ ComR w0 w' (.slice (some ⟨b0, 0, none⟩) l0.length c0) (.slice (some ⟨b1, 0, none⟩) l1.length c1) l0 l1 ∧ Kept w w' (fun k => some k = ((.slice (some ⟨b0, 0, none⟩) l0.length c0) : Value).ownBlock ∨ some k = ((.slice (some ⟨b1, 0, none⟩) l1.length c1) : Value).ownBlock) := by
  have HR := Aside0.mk hR
  have HE := Aside0.mk he
  have HN := Aside0.mk hn
  clear hR he
  have HI0 := Aside0.mk h0
  have HI1 := Aside0.mk h1
  have HIp := Aside0.mk (show (decide ((0 : Int) ≤ part) && decide (part ≤ (l0.length : Int) - 1)) = true by simp; omega)
  have HIz := Aside0.mk (show (decide ((0 : Int) ≤ 0) && decide ((0 : Int) ≤ (l0.length : Int) - 1)) = true by simp; omega)
  have q0_ := eq_true h0
  have q1_ := eq_true h1
  have q4_ : (part < (l1.length : Int)) = True := eq_true (by rw [HE.out]; exact h1)
  have HP := Aside0.mk hp
  clear h0 h1 hp
  have HOV := Lib.hid (fun W => spec_l16Over.calls p false W ((h_sover p).trans (congrArg some ho)))
  clear ho
  go_enter Try.func23, Try.ntmps23
  go_wp2_with (first | ((with_reducible refine gate_dst (N := 2) rfl ?_); refine box_event ?hg (N := 2) ?hd (cs := #[(.slice (some ⟨b0, 0, none⟩) l0.length c0), (.slice (some ⟨b1, 0, none⟩) l1.length c1), .int .i64 q]) (t := 26) ?hr ?_; (case hd => rfl); (case hg => rfl); (case hr => first | (go_simp; done) | (go_simp; rfl)); intro g2 hg2 wa xg2 yg2; have Xg2 := Aside0.mk xg2; have Yg2 := Aside0.mk yg2; have Gg2 := Aside0.mk hg2; clear hg2 xg2 yg2) | ((with_reducible refine gate_dst (N := 3) rfl ?_); refine box_event ?hg (N := 3) ?hd (cs := #[.int .i64 4, .int .i64 part, .int .i64 0]) (t := 50) ?hr ?_; (case hd => rfl); (case hg => rfl); (case hr => first | (go_simp; done) | (go_simp; rfl)); intro g3 hg3 wb xg3 yg3; have Xg3 := Aside0.mk xg3; have Yg3 := Aside0.mk yg3; have Gg3 := Aside0.mk hg3; clear hg3 xg3 yg3) | ((with_reducible refine gate_dst (N := 4) rfl ?_); refine box_event ?hg (N := 4) ?hd (cs := #[.slice none 0 0, .slice none 0 0, .int .i64 0]) (t := 26) ?hr ?_; (case hd => rfl); (case hg => rfl); (case hr => first | (go_simp; done) | (go_simp; rfl)); intro g4 hg4 w3 xg4 yg4; have Xg4 := Aside0.mk xg4; have Yg4 := Aside0.mk yg4; have Gg4 := Aside0.mk hg4; clear hg4 xg4 yg4; have HS0 := Aside0.mk (LS_new HR.out Gg2.out Xg2.out Yg2.out Xg3.out Yg3.out Gg4.out Xg4.out Yg4.out); clear Xg2 Yg2 Gg2 Xg3 Yg3 Gg3 Xg4 Yg4 Gg4; obtain ⟨hx20, hx21, hx22, hx30, hx31, hx32, hx40, hx41, hx42, hf40, hf41, hf42, hf22⟩ := LS_c HS0.out; obtain ⟨hy, hyf⟩ := LS_at0 HS0.out HP.out HI0.out HI1.out) | (go_at_call 38; (with_reducible refine (h_sin part 0 ((l0.length : Int) - 1) _ true HIp.out).mono ?_); rintro e w4 ⟨rfl, hd⟩; have HS1 := Aside0.mk (LS_below HS0.out hd.below); clear hd; clear hx20 hx21 hx22 hx30 hx31 hx32 hx40 hx41 hx42 hf40 hf41 hf42 hf22; (try clear hy); (try clear hyf); (try clear hy1); (try clear hyf1); (try clear hyo); (try clear hyfo); clear HS0; obtain ⟨hx20, hx21, hx22, hx30, hx31, hx32, hx40, hx41, hx42, hf40, hf41, hf42, hf22⟩ := LS_c HS1.out; obtain ⟨hy, hyf⟩ := LS_at0 HS1.out HP.out HI0.out HI1.out) | (go_at_call 38; (with_reducible refine (h_sin 0 0 ((l0.length : Int) - 1) _ true HIz.out).mono ?_); rintro e w5 ⟨rfl, hd⟩; have HS2 := Aside0.mk (LS_below HS1.out hd.below); clear hd; clear hx20 hx21 hx22 hx30 hx31 hx32 hx40 hx41 hx42 hf40 hf41 hf42 hf22; (try clear hy); (try clear hyf); (try clear hy1); (try clear hyf1); (try clear hyo); (try clear hyfo); clear HS1; obtain ⟨hx20, hx21, hx22, hx30, hx31, hx32, hx40, hx41, hx42, hf40, hf41, hf42, hf22⟩ := LS_c HS2.out; obtain ⟨hy, hyf⟩ := LS_at0 HS2.out HP.out HI0.out HI1.out) | (go_at_call 41; (with_reducible refine (HOV.out _).mono ?_); rintro e w6 ⟨rfl, hd⟩; have HS3 := Aside0.mk (LS_below HS2.out hd.below); clear hd; clear hx20 hx21 hx22 hx30 hx31 hx32 hx40 hx41 hx42 hf40 hf41 hf42 hf22; (try clear hy); (try clear hyf); (try clear hy1); (try clear hyf1); (try clear hyo); (try clear hyfo); clear HS2; obtain ⟨hx20, hx21, hx22, hx30, hx31, hx32, hx40, hx41, hx42, hf40, hf41, hf42, hf22⟩ := LS_c HS3.out; obtain ⟨hy, hyf⟩ := LS_at0 HS3.out HP.out HI0.out HI1.out) | (go_at_call 41; (with_reducible refine (HOV.out _).mono ?_); rintro e w7 ⟨rfl, hd⟩; have HS4 := Aside0.mk (LS_below HS3.out hd.below); clear hd; clear hx20 hx21 hx22 hx30 hx31 hx32 hx40 hx41 hx42 hf40 hf41 hf42 hf22; (try clear hy); (try clear hyf); (try clear hy1); (try clear hyf1); (try clear hyo); (try clear hyfo); clear HS3; obtain ⟨hx20, hx21, hx22, hx30, hx31, hx32, hx40, hx41, hx42, hf40, hf41, hf42, hf22⟩ := LS_c HS4.out; obtain ⟨hy, hyf⟩ := LS_at0 HS4.out HP.out HI0.out HI1.out))
  refine bodyPost_ret (results_ct rfl _ _ g4 26 #[(.slice (some ⟨b0, 0, none⟩) l0.length c0), (.slice (some ⟨b1, 0, none⟩) l1.length c1), .int .i64 q] (0, 0) _ rfl (by refine blk_put (cs := #[(.slice (some ⟨b0, 0, none⟩) l0.length c0), (.slice (some ⟨b1, 0, none⟩) l1.length c1), .int .i64 0]) ?_ 2 _ rfl; refine blk_put (cs := #[(.slice (some ⟨b0, 0, none⟩) l0.length c0), .slice none 0 0, .int .i64 0]) ?_ 1 _ rfl; refine blk_put (cs := #[.slice none 0 0, .slice none 0 0, .int .i64 0]) ?_ 0 _ rfl; exact HS4.out.2.2.1) Try.underlying26 rfl (by kernel_rfl)) rfl ?_
  exact ⟨rfl, LS_fin HS4.out⟩
set_option maxHeartbeats 4000000 in
set_option maxRecDepth 100000 in
theorem h_l16_K5a (w0 w : World) (b0 b1 c0 c1 : Nat) (l0 l1 : List Int) (q kind part other p : Int) (hR : ComR w0 w (.slice (some ⟨b0, 0, none⟩) l0.length c0) (.slice (some ⟨b1, 0, none⟩) l1.length c1) l0 l1) (hn : 1 ≤ l0.length) (hn5 : l0.length ≤ 5) (he : l1.length = l0.length) (h0 : 0 ≤ part) (h1 : part < l0.length) (hp : rd l0 part = p) :
    Calls Try.prog 23 #[.agg #[(.slice (some ⟨b0, 0, none⟩) l0.length c0), (.slice (some ⟨b1, 0, none⟩) l1.length c1), .int .i64 q], .agg #[.int .i64 5, .int .i64 part, .int .i64 part]] w fun e w' => e = .returned (.tuple #[.agg #[(.slice (some ⟨b0, 0, none⟩) l0.length c0), (.slice (some ⟨b1, 0, none⟩) l1.length c1), .int .i64 q], .bool false]) ∧ ComR w0 w' (.slice (some ⟨b0, 0, none⟩) l0.length c0) (.slice (some ⟨b1, 0, none⟩) l1.length c1) l0 l1 ∧ Kept w w' (fun k => some k = ((.slice (some ⟨b0, 0, none⟩) l0.length c0) : Value).ownBlock ∨ some k = ((.slice (some ⟨b1, 0, none⟩) l1.length c1) : Value).ownBlock) := by
  have HR := Aside0.mk hR
  have HE := Aside0.mk he
  have HN := Aside0.mk hn
  clear hR he
  have HI0 := Aside0.mk h0
  have HI1 := Aside0.mk h1
  have HIp := Aside0.mk (show (decide ((0 : Int) ≤ part) && decide (part ≤ (l0.length : Int) - 1)) = true by simp; omega)
  have HIz := Aside0.mk (show (decide ((0 : Int) ≤ 0) && decide ((0 : Int) ≤ (l0.length : Int) - 1)) = true by simp; omega)
  have q0_ := eq_true h0
  have q1_ := eq_true h1
  have q4_ : (part < (l1.length : Int)) = True := eq_true (by rw [HE.out]; exact h1)
  have HP := Aside0.mk hp
  clear h0 h1 hp
  go_enter Try.func23, Try.ntmps23
  go_wp2_with (first | ((with_reducible refine gate_dst (N := 2) rfl ?_); refine box_event ?hg (N := 2) ?hd (cs := #[(.slice (some ⟨b0, 0, none⟩) l0.length c0), (.slice (some ⟨b1, 0, none⟩) l1.length c1), .int .i64 q]) (t := 26) ?hr ?_; (case hd => rfl); (case hg => rfl); (case hr => first | (go_simp; done) | (go_simp; rfl)); intro g2 hg2 wa xg2 yg2; have Xg2 := Aside0.mk xg2; have Yg2 := Aside0.mk yg2; have Gg2 := Aside0.mk hg2; clear hg2 xg2 yg2) | ((with_reducible refine gate_dst (N := 3) rfl ?_); refine box_event ?hg (N := 3) ?hd (cs := #[.int .i64 5, .int .i64 part, .int .i64 part]) (t := 50) ?hr ?_; (case hd => rfl); (case hg => rfl); (case hr => first | (go_simp; done) | (go_simp; rfl)); intro g3 hg3 wb xg3 yg3; have Xg3 := Aside0.mk xg3; have Yg3 := Aside0.mk yg3; have Gg3 := Aside0.mk hg3; clear hg3 xg3 yg3) | ((with_reducible refine gate_dst (N := 4) rfl ?_); refine box_event ?hg (N := 4) ?hd (cs := #[.slice none 0 0, .slice none 0 0, .int .i64 0]) (t := 26) ?hr ?_; (case hd => rfl); (case hg => rfl); (case hr => first | (go_simp; done) | (go_simp; rfl)); intro g4 hg4 w3 xg4 yg4; have Xg4 := Aside0.mk xg4; have Yg4 := Aside0.mk yg4; have Gg4 := Aside0.mk hg4; clear hg4 xg4 yg4; have HS0 := Aside0.mk (LS_new HR.out Gg2.out Xg2.out Yg2.out Xg3.out Yg3.out Gg4.out Xg4.out Yg4.out); clear Xg2 Yg2 Gg2 Xg3 Yg3 Gg3 Xg4 Yg4 Gg4; obtain ⟨hx20, hx21, hx22, hx30, hx31, hx32, hx40, hx41, hx42, hf40, hf41, hf42, hf22⟩ := LS_c HS0.out; obtain ⟨hy, hyf⟩ := LS_at0 HS0.out HP.out HI0.out HI1.out) | (go_at_call 38; (with_reducible refine (h_sin part 0 ((l0.length : Int) - 1) _ true HIp.out).mono ?_); rintro e w4 ⟨rfl, hd⟩; have HS1 := Aside0.mk (LS_below HS0.out hd.below); clear hd; clear hx20 hx21 hx22 hx30 hx31 hx32 hx40 hx41 hx42 hf40 hf41 hf42 hf22; (try clear hy); (try clear hyf); (try clear hy1); (try clear hyf1); (try clear hyo); (try clear hyfo); clear HS0; obtain ⟨hx20, hx21, hx22, hx30, hx31, hx32, hx40, hx41, hx42, hf40, hf41, hf42, hf22⟩ := LS_c HS1.out; obtain ⟨hy, hyf⟩ := LS_at0 HS1.out HP.out HI0.out HI1.out) | (go_at_call 38; (with_reducible refine (h_sin part 0 ((l0.length : Int) - 1) _ true HIp.out).mono ?_); rintro e w5 ⟨rfl, hd⟩; have HS2 := Aside0.mk (LS_below HS1.out hd.below); clear hd; clear hx20 hx21 hx22 hx30 hx31 hx32 hx40 hx41 hx42 hf40 hf41 hf42 hf22; (try clear hy); (try clear hyf); (try clear hy1); (try clear hyf1); (try clear hyo); (try clear hyfo); clear HS1; obtain ⟨hx20, hx21, hx22, hx30, hx31, hx32, hx40, hx41, hx42, hf40, hf41, hf42, hf22⟩ := LS_c HS2.out; obtain ⟨hy, hyf⟩ := LS_at0 HS2.out HP.out HI0.out HI1.out))
  refine bodyPost_ret (results_ct rfl _ _ g4 26 #[(.slice (some ⟨b0, 0, none⟩) l0.length c0), (.slice (some ⟨b1, 0, none⟩) l1.length c1), .int .i64 q] (0, 0) _ rfl (by refine blk_put (cs := #[(.slice (some ⟨b0, 0, none⟩) l0.length c0), (.slice (some ⟨b1, 0, none⟩) l1.length c1), .int .i64 0]) ?_ 2 _ rfl; refine blk_put (cs := #[(.slice (some ⟨b0, 0, none⟩) l0.length c0), .slice none 0 0, .int .i64 0]) ?_ 1 _ rfl; refine blk_put (cs := #[.slice none 0 0, .slice none 0 0, .int .i64 0]) ?_ 0 _ rfl; exact HS2.out.2.2.1) Try.underlying26 rfl (by kernel_rfl)) rfl ?_
  exact ⟨rfl, LS_fin HS2.out⟩
set_option maxHeartbeats 4000000 in
set_option maxRecDepth 100000 in
theorem h_l16_K5b (w0 w : World) (b0 b1 c0 c1 : Nat) (l0 l1 : List Int) (q kind part other p : Int) (hR : ComR w0 w (.slice (some ⟨b0, 0, none⟩) l0.length c0) (.slice (some ⟨b1, 0, none⟩) l1.length c1) l0 l1) (hn : 1 ≤ l0.length) (hn5 : l0.length ≤ 5) (he : l1.length = l0.length) (h0 : 0 ≤ part) (h1 : part < l0.length) (h2 : 0 ≤ other) (h3 : other < l0.length) (hp : rd l0 part = p) (hne : (other != part) = true) (hz : (p == 1) = false) :
    Calls Try.prog 23 #[.agg #[(.slice (some ⟨b0, 0, none⟩) l0.length c0), (.slice (some ⟨b1, 0, none⟩) l1.length c1), .int .i64 q], .agg #[.int .i64 5, .int .i64 part, .int .i64 other]] w fun e w' => e = .returned (.tuple #[.agg #[(.slice (some ⟨b0, 0, none⟩) l0.length c0), (.slice (some ⟨b1, 0, none⟩) l1.length c1), .int .i64 q], .bool false]) ∧ ComR w0 w' (.slice (some ⟨b0, 0, none⟩) l0.length c0) (.slice (some ⟨b1, 0, none⟩) l1.length c1) l0 l1 ∧ Kept w w' (fun k => some k = ((.slice (some ⟨b0, 0, none⟩) l0.length c0) : Value).ownBlock ∨ some k = ((.slice (some ⟨b1, 0, none⟩) l1.length c1) : Value).ownBlock) := by
  have HR := Aside0.mk hR
  have HE := Aside0.mk he
  have HN := Aside0.mk hn
  clear hR he
  have HO0 := Aside0.mk h2
  have HO1 := Aside0.mk h3
  have HIo := Aside0.mk (show (decide ((0 : Int) ≤ other) && decide (other ≤ (l0.length : Int) - 1)) = true by simp; omega)
  have q2_ := eq_true h2
  have q3_ := eq_true h3
  clear h2 h3
  have HI0 := Aside0.mk h0
  have HI1 := Aside0.mk h1
  have HIp := Aside0.mk (show (decide ((0 : Int) ≤ part) && decide (part ≤ (l0.length : Int) - 1)) = true by simp; omega)
  have HIz := Aside0.mk (show (decide ((0 : Int) ≤ 0) && decide ((0 : Int) ≤ (l0.length : Int) - 1)) = true by simp; omega)
  have q0_ := eq_true h0
  have q1_ := eq_true h1
  have q4_ : (part < (l1.length : Int)) = True := eq_true (by rw [HE.out]; exact h1)
  have HP := Aside0.mk hp
  clear h0 h1 hp
  go_enter Try.func23, Try.ntmps23
  go_wp2_with (first | ((with_reducible refine gate_dst (N := 2) rfl ?_); refine box_event ?hg (N := 2) ?hd (cs := #[(.slice (some ⟨b0, 0, none⟩) l0.length c0), (.slice (some ⟨b1, 0, none⟩) l1.length c1), .int .i64 q]) (t := 26) ?hr ?_; (case hd => rfl); (case hg => rfl); (case hr => first | (go_simp; done) | (go_simp; rfl)); intro g2 hg2 wa xg2 yg2; have Xg2 := Aside0.mk xg2; have Yg2 := Aside0.mk yg2; have Gg2 := Aside0.mk hg2; clear hg2 xg2 yg2) | ((with_reducible refine gate_dst (N := 3) rfl ?_); refine box_event ?hg (N := 3) ?hd (cs := #[.int .i64 5, .int .i64 part, .int .i64 other]) (t := 50) ?hr ?_; (case hd => rfl); (case hg => rfl); (case hr => first | (go_simp; done) | (go_simp; rfl)); intro g3 hg3 wb xg3 yg3; have Xg3 := Aside0.mk xg3; have Yg3 := Aside0.mk yg3; have Gg3 := Aside0.mk hg3; clear hg3 xg3 yg3) | ((with_reducible refine gate_dst (N := 4) rfl ?_); refine box_event ?hg (N := 4) ?hd (cs := #[.slice none 0 0, .slice none 0 0, .int .i64 0]) (t := 26) ?hr ?_; (case hd => rfl); (case hg => rfl); (case hr => first | (go_simp; done) | (go_simp; rfl)); intro g4 hg4 w3 xg4 yg4; have Xg4 := Aside0.mk xg4; have Yg4 := Aside0.mk yg4; have Gg4 := Aside0.mk hg4; clear hg4 xg4 yg4; have HS0 := Aside0.mk (LS_new HR.out Gg2.out Xg2.out Yg2.out Xg3.out Yg3.out Gg4.out Xg4.out Yg4.out); clear Xg2 Yg2 Gg2 Xg3 Yg3 Gg3 Xg4 Yg4 Gg4; obtain ⟨hx20, hx21, hx22, hx30, hx31, hx32, hx40, hx41, hx42, hf40, hf41, hf42, hf22⟩ := LS_c HS0.out; obtain ⟨hy, hyf⟩ := LS_at0 HS0.out HP.out HI0.out HI1.out) | (go_at_call 38; (with_reducible refine (h_sin part 0 ((l0.length : Int) - 1) _ true HIp.out).mono ?_); rintro e w4 ⟨rfl, hd⟩; have HS1 := Aside0.mk (LS_below HS0.out hd.below); clear hd; clear hx20 hx21 hx22 hx30 hx31 hx32 hx40 hx41 hx42 hf40 hf41 hf42 hf22; (try clear hy); (try clear hyf); (try clear hy1); (try clear hyf1); (try clear hyo); (try clear hyfo); clear HS0; obtain ⟨hx20, hx21, hx22, hx30, hx31, hx32, hx40, hx41, hx42, hf40, hf41, hf42, hf22⟩ := LS_c HS1.out; obtain ⟨hy, hyf⟩ := LS_at0 HS1.out HP.out HI0.out HI1.out) | (go_at_call 38; (with_reducible refine (h_sin other 0 ((l0.length : Int) - 1) _ true HIo.out).mono ?_); rintro e w5 ⟨rfl, hd⟩; have HS2 := Aside0.mk (LS_below HS1.out hd.below); clear hd; clear hx20 hx21 hx22 hx30 hx31 hx32 hx40 hx41 hx42 hf40 hf41 hf42 hf22; (try clear hy); (try clear hyf); (try clear hy1); (try clear hyf1); (try clear hyo); (try clear hyfo); clear HS1; obtain ⟨hx20, hx21, hx22, hx30, hx31, hx32, hx40, hx41, hx42, hf40, hf41, hf42, hf22⟩ := LS_c HS2.out; obtain ⟨hy, hyf⟩ := LS_at0 HS2.out HP.out HI0.out HI1.out))
  refine bodyPost_ret (results_ct rfl _ _ g4 26 #[(.slice (some ⟨b0, 0, none⟩) l0.length c0), (.slice (some ⟨b1, 0, none⟩) l1.length c1), .int .i64 q] (0, 0) _ rfl (by refine blk_put (cs := #[(.slice (some ⟨b0, 0, none⟩) l0.length c0), (.slice (some ⟨b1, 0, none⟩) l1.length c1), .int .i64 0]) ?_ 2 _ rfl; refine blk_put (cs := #[(.slice (some ⟨b0, 0, none⟩) l0.length c0), .slice none 0 0, .int .i64 0]) ?_ 1 _ rfl; refine blk_put (cs := #[.slice none 0 0, .slice none 0 0, .int .i64 0]) ?_ 0 _ rfl; exact HS2.out.2.2.1) Try.underlying26 rfl (by kernel_rfl)) rfl ?_
  exact ⟨rfl, LS_fin HS2.out⟩
set_option maxHeartbeats 4000000 in
set_option maxRecDepth 100000 in
theorem h_l16_K5c (w0 w : World) (b0 b1 c0 c1 : Nat) (l0 l1 : List Int) (q kind part other p : Int) (hR : ComR w0 w (.slice (some ⟨b0, 0, none⟩) l0.length c0) (.slice (some ⟨b1, 0, none⟩) l1.length c1) l0 l1) (hn : 1 ≤ l0.length) (hn5 : l0.length ≤ 5) (he : l1.length = l0.length) (h0 : 0 ≤ part) (h1 : part < l0.length) (h2 : 0 ≤ other) (h3 : other < l0.length) (hp : rd l0 part = 1) (hne : (other != part) = true) (hpo : rd l0 other = p) (ho : overB p = false) :
    Calls Try.prog 23 #[.agg #[(.slice (some ⟨b0, 0, none⟩) l0.length c0), (.slice (some ⟨b1, 0, none⟩) l1.length c1), .int .i64 q], .agg #[.int .i64 5, .int .i64 part, .int .i64 other]] w fun e w' => e = .returned (.tuple #[.agg #[(.slice (some ⟨b0, 0, none⟩) l0.length c0), (.slice (some ⟨b1, 0, none⟩) l1.length c1), .int .i64 q], .bool false]) ∧ ComR w0 w' (.slice (some ⟨b0, 0, none⟩) l0.length c0) (.slice (some ⟨b1, 0, none⟩) l1.length c1) l0 l1 ∧ Kept w w' (fun k => some k = ((.slice (some ⟨b0, 0, none⟩) l0.length c0) : Value).ownBlock ∨ some k = ((.slice (some ⟨b1, 0, none⟩) l1.length c1) : Value).ownBlock) := by
  have HR := Aside0.mk hR
  have HE := Aside0.mk he
  have HN := Aside0.mk hn
  clear hR he
  have HO0 := Aside0.mk h2
  have HO1 := Aside0.mk h3
  have HIo := Aside0.mk (show (decide ((0 : Int) ≤ other) && decide (other ≤ (l0.length : Int) - 1)) = true by simp; omega)
  have q2_ := eq_true h2
  have q3_ := eq_true h3
  clear h2 h3
  have HI0 := Aside0.mk h0
  have HI1 := Aside0.mk h1
  have HIp := Aside0.mk (show (decide ((0 : Int) ≤ part) && decide (part ≤ (l0.length : Int) - 1)) = true by simp; omega)
  have HIz := Aside0.mk (show (decide ((0 : Int) ≤ 0) && decide ((0 : Int) ≤ (l0.length : Int) - 1)) = true by simp; omega)
  have q0_ := eq_true h0
  have q1_ := eq_true h1
  have q4_ : (part < (l1.length : Int)) = True := eq_true (by rw [HE.out]; exact h1)
  have HP := Aside0.mk hp
  clear h0 h1 hp
  have HPO := Aside0.mk hpo
  clear hpo
  have HOV := Lib.hid (fun W => spec_l16Over.calls p false W ((h_sover p).trans (congrArg some ho)))
  clear ho
  go_enter Try.func23, Try.ntmps23
  go_wp2_with (first | ((with_reducible refine gate_dst (N := 2) rfl ?_); refine box_event ?hg (N := 2) ?hd (cs := #[(.slice (some ⟨b0, 0, none⟩) l0.length c0), (.slice (some ⟨b1, 0, none⟩) l1.length c1), .int .i64 q]) (t := 26) ?hr ?_; (case hd => rfl); (case hg => rfl); (case hr => first | (go_simp; done) | (go_simp; rfl)); intro g2 hg2 wa xg2 yg2; have Xg2 := Aside0.mk xg2; have Yg2 := Aside0.mk yg2; have Gg2 := Aside0.mk hg2; clear hg2 xg2 yg2) | ((with_reducible refine gate_dst (N := 3) rfl ?_); refine box_event ?hg (N := 3) ?hd (cs := #[.int .i64 5, .int .i64 part, .int .i64 other]) (t := 50) ?hr ?_; (case hd => rfl); (case hg => rfl); (case hr => first | (go_simp; done) | (go_simp; rfl)); intro g3 hg3 wb xg3 yg3; have Xg3 := Aside0.mk xg3; have Yg3 := Aside0.mk yg3; have Gg3 := Aside0.mk hg3; clear hg3 xg3 yg3) | ((with_reducible refine gate_dst (N := 4) rfl ?_); refine box_event ?hg (N := 4) ?hd (cs := #[.slice none 0 0, .slice none 0 0, .int .i64 0]) (t := 26) ?hr ?_; (case hd => rfl); (case hg => rfl); (case hr => first | (go_simp; done) | (go_simp; rfl)); intro g4 hg4 w3 xg4 yg4; have Xg4 := Aside0.mk xg4; have Yg4 := Aside0.mk yg4; have Gg4 := Aside0.mk hg4; clear hg4 xg4 yg4; have HS0 := Aside0.mk (LS_new HR.out Gg2.out Xg2.out Yg2.out Xg3.out Yg3.out Gg4.out Xg4.out Yg4.out); clear Xg2 Yg2 Gg2 Xg3 Yg3 Gg3 Xg4 Yg4 Gg4; obtain ⟨hx20, hx21, hx22, hx30, hx31, hx32, hx40, hx41, hx42, hf40, hf41, hf42, hf22⟩ := LS_c HS0.out; obtain ⟨hy, hyf⟩ := LS_at0 HS0.out HP.out HI0.out HI1.out; obtain ⟨hyo, hyfo⟩ := LS_at0 HS0.out HPO.out HO0.out HO1.out) | (go_at_call 38; (with_reducible refine (h_sin part 0 ((l0.length : Int) - 1) _ true HIp.out).mono ?_); rintro e w4 ⟨rfl, hd⟩; have HS1 := Aside0.mk (LS_below HS0.out hd.below); clear hd; clear hx20 hx21 hx22 hx30 hx31 hx32 hx40 hx41 hx42 hf40 hf41 hf42 hf22; (try clear hy); (try clear hyf); (try clear hy1); (try clear hyf1); (try clear hyo); (try clear hyfo); clear HS0; obtain ⟨hx20, hx21, hx22, hx30, hx31, hx32, hx40, hx41, hx42, hf40, hf41, hf42, hf22⟩ := LS_c HS1.out; obtain ⟨hy, hyf⟩ := LS_at0 HS1.out HP.out HI0.out HI1.out; obtain ⟨hyo, hyfo⟩ := LS_at0 HS1.out HPO.out HO0.out HO1.out) | (go_at_call 38; (with_reducible refine (h_sin other 0 ((l0.length : Int) - 1) _ true HIo.out).mono ?_); rintro e w5 ⟨rfl, hd⟩; have HS2 := Aside0.mk (LS_below HS1.out hd.below); clear hd; clear hx20 hx21 hx22 hx30 hx31 hx32 hx40 hx41 hx42 hf40 hf41 hf42 hf22; (try clear hy); (try clear hyf); (try clear hy1); (try clear hyf1); (try clear hyo); (try clear hyfo); clear HS1; obtain ⟨hx20, hx21, hx22, hx30, hx31, hx32, hx40, hx41, hx42, hf40, hf41, hf42, hf22⟩ := LS_c HS2.out; obtain ⟨hy, hyf⟩ := LS_at0 HS2.out HP.out HI0.out HI1.out; obtain ⟨hyo, hyfo⟩ := LS_at0 HS2.out HPO.out HO0.out HO1.out) | (go_at_call 41; (with_reducible refine (HOV.out _).mono ?_); rintro e w6 ⟨rfl, hd⟩; have HS3 := Aside0.mk (LS_below HS2.out hd.below); clear hd; clear hx20 hx21 hx22 hx30 hx31 hx32 hx40 hx41 hx42 hf40 hf41 hf42 hf22; (try clear hy); (try clear hyf); (try clear hy1); (try clear hyf1); (try clear hyo); (try clear hyfo); clear HS2; obtain ⟨hx20, hx21, hx22, hx30, hx31, hx32, hx40, hx41, hx42, hf40, hf41, hf42, hf22⟩ := LS_c HS3.out; obtain ⟨hy, hyf⟩ := LS_at0 HS3.out HP.out HI0.out HI1.out; obtain ⟨hyo, hyfo⟩ := LS_at0 HS3.out HPO.out HO0.out HO1.out))
  refine bodyPost_ret (results_ct rfl _ _ g4 26 #[(.slice (some ⟨b0, 0, none⟩) l0.length c0), (.slice (some ⟨b1, 0, none⟩) l1.length c1), .int .i64 q] (0, 0) _ rfl (by refine blk_put (cs := #[(.slice (some ⟨b0, 0, none⟩) l0.length c0), (.slice (some ⟨b1, 0, none⟩) l1.length c1), .int .i64 0]) ?_ 2 _ rfl; refine blk_put (cs := #[(.slice (some ⟨b0, 0, none⟩) l0.length c0), .slice none 0 0, .int .i64 0]) ?_ 1 _ rfl; refine blk_put (cs := #[.slice none 0 0, .slice none 0 0, .int .i64 0]) ?_ 0 _ rfl; exact HS3.out.2.2.1) Try.underlying26 rfl (by kernel_rfl)) rfl ?_
  exact ⟨rfl, LS_fin HS3.out⟩
set_option maxHeartbeats 4000000 in
set_option maxRecDepth 100000 in
theorem h_l16_K6 (w0 w : World) (b0 b1 c0 c1 : Nat) (l0 l1 : List Int) (q kind part other p : Int) (hR : ComR w0 w (.slice (some ⟨b0, 0, none⟩) l0.length c0) (.slice (some ⟨b1, 0, none⟩) l1.length c1) l0 l1) (hn : 1 ≤ l0.length) (hn5 : l0.length ≤ 5) (he : l1.length = l0.length) (h0 : 0 ≤ part) (h1 : part < l0.length) (hp : rd l0 part = p) (k1 : (kind == 1) = false) (k2 : (kind == 2) = false) (k3 : (kind == 3) = false) (k4 : (kind == 4) = false) (k5 : (kind == 5) = false) (k6 : (kind != 5) = true) :
    Calls Try.prog 23 #[.agg #[(.slice (some ⟨b0, 0, none⟩) l0.length c0), (.slice (some ⟨b1, 0, none⟩) l1.length c1), .int .i64 q], .agg #[.int .i64 kind, .int .i64 part, .int .i64 0]] w fun e w' => e = .returned (.tuple #[.agg #[(.slice (some ⟨b0, 0, none⟩) l0.length c0), (.slice (some ⟨b1, 0, none⟩) l1.length c1), .int .i64 q], .bool false]) ∧ ComR w0 w' (.slice (some ⟨b0, 0, none⟩) l0.length c0) (.slice (some ⟨b1, 0, none⟩) l1.length c1) l0 l1 ∧ Kept w w' (fun k => some k = ((.slice (some ⟨b0, 0, none⟩) l0.length c0) : Value).ownBlock ∨ some k = ((.slice (some ⟨b1, 0, none⟩) l1.length c1) : Value).ownBlock) := by
  have HR := Aside0.mk hR
  have HE := Aside0.mk he
  have HN := Aside0.mk hn
  clear hR he
  have HI0 := Aside0.mk h0
  have HI1 := Aside0.mk h1
  have HIp := Aside0.mk (show (decide ((0 : Int) ≤ part) && decide (part ≤ (l0.length : Int) - 1)) = true by simp; omega)
  have HIz := Aside0.mk (show (decide ((0 : Int) ≤ 0) && decide ((0 : Int) ≤ (l0.length : Int) - 1)) = true by simp; omega)
  have q0_ := eq_true h0
  have q1_ := eq_true h1
  have q4_ : (part < (l1.length : Int)) = True := eq_true (by rw [HE.out]; exact h1)
  have HP := Aside0.mk hp
  clear h0 h1 hp
  go_enter Try.func23, Try.ntmps23
  go_wp2_with (first | ((with_reducible refine gate_dst (N := 2) rfl ?_); refine box_event ?hg (N := 2) ?hd (cs := #[(.slice (some ⟨b0, 0, none⟩) l0.length c0), (.slice (some ⟨b1, 0, none⟩) l1.length c1), .int .i64 q]) (t := 26) ?hr ?_; (case hd => rfl); (case hg => rfl); (case hr => first | (go_simp; done) | (go_simp; rfl)); intro g2 hg2 wa xg2 yg2; have Xg2 := Aside0.mk xg2; have Yg2 := Aside0.mk yg2; have Gg2 := Aside0.mk hg2; clear hg2 xg2 yg2) | ((with_reducible refine gate_dst (N := 3) rfl ?_); refine box_event ?hg (N := 3) ?hd (cs := #[.int .i64 kind, .int .i64 part, .int .i64 0]) (t := 50) ?hr ?_; (case hd => rfl); (case hg => rfl); (case hr => first | (go_simp; done) | (go_simp; rfl)); intro g3 hg3 wb xg3 yg3; have Xg3 := Aside0.mk xg3; have Yg3 := Aside0.mk yg3; have Gg3 := Aside0.mk hg3; clear hg3 xg3 yg3) | ((with_reducible refine gate_dst (N := 4) rfl ?_); refine box_event ?hg (N := 4) ?hd (cs := #[.slice none 0 0, .slice none 0 0, .int .i64 0]) (t := 26) ?hr ?_; (case hd => rfl); (case hg => rfl); (case hr => first | (go_simp; done) | (go_simp; rfl)); intro g4 hg4 w3 xg4 yg4; have Xg4 := Aside0.mk xg4; have Yg4 := Aside0.mk yg4; have Gg4 := Aside0.mk hg4; clear hg4 xg4 yg4; have HS0 := Aside0.mk (LS_new HR.out Gg2.out Xg2.out Yg2.out Xg3.out Yg3.out Gg4.out Xg4.out Yg4.out); clear Xg2 Yg2 Gg2 Xg3 Yg3 Gg3 Xg4 Yg4 Gg4; obtain ⟨hx20, hx21, hx22, hx30, hx31, hx32, hx40, hx41, hx42, hf40, hf41, hf42, hf22⟩ := LS_c HS0.out; obtain ⟨hy, hyf⟩ := LS_at0 HS0.out HP.out HI0.out HI1.out) | (go_at_call 38; (with_reducible refine (h_sin part 0 ((l0.length : Int) - 1) _ true HIp.out).mono ?_); rintro e w4 ⟨rfl, hd⟩; have HS1 := Aside0.mk (LS_below HS0.out hd.below); clear hd; clear hx20 hx21 hx22 hx30 hx31 hx32 hx40 hx41 hx42 hf40 hf41 hf42 hf22; (try clear hy); (try clear hyf); (try clear hy1); (try clear hyf1); (try clear hyo); (try clear hyfo); clear HS0; obtain ⟨hx20, hx21, hx22, hx30, hx31, hx32, hx40, hx41, hx42, hf40, hf41, hf42, hf22⟩ := LS_c HS1.out; obtain ⟨hy, hyf⟩ := LS_at0 HS1.out HP.out HI0.out HI1.out) | (go_at_call 38; (with_reducible refine (h_sin 0 0 ((l0.length : Int) - 1) _ true HIz.out).mono ?_); rintro e w5 ⟨rfl, hd⟩; have HS2 := Aside0.mk (LS_below HS1.out hd.below); clear hd; clear hx20 hx21 hx22 hx30 hx31 hx32 hx40 hx41 hx42 hf40 hf41 hf42 hf22; (try clear hy); (try clear hyf); (try clear hy1); (try clear hyf1); (try clear hyo); (try clear hyfo); clear HS1; obtain ⟨hx20, hx21, hx22, hx30, hx31, hx32, hx40, hx41, hx42, hf40, hf41, hf42, hf22⟩ := LS_c HS2.out; obtain ⟨hy, hyf⟩ := LS_at0 HS2.out HP.out HI0.out HI1.out))
  refine bodyPost_ret (results_ct rfl _ _ g4 26 #[(.slice (some ⟨b0, 0, none⟩) l0.length c0), (.slice (some ⟨b1, 0, none⟩) l1.length c1), .int .i64 q] (0, 0) _ rfl (by refine blk_put (cs := #[(.slice (some ⟨b0, 0, none⟩) l0.length c0), (.slice (some ⟨b1, 0, none⟩) l1.length c1), .int .i64 0]) ?_ 2 _ rfl; refine blk_put (cs := #[(.slice (some ⟨b0, 0, none⟩) l0.length c0), .slice none 0 0, .int .i64 0]) ?_ 1 _ rfl; refine blk_put (cs := #[.slice none 0 0, .slice none 0 0, .int .i64 0]) ?_ 0 _ rfl; exact HS2.out.2.2.1) Try.underlying26 rfl (by kernel_rfl)) rfl ?_
  exact ⟨rfl, LS_fin HS2.out⟩
set_option maxHeartbeats 4000000 in
set_option maxRecDepth 100000 in
theorem h_l16_K5d (w0 w : World) (b0 b1 c0 c1 : Nat) (l0 l1 : List Int) (q kind part other p : Int) (hR : ComR w0 w (.slice (some ⟨b0, 0, none⟩) l0.length c0) (.slice (some ⟨b1, 0, none⟩) l1.length c1) l0 l1) (hn : 1 ≤ l0.length) (hn5 : l0.length ≤ 5) (he : l1.length = l0.length) (h0 : 0 ≤ part) (h1 : part < l0.length) (h2 : 0 ≤ other) (h3 : other < l0.length) (hp : rd l0 part = 1) (hne : (other != part) = true) (hpo : rd l0 other = p) (ho : overB p = true) :
    Calls Try.prog 23 #[.agg #[(.slice (some ⟨b0, 0, none⟩) l0.length c0), (.slice (some ⟨b1, 0, none⟩) l1.length c1), .int .i64 q], .agg #[.int .i64 5, .int .i64 part, .int .i64 other]] w fun e w' => e = .returned (.tuple #[.agg #[(.slice (some ⟨b0, 0, none⟩) l0.length c0), (.slice (some ⟨b1, 0, none⟩) l1.length c1), .int .i64 q], .bool true]) ∧ ComR w0 w' (.slice (some ⟨b0, 0, none⟩) l0.length c0) (.slice (some ⟨b1, 0, none⟩) l1.length c1) (l0.set part.toNat p) l1 ∧ Kept w w' (fun k => some k = ((.slice (some ⟨b0, 0, none⟩) l0.length c0) : Value).ownBlock ∨ some k = ((.slice (some ⟨b1, 0, none⟩) l1.length c1) : Value).ownBlock) := by
  have HR := Aside0.mk hR
  have HE := Aside0.mk he
  have HN := Aside0.mk hn
  clear hR he
  have HO0 := Aside0.mk h2
  have HO1 := Aside0.mk h3
  have HIo := Aside0.mk (show (decide ((0 : Int) ≤ other) && decide (other ≤ (l0.length : Int) - 1)) = true by simp; omega)
  have q2_ := eq_true h2
  have q3_ := eq_true h3
  clear h2 h3
  have HI0 := Aside0.mk h0
  have HI1 := Aside0.mk h1
  have HIp := Aside0.mk (show (decide ((0 : Int) ≤ part) && decide (part ≤ (l0.length : Int) - 1)) = true by simp; omega)
  have HIz := Aside0.mk (show (decide ((0 : Int) ≤ 0) && decide ((0 : Int) ≤ (l0.length : Int) - 1)) = true by simp; omega)
  have q0_ := eq_true h0
  have q1_ := eq_true h1
  have q4_ : (part < (l1.length : Int)) = True := eq_true (by rw [HE.out]; exact h1)
  have HP := Aside0.mk hp
  clear h0 h1 hp
  have HPO := Aside0.mk hpo
  clear hpo
  have HOV := Lib.hid (fun W => spec_l16Over.calls p true W ((h_sover p).trans (congrArg some ho)))
  clear ho
  go_enter Try.func23, Try.ntmps23
  go_wp2_with (first | ((with_reducible refine gate_dst (N := 2) rfl ?_); refine box_event ?hg (N := 2) ?hd (cs := #[(.slice (some ⟨b0, 0, none⟩) l0.length c0), (.slice (some ⟨b1, 0, none⟩) l1.length c1), .int .i64 q]) (t := 26) ?hr ?_; (case hd => rfl); (case hg => rfl); (case hr => first | (go_simp; done) | (go_simp; rfl)); intro g2 hg2 wa xg2 yg2; have Xg2 := Aside0.mk xg2; have Yg2 := Aside0.mk yg2; have Gg2 := Aside0.mk hg2; clear hg2 xg2 yg2) | ((with_reducible refine gate_dst (N := 3) rfl ?_); refine box_event ?hg (N := 3) ?hd (cs := #[.int .i64 5, .int .i64 part, .int .i64 other]) (t := 50) ?hr ?_; (case hd => rfl); (case hg => rfl); (case hr => first | (go_simp; done) | (go_simp; rfl)); intro g3 hg3 wb xg3 yg3; have Xg3 := Aside0.mk xg3; have Yg3 := Aside0.mk yg3; have Gg3 := Aside0.mk hg3; clear hg3 xg3 yg3) | ((with_reducible refine gate_dst (N := 4) rfl ?_); refine box_event ?hg (N := 4) ?hd (cs := #[.slice none 0 0, .slice none 0 0, .int .i64 0]) (t := 26) ?hr ?_; (case hd => rfl); (case hg => rfl); (case hr => first | (go_simp; done) | (go_simp; rfl)); intro g4 hg4 w3 xg4 yg4; have Xg4 := Aside0.mk xg4; have Yg4 := Aside0.mk yg4; have Gg4 := Aside0.mk hg4; clear hg4 xg4 yg4; have HS0 := Aside0.mk (LS_new HR.out Gg2.out Xg2.out Yg2.out Xg3.out Yg3.out Gg4.out Xg4.out Yg4.out); clear Xg2 Yg2 Gg2 Xg3 Yg3 Gg3 Xg4 Yg4 Gg4; obtain ⟨hx20, hx21, hx22, hx30, hx31, hx32, hx40, hx41, hx42, hf40, hf41, hf42, hf22⟩ := LS_c HS0.out; obtain ⟨hy, hyf⟩ := LS_at0 HS0.out HP.out HI0.out HI1.out; obtain ⟨hyo, hyfo⟩ := LS_at0 HS0.out HPO.out HO0.out HO1.out) | (go_at_call 38; (with_reducible refine (h_sin part 0 ((l0.length : Int) - 1) _ true HIp.out).mono ?_); rintro e w4 ⟨rfl, hd⟩; have HS1 := Aside0.mk (LS_below HS0.out hd.below); clear hd; clear hx20 hx21 hx22 hx30 hx31 hx32 hx40 hx41 hx42 hf40 hf41 hf42 hf22; (try clear hy); (try clear hyf); (try clear hy1); (try clear hyf1); (try clear hyo); (try clear hyfo); clear HS0; obtain ⟨hx20, hx21, hx22, hx30, hx31, hx32, hx40, hx41, hx42, hf40, hf41, hf42, hf22⟩ := LS_c HS1.out; obtain ⟨hy, hyf⟩ := LS_at0 HS1.out HP.out HI0.out HI1.out; obtain ⟨hyo, hyfo⟩ := LS_at0 HS1.out HPO.out HO0.out HO1.out) | (go_at_call 38; (with_reducible refine (h_sin other 0 ((l0.length : Int) - 1) _ true HIo.out).mono ?_); rintro e w5 ⟨rfl, hd⟩; have HS2 := Aside0.mk (LS_below HS1.out hd.below); clear hd; clear hx20 hx21 hx22 hx30 hx31 hx32 hx40 hx41 hx42 hf40 hf41 hf42 hf22; (try clear hy); (try clear hyf); (try clear hy1); (try clear hyf1); (try clear hyo); (try clear hyfo); clear HS1; obtain ⟨hx20, hx21, hx22, hx30, hx31, hx32, hx40, hx41, hx42, hf40, hf41, hf42, hf22⟩ := LS_c HS2.out; obtain ⟨hy, hyf⟩ := LS_at0 HS2.out HP.out HI0.out HI1.out; obtain ⟨hyo, hyfo⟩ := LS_at0 HS2.out HPO.out HO0.out HO1.out) | (go_at_call 41; (with_reducible refine (HOV.out _).mono ?_); rintro e w6 ⟨rfl, hd⟩; have HS3 := Aside0.mk (LS_below HS2.out hd.below); clear hd; clear hx20 hx21 hx22 hx30 hx31 hx32 hx40 hx41 hx42 hf40 hf41 hf42 hf22; (try clear hy); (try clear hyf); (try clear hy1); (try clear hyf1); (try clear hyo); (try clear hyfo); clear HS2; obtain ⟨hx20, hx21, hx22, hx30, hx31, hx32, hx40, hx41, hx42, hf40, hf41, hf42, hf22⟩ := LS_c HS3.out; obtain ⟨hy, hyf⟩ := LS_at0 HS3.out HP.out HI0.out HI1.out; obtain ⟨hyo, hyfo⟩ := LS_at0 HS3.out HPO.out HO0.out HO1.out))
  clear hx20 hx21 hx22 hx30 hx31 hx32 hx40 hx41 hx42 hf40 hf41 hf42 hf22 hy hyf hyo hyfo
  have HSy := Aside0.mk (LS_below HS3.out (below_drew (Below.refl _ _)))
  refine start_ (n := 12) (S := fun w' => w'.cell? ⟨g2, 0, none⟩ = some (.slice (some ⟨b0, 0, none⟩) l0.length c0) ∧ w'.cell? ⟨g2, 1, none⟩ = some (.slice (some ⟨b1, 0, none⟩) l1.length c1) ∧ w'.cell? ⟨g2, 2, none⟩ = some (.int .i64 q) ∧ w'.cell? ⟨g3, 0, none⟩ = some (.int .i64 5) ∧ w'.cell? ⟨g3, 1, none⟩ = some (.int .i64 part) ∧ w'.cell? ⟨g3, 2, none⟩ = some (.int .i64 other) ∧ w'.cell? ⟨b0, other.toNat, none⟩ = some (.int .i64 p)) (ds := [11]) #[false, false, false, false, false, false, false, false, false, false, false, false] (by kernel_rfl) rfl rfl ⟨(LS_c HSy.out).1, (LS_c HSy.out).2.1, (LS_c HSy.out).2.2.1, (LS_c HSy.out).2.2.2.1, (LS_c HSy.out).2.2.2.2.1, (LS_c HSy.out).2.2.2.2.2.1, (LS_at0 HSy.out HPO.out HO0.out HO1.out).1⟩ (fun hHeld => ?_)
  generalize w6.drew = wy at HSy hHeld ⊢
  refine pure_ (i := 0) (N := some 169) (v := ?_) (a' := ?_) #[true, false, false, false, false, false, false, false, false, false, false, false] rfl rfl (by kernel_rfl) (fun _ _ _ h => h) (Or.inl ⟨by rfl, ?_⟩) ?_ ?_
  rotate_left
  · intro w'
    go_simp
    with_reducible rfl
  rotate_left
  · simp only [Act.put, List.setIfInBounds_toArray, List.set_cons_zero, List.set_cons_succ, i64_w, i32_w]
    rfl
  refine pure_ (i := 2) (N := some 171) (v := ?_) (a' := ?_) #[true, false, true, false, false, false, false, false, false, false, false, false] rfl rfl (by kernel_rfl) (fun _ _ _ h => h) (Or.inl ⟨by rfl, ?_⟩) ?_ ?_
  rotate_left
  · intro w'
    go_simp
    with_reducible rfl
  rotate_left
  · simp only [Act.put, List.setIfInBounds_toArray, List.set_cons_zero, List.set_cons_succ, i64_w, i32_w]
    rfl
  refine pure_ (i := 4) (N := some 173) (v := ?_) (a' := ?_) #[true, false, true, false, true, false, false, false, false, false, false, false] rfl rfl (by kernel_rfl) (fun _ _ _ h => h) (Or.inl ⟨by rfl, ?_⟩) ?_ ?_
  rotate_left
  · intro w'
    go_simp
    with_reducible rfl
  rotate_left
  · simp only [Act.put, List.setIfInBounds_toArray, List.set_cons_zero, List.set_cons_succ, i64_w, i32_w]
    rfl
  refine pure_ (i := 6) (N := some 175) (v := ?_) (a' := ?_) #[true, false, true, false, true, false, true, false, false, false, false, false] rfl rfl (by kernel_rfl) (fun _ _ _ h => h) (Or.inl ⟨by rfl, ?_⟩) ?_ ?_
  rotate_left
  · intro w'
    go_simp
    with_reducible rfl
  rotate_left
  · simp only [Act.put, List.setIfInBounds_toArray, List.set_cons_zero, List.set_cons_succ, i64_w, i32_w]
    rfl
  refine take_ (i := 1) (N := some 170) (v := ?_) (a' := ?_) #[true, true, true, false, true, false, true, false, false, false, false, false] rfl rfl (by kernel_rfl) (fun _ _ _ h => h) (Or.inl ⟨by rfl, ?_⟩) hHeld ?_ ?_
  rotate_left
  · rintro w' ⟨s0, s1, s2, s3, s4, s5, s6⟩
    go_simp
    with_reducible rfl
  rotate_left
  · simp only [Act.put, List.setIfInBounds_toArray, List.set_cons_zero, List.set_cons_succ, i64_w, i32_w]
    rfl
  refine take_ (i := 3) (N := some 172) (v := ?_) (a' := ?_) #[true, true, true, true, true, false, true, false, false, false, false, false] rfl rfl (by kernel_rfl) (fun _ _ _ h => h) (Or.inl ⟨by rfl, ?_⟩) hHeld ?_ ?_
  rotate_left
  · rintro w' ⟨s0, s1, s2, s3, s4, s5, s6⟩
    go_simp
    with_reducible rfl
  rotate_left
  · simp only [Act.put, List.setIfInBounds_toArray, List.set_cons_zero, List.set_cons_succ, i64_w, i32_w]
    rfl
  refine take_ (i := 5) (N := some 174) (v := ?_) (a' := ?_) #[true, true, true, true, true, true, true, false, false, false, false, false] rfl rfl (by kernel_rfl) (fun _ _ _ h => h) (Or.inl ⟨by rfl, ?_⟩) hHeld ?_ ?_
  rotate_left
  · rintro w' ⟨s0, s1, s2, s3, s4, s5, s6⟩
    go_simp
    with_reducible rfl
  rotate_left
  · simp only [Act.put, List.setIfInBounds_toArray, List.set_cons_zero, List.set_cons_succ, i64_w, i32_w]
    rfl
  refine take_ (i := 7) (N := some 176) (v := ?_) (a' := ?_) #[true, true, true, true, true, true, true, true, false, false, false, false] rfl rfl (by kernel_rfl) (fun _ _ _ h => h) (Or.inl ⟨by rfl, ?_⟩) hHeld ?_ ?_
  rotate_left
  · rintro w' ⟨s0, s1, s2, s3, s4, s5, s6⟩
    go_simp
    with_reducible rfl
  rotate_left
  · simp only [Act.put, List.setIfInBounds_toArray, List.set_cons_zero, List.set_cons_succ, i64_w, i32_w]
    rfl
  refine pure_ (i := 8) (N := some 177) (v := ?_) (a' := ?_) #[true, true, true, true, true, true, true, true, true, false, false, false] rfl rfl (by kernel_rfl) (fun _ _ _ h => h) (Or.inl ⟨by rfl, ?_⟩) ?_ ?_
  rotate_left
  · intro w'
    go_simp
    with_reducible rfl
  rotate_left
  · simp only [Act.put, List.setIfInBounds_toArray, List.set_cons_zero, List.set_cons_succ, i64_w, i32_w]
    rfl
  refine take_ (i := 9) (N := some 178) (v := ?_) (a' := ?_) #[true, true, true, true, true, true, true, true, true, true, false, false] rfl rfl (by kernel_rfl) (fun _ _ _ h => h) (Or.inl ⟨by rfl, ?_⟩) hHeld ?_ ?_
  rotate_left
  · rintro w' ⟨s0, s1, s2, s3, s4, s5, s6⟩
    go_simp
    with_reducible rfl
  rotate_left
  · simp only [Act.put, List.setIfInBounds_toArray, List.set_cons_zero, List.set_cons_succ, i64_w, i32_w]
    rfl
  refine pure_ (i := 10) (N := some 179) (v := ?_) (a' := ?_) #[true, true, true, true, true, true, true, true, true, true, true, false] rfl rfl (by kernel_rfl) (fun _ _ _ h => h) (Or.inl ⟨by rfl, ?_⟩) ?_ ?_
  rotate_left
  · intro w'
    go_simp
    with_reducible rfl
  rotate_left
  · simp only [Act.put, List.setIfInBounds_toArray, List.set_cons_zero, List.set_cons_succ, i64_w, i32_w]
    rfl
  refine last_ (i := 11) (N := none) #[true, true, true, true, true, true, true, true, true, true, true, true] rfl rfl (by kernel_rfl) (by decide) (fun K hK => ?_)
  have hy_ := (LS_at0 HSy.out HP.out HI0.out HI1.out).1
  have hf_ := (LS_at0 HSy.out HP.out HI0.out HI1.out).2
  refine skip_ (w1 := ?_) (by rfl) rfl ?_ ?_
  rotate_left
  · go_simp
    rfl
  have HSz : Aside0 (LS w0 w (wy.setCell ⟨b0, part.toNat, none⟩ (.int .i64 p)) g2 g3 g4 (.slice (some ⟨b0, 0, none⟩) l0.length c0) (.slice (some ⟨b1, 0, none⟩) l1.length c1) (l0.set part.toNat p) l1 q 5 part other) := ⟨LS_put0 HSy.out part p⟩
  clear HSy
  generalize (wy.setCell ⟨b0, part.toNat, none⟩ (.int .i64 p)) = wz at HSz ⊢
  refine hK.out _ _ ?_
  clear hK K
  refine done_ (by kernel_rfl) ?_
  
  obtain ⟨hx20, hx21, hx22, hx30, hx31, hx32, hx40, hx41, hx42, hf40, hf41, hf42, hf22⟩ := LS_c HSz.out
  go_wp2
  refine bodyPost_ret (results_ct rfl _ _ g4 26 #[(.slice (some ⟨b0, 0, none⟩) l0.length c0), (.slice (some ⟨b1, 0, none⟩) l1.length c1), .int .i64 q] (0, 0) _ rfl (by refine blk_put (cs := #[(.slice (some ⟨b0, 0, none⟩) l0.length c0), (.slice (some ⟨b1, 0, none⟩) l1.length c1), .int .i64 0]) ?_ 2 _ rfl; refine blk_put (cs := #[(.slice (some ⟨b0, 0, none⟩) l0.length c0), .slice none 0 0, .int .i64 0]) ?_ 1 _ rfl; refine blk_put (cs := #[.slice none 0 0, .slice none 0 0, .int .i64 0]) ?_ 0 _ rfl; exact HSz.out.2.2.1) Try.underlying26 rfl (by kernel_rfl)) rfl ?_
  exact ⟨rfl, LS_fin HSz.out⟩
theorem h_l16 (w0 w : World) (b0 b1 c0 c1 : Nat) (l0 l1 : List Int) (q kind part other : Int) (hR : ComR w0 w (.slice (some ⟨b0, 0, none⟩) l0.length c0) (.slice (some ⟨b1, 0, none⟩) l1.length c1) l0 l1) (hn : 1 ≤ l0.length) (hn5 : l0.length ≤ 5) (he : l1.length = l0.length) (hq : q = 0 ∨ q = 1 ∨ q = 2) :
    Calls Try.prog 23 #[.agg #[.slice (some ⟨b0, 0, none⟩) l0.length c0, .slice (some ⟨b1, 0, none⟩) l1.length c1, .int .i64 q], .agg #[.int .i64 kind, .int .i64 part, .int .i64 other]] w fun e w' => e = .returned (.tuple #[.agg #[.slice (some ⟨b0, 0, none⟩) l0.length c0, .slice (some ⟨b1, 0, none⟩) l1.length c1, .int .i64 (stepR l0 l1 q kind part other).2.2.1], .bool (stepR l0 l1 q kind part other).2.2.2]) ∧ ComR w0 w' (.slice (some ⟨b0, 0, none⟩) l0.length c0) (.slice (some ⟨b1, 0, none⟩) l1.length c1) (stepR l0 l1 q kind part other).1 (stepR l0 l1 q kind part other).2.1 ∧ Kept w w' (fun k => some k = (Value.slice (some ⟨b0, 0, none⟩) l0.length c0).ownBlock ∨ some k = (Value.slice (some ⟨b1, 0, none⟩) l1.length c1).ownBlock) := by
  unfold stepR
  by_cases hp : (decide ((0 : Int) ≤ part) && decide (part ≤ (l0.length : Int) - 1)) = true
  · rw [if_pos hp]
    have hp2 := hp
    simp only [Bool.and_eq_true, decide_eq_true_eq] at hp2
    have h0 : 0 ≤ part := hp2.1
    have h1 : part < l0.length := by omega
    have hz0 : (decide ((0 : Int) ≤ 0) && decide ((0 : Int) ≤ (l0.length : Int) - 1)) = true := by simp; omega
    by_cases k5 : kind = 5
    · rw [if_pos k5]
      subst k5
      by_cases ho : (decide ((0 : Int) ≤ other) && decide (other ≤ (l0.length : Int) - 1)) = true
      · rw [if_pos ho]
        simp only [Bool.and_eq_true, decide_eq_true_eq] at ho
        have h2 : 0 ≤ other := ho.1
        have h3 : other < l0.length := by omega
        by_cases hne : other = part
        · rw [if_pos hne]
          subst hne
          exact h_l16_K5a w0 w b0 b1 c0 c1 l0 l1 q 5 other other _ hR hn hn5 he h0 h1 rfl
        · rw [if_neg hne]
          have hne' : (other != part) = true := bne_iff_ne.mpr hne
          by_cases p1 : rd l0 part = 1
          · rw [if_pos p1]
            by_cases hov : overB (rd l0 other) = true
            · rw [if_pos hov]
              exact h_l16_K5d w0 w b0 b1 c0 c1 l0 l1 q 5 part other _ hR hn hn5 he h0 h1 h2 h3 p1 hne' rfl hov
            · rw [if_neg hov]
              exact h_l16_K5c w0 w b0 b1 c0 c1 l0 l1 q 5 part other _ hR hn hn5 he h0 h1 h2 h3 p1 hne' rfl (by simpa using hov)
          · rw [if_neg p1]
            exact h_l16_K5b w0 w b0 b1 c0 c1 l0 l1 q 5 part other _ hR hn hn5 he h0 h1 h2 h3 rfl hne' (beq_eq_false_iff_ne.mpr p1)
      · rw [if_neg ho]
        exact h_l16_B w0 w b0 b1 c0 c1 l0 l1 q 5 part other 0 hR hn hn5 he hp (by simpa only [Bool.not_eq_true] using ho)
    · rw [if_neg k5]
      by_cases hz : other = 0
      · rw [if_pos hz]
        subst hz
        by_cases k1 : kind = 1
        · rw [if_pos k1]
          subst k1
          by_cases p0 : rd l0 part = 0
          · rw [if_pos p0]
            by_cases hq0 : q = 0
            · rw [if_pos hq0]
              subst hq0
              exact h_l16_K1a w0 w b0 b1 c0 c1 l0 l1 0 1 part 0 0 hR hn hn5 he h0 h1 p0
            · rw [if_neg hq0]
              exact h_l16_K1b w0 w b0 b1 c0 c1 l0 l1 q 1 part 0 0 hR hn hn5 he h0 h1 p0 (beq_eq_false_iff_ne.mpr hq0)
          · rw [if_neg p0]
            exact h_l16_K1c w0 w b0 b1 c0 c1 l0 l1 q 1 part 0 _ hR hn hn5 he h0 h1 rfl (beq_eq_false_iff_ne.mpr p0)
        · rw [if_neg k1]
          by_cases k2 : kind = 2
          · rw [if_pos k2]
            subst k2
            by_cases p0 : rd l0 part = 0
            · rw [if_pos p0]
              by_cases hq1 : q = 1
              · rw [if_pos hq1]
                subst hq1
                exact h_l16_K2b w0 w b0 b1 c0 c1 l0 l1 1 2 part 0 0 hR hn hn5 he h0 h1 p0
              · rw [if_neg hq1]
                exact h_l16_K2a w0 w b0 b1 c0 c1 l0 l1 q 2 part 0 0 hR hn hn5 he h0 h1 p0 (bne_iff_ne.mpr hq1)
            · rw [if_neg p0]
              exact h_l16_K2c w0 w b0 b1 c0 c1 l0 l1 q 2 part 0 _ hR hn hn5 he h0 h1 rfl (beq_eq_false_iff_ne.mpr p0)
          · rw [if_neg k2]
            by_cases k3 : kind = 3
            · rw [if_pos k3]
              subst k3
              by_cases hp0 : part = 0
              · rw [if_pos hp0]
                subst hp0
                by_cases hq0 : q = 0
                · subst hq0
                  exact h_l16_K3a w0 w b0 b1 c0 c1 l0 l1 0 3 0 0 _ hR hn hn5 he rfl
                · have e1 : decW l1 q = q := if_neg hq0
                  rw [e1, decide_eq_false hq0]
                  exact h_l16_K3b w0 w b0 b1 c0 c1 l0 l1 q 3 0 0 _ hR hn hn5 he rfl (beq_eq_false_iff_ne.mpr hq0)
              · rw [if_neg hp0]
                exact h_l16_K3c w0 w b0 b1 c0 c1 l0 l1 q 3 part 0 _ hR hn hn5 he h0 h1 rfl (beq_eq_false_iff_ne.mpr hp0)
            · rw [if_neg k3]
              by_cases k4 : kind = 4
              · rw [if_pos k4]
                subst k4
                unfold tellP tellB
                cases hov : overB (rd l0 part) with
                | true => exact h_l16_K4a w0 w b0 b1 c0 c1 l0 l1 q 4 part 0 _ hR hn hn5 he h0 h1 rfl hov
                | false =>
                  rcases hq with rfl | rfl | rfl
                  · exact h_l16_K4d w0 w b0 b1 c0 c1 l0 l1 0 4 part 0 _ hR hn hn5 he h0 h1 rfl hov rfl rfl
                  · exact h_l16_K4b w0 w b0 b1 c0 c1 l0 l1 1 4 part 0 _ hR hn hn5 he h0 h1 rfl hov
                  · exact h_l16_K4c w0 w b0 b1 c0 c1 l0 l1 2 4 part 0 _ hR hn hn5 he h0 h1 rfl hov
              · rw [if_neg k4]
                exact h_l16_K6 w0 w b0 b1 c0 c1 l0 l1 q kind part 0 _ hR hn hn5 he h0 h1 rfl (beq_eq_false_iff_ne.mpr k1) (beq_eq_false_iff_ne.mpr k2) (beq_eq_false_iff_ne.mpr k3) (beq_eq_false_iff_ne.mpr k4) (beq_eq_false_iff_ne.mpr k5) (bne_iff_ne.mpr k5)
      · rw [if_neg hz]
        by_cases ho : (decide ((0 : Int) ≤ other) && decide (other ≤ (l0.length : Int) - 1)) = true
        · exact h_l16_C w0 w b0 b1 c0 c1 l0 l1 q kind part other 0 hR hn hn5 he hp ho (bne_iff_ne.mpr k5) (bne_iff_ne.mpr hz)
        · exact h_l16_B w0 w b0 b1 c0 c1 l0 l1 q kind part other 0 hR hn hn5 he hp (by simpa only [Bool.not_eq_true] using ho)
  · rw [if_neg hp]
    exact h_l16_A w0 w b0 b1 c0 c1 l0 l1 q kind part other 0 hR hn hn5 he (by simpa only [Bool.not_eq_true] using hp)
def spec_l16Step.f (l0_0 l0_1 : List Int) (a0_2 a1_0 a1_1 a1_2 : Int) : Option (List Int × List Int × Int × Bool) := if 1 ≤ l0_0.length then (if l0_0.length ≤ 5 then (if l0_1.length = l0_0.length then (if a0_2 = 0 ∨ a0_2 = 1 ∨ a0_2 = 2 then some (stepR l0_0 l0_1 a0_2 a1_0 a1_1 a1_2) else none) else none) else none) else none
theorem spec_l16Step.calls (P0_0_ : Nat → Prop) (u9000_ : Value) (l0_0 : List Int) (P0_1_ : Nat → Prop) (u9001_ : Value) (l0_1 : List Int) (a0_2 : Int) (a1_0 : Int) (a1_1 : Int) (a1_2 : Int) (r1 : List Int) (r2 : List Int) (r3 : Int) (r4 : Bool) (w0 w : World) (hB : Below w0.heap.size w0 w) (ho0_0 : Kd.R (Kd.int .i64) 3 w w0.heap.size P0_0_ u9000_ l0_0) (hp0_0_0_1 : ∀ k_, P0_0_ k_ → ¬ P0_1_ k_) (ho0_1 : Kd.R (Kd.int .i64) 3 w w0.heap.size P0_1_ u9001_ l0_1) (hp0_1_0_0 : ∀ k_, P0_1_ k_ → ¬ P0_0_ k_) (h : spec_l16Step.f l0_0 l0_1 a0_2 a1_0 a1_1 a1_2 = some (r1, r2, r3, r4)) :
    Calls Try.prog 23 #[.agg #[u9000_, u9001_, .int .i64 a0_2], .agg #[.int .i64 a1_0, .int .i64 a1_1, .int .i64 a1_2]] w fun e w' => ∃ v0_ v1_ : Value, e = .returned (.tuple #[.agg #[v0_, v1_, .int .i64 r3], .bool r4]) ∧ Kd.R (Kd.int .i64) 3 w' w0.heap.size (fun k_ => ((P0_0_ k_ ∨ P0_1_ k_) ∨ w.heap.size ≤ k_) ∧ some k_ ≠ (v1_ : Value).ownBlock) v0_ r1 ∧ Kd.R (Kd.int .i64) 3 w' w0.heap.size (fun k_ => ((P0_0_ k_ ∨ P0_1_ k_) ∨ w.heap.size ≤ k_) ∧ some k_ ≠ (v0_ : Value).ownBlock) v1_ r2 ∧ Below w0.heap.size w0 w' ∧ Kept w w' (fun k_ => P0_0_ k_ ∨ P0_1_ k_) := by
  unfold spec_l16Step.f at h
  by_cases hn : 1 ≤ l0_0.length
  · rw [if_pos hn] at h
    by_cases hn5 : l0_0.length ≤ 5
    · rw [if_pos hn5] at h
      by_cases he : l0_1.length = l0_0.length
      · rw [if_pos he] at h
        by_cases hq : a0_2 = 0 ∨ a0_2 = 1 ∨ a0_2 = 2
        · rw [if_pos hq] at h
          have hs := Option.some.inj h
          obtain ⟨b0, c0, e0, _⟩ := Kd.R_form ho0_0 (by omega)
          obtain ⟨b1, c1, e1, _⟩ := Kd.R_form ho0_1 (by omega)
          subst e0
          subst e1
          have t0 := ho0_0.1
          have t1 := ho0_1.1
          have hR : ComR w0 w (.slice (some ⟨b0, 0, none⟩) l0_0.length c0) (.slice (some ⟨b1, 0, none⟩) l0_1.length c1) l0_0 l0_1 :=
            ⟨Kd.R_mono (Kd.R_tight rfl ho0_0) (fun k hk h2 => hp0_0_0_1 k (t0 k hk.symm) (t1 k h2.symm)), Kd.R_mono (Kd.R_tight rfl ho0_1) (fun k hk h2 => hp0_1_0_0 k (t1 k hk.symm) (t0 k h2.symm)), hB⟩
          refine (h_l16 w0 w b0 b1 c0 c1 l0_0 l0_1 a0_2 a1_0 a1_1 a1_2 hR hn hn5 he hq).mono ?_
          rw [hs]
          rintro e w' ⟨rfl, hr, hk⟩
          refine ⟨_, _, rfl, Kd.R_mono (Kd.R_tight2 rfl hr.1) (fun k hk => ⟨.inl (.inl (t0 k hk.1.symm)), hk.2⟩), Kd.R_mono (Kd.R_tight2 rfl hr.2.1) (fun k hk => ⟨.inl (.inr (t1 k hk.1.symm)), hk.2⟩), hr.2.2, hk.mono (fun k hk => hk.elim (fun h1 => .inl (t0 k h1.symm)) (fun h1 => .inr (t1 k h1.symm)))⟩
        · rw [if_neg hq] at h
          cases h
      · rw [if_neg he] at h
        cases h
    · rw [if_neg hn5] at h
      cases h
  · rw [if_neg hn] at h
    cases h

end Go.Proofs.Ytjefmihaiaimlaa.PFnExactFinishCommit
