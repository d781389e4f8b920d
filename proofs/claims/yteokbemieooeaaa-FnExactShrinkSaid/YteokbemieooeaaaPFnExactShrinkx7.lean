-- Written for this claim by the session's own program (drive.py), over the kit's print, with contracts typed by hand.
import Derived.Test.YteokbemieooeaaaPFnExactShrinkx0
import Derived.Test.YteokbemieooeaaaPFnExactShrinkx2
import Derived.Test.YteokbemieooeaaaPFnExactShrinkx5
import Derived.Test.YteokbemieooeaaaPFnExactShrinkx6
namespace Go.Proofs.Yteokbemieooeaaa.PFnExactShrink
open Go.RowKit Go.Proofs.YteokbemieooeaaaW.PrintWords Go.Proofs.YteokbemieooeaaaW.PrintLast Go.Proofs.YteokbemieooeaaaW.PrintMore
attribute [local go_sem] max2_int min2_int max_two min_two max_three min_three max_four min_four   -- for this text's walks alone
set_option linter.unusedVariables false
set_option linter.unusedSimpArgs false

/-! ### impl_groups: function 42, by hand -/
theorem h_R_empty {α : Type} (d : Kd α) {e base g : Nat} {ok : Nat → Prop} {w : World} (hh : w.heap[g]? = some (.cells #[] e (0, 0))) (hb : base ≤ g) (hok : ok g) : d.R e w base ok (.slice (some ⟨g, 0, none⟩) 0 0) [] :=
  ⟨fun k hk => by
    have : g = k := by simpa [Value.ownBlock] using hk
    subst this
    exact hok, [], ⟨by simp, .inr ⟨g, 0, #[], rfl, hb, hh, Nat.le_refl _, Nat.zero_le _, by simp, by simp⟩⟩, Reps.none _ _⟩
theorem h_S_empty {α : Type} (d : Kd α) {e base g : Nat} {ok : Nat → Prop} {w : World} (hh : w.heap[g]? = some (.cells #[] e (0, 0))) (hb : base ≤ g) (hok : ok g) : Kd.S d e w base ok (.slice (some ⟨g, 0, none⟩) 0 0) [] :=
  ⟨fun _ => 0, h_R_empty (Kd.tag (fun _ => 0) d) hh hb hok⟩
theorem h_gap_erase {α : Type} {d : Kd α} {e base i : Nat} {f : Nat → Nat} {c : List Value} {ok : Nat → Prop} {w : World} {v : Value} {xs : List α} (h : (Kd.gap f d i c).R e w base ok v (xs.zipIdx.eraseIdx i)) : Kd.S d e w base ok v (xs.eraseIdx i) := by
  refine Kd.S_erase (f := f) (k := i) ?_
  obtain ⟨h0, inner, ho, hr⟩ := h
  refine ⟨h0, inner, ho, hr.1, fun j p hj => ?_⟩
  have hp : p.2 ≠ i := by
    rw [List.getElem?_eraseIdx] at hj
    by_cases hji : j < i
    · rw [if_pos hji, List.getElem?_zipIdx, Nat.zero_add] at hj
      obtain ⟨q, _, rfl⟩ := Option.map_eq_some_iff.1 hj
      show j ≠ i
      omega
    · rw [if_neg hji, List.getElem?_zipIdx, Nat.zero_add] at hj
      obtain ⟨q, _, rfl⟩ := Option.map_eq_some_iff.1 hj
      show j + 1 ≠ i
      omega
  exact (hr.2 j p hj).2 hp
/-- There is room for one more group. -/
def h_fits (told row : List Int) : Bool := decide (told.length + row.length ≤ 1000000)
def impl_groups.left (k : Nat) (l : List (List Int)) : Nat → Nat → List (List Int) → Option (List (List Int))
  | 0, _, left => some left
  | d + 1, i, left => (impl_group.f k l (i : Int)).bind fun own => if 0 < own.length then (if own.getD 0 0 = (i : Int) then impl_groups.left k l d (i + 1) (left ++ [own]) else impl_groups.left k l d (i + 1) left) else none
def impl_groups.ok (k : Nat) (l : List (List Int)) (told own : List Int) : Option Bool := (slices_Concat_int_int.f k [told, own]).bind fun cc => if 0 < own.length then (impl_reach.f k l (own.getD 0 0)).map fun rs => rs.all fun n => cc.contains n else none
def impl_groups.pick (k : Nat) (l : List (List Int)) : Nat → List (List Int) → List (List Int) → List Int → Option (List (List Int))
  | 0, _, out, _ => some out
  | d + 1, left, out, told => if (∀ x ∈ left, (impl_groups.ok k l told x).isSome = true) then ((left.findIdx? fun x => (impl_groups.ok k l told x).getD false).bind fun i => if h_fits told (left.getD i []) = true then impl_groups.pick k l d (left.eraseIdx i) (out ++ [left.getD i []]) (told ++ left.getD i []) else none) else none
def impl_groups.f (k : Nat) (l0 : List (List Int)) : Option (List (List Int)) := if l0.length ≤ 12 then (impl_groups.left k l0 l0.length 0 []).bind fun left => impl_groups.pick k l0 left.length left [] [] else none
theorem impl_groups.left_mono (k : Nat) (l : List (List Int)) : ∀ d i left, LeO (impl_groups.left k l d i left) (impl_groups.left (k + 1) l d i left)
  | 0, i, left => by
    unfold impl_groups.left
    exact LeO.refl _
  | d + 1, i, left => by
    have ih := impl_groups.left_mono k l d (i + 1)
    unfold impl_groups.left
    refine LeO.bind (impl_group.mono _ _ k) fun own => ?_
    refine LeO.ite ?_ (LeO.none _)
    exact LeO.ite (ih _) (ih _)
theorem impl_groups.ok_mono (k : Nat) (l : List (List Int)) (told own : List Int) : LeO (impl_groups.ok k l told own) (impl_groups.ok (k + 1) l told own) :=
  LeO.bind (slices_Concat_int_int.mono _ k) fun _ => LeO.ite (LeO.map _ (impl_reach.mono _ _ k)) (LeO.none _)
theorem h_find_same {α : Type} {p q : α → Bool} : ∀ xs : List α, (∀ x ∈ xs, p x = q x) → xs.findIdx? p = xs.findIdx? q
  | [], _ => rfl
  | x :: xs, h => by
    rw [List.findIdx?_cons, List.findIdx?_cons, h x (by simp), h_find_same xs fun y hy => h y (List.mem_cons_of_mem _ hy)]
theorem impl_groups.pick_mono0 (k : Nat) (l : List (List Int)) (d : Nat) (ih : ∀ left out told, LeO (impl_groups.pick k l d left out told) (impl_groups.pick (k + 1) l d left out told)) (left out : List (List Int)) (told : List Int) : LeO (impl_groups.pick k l (d + 1) left out told) (impl_groups.pick (k + 1) l (d + 1) left out told) := by
  rw [impl_groups.pick, impl_groups.pick]
  by_cases ha : ∀ x ∈ left, (impl_groups.ok k l told x).isSome = true
  · have h1 : ∀ x ∈ left, (impl_groups.ok (k + 1) l told x).isSome = true ∧ (impl_groups.ok (k + 1) l told x).getD false = (impl_groups.ok k l told x).getD false := fun x hx => by
      obtain ⟨b, hb⟩ := Option.isSome_iff_exists.1 (ha x hx)
      rw [impl_groups.ok_mono k l told x b hb, hb]
      exact ⟨rfl, rfl⟩
    rw [if_pos ha, if_pos fun x hx => (h1 x hx).1, h_find_same left fun x hx => (h1 x hx).2]
    refine LeO.bind (LeO.refl _) fun i => ?_
    refine LeO.ite ?_ (LeO.none _)
    exact ih _ _ _
  · rw [if_neg ha]
    exact LeO.none _
theorem impl_groups.pick_mono (k : Nat) (l : List (List Int)) (d : Nat) : ∀ left out told, LeO (impl_groups.pick k l d left out told) (impl_groups.pick (k + 1) l d left out told) := by
  induction d with
  | zero =>
    intro left out told
    rw [impl_groups.pick, impl_groups.pick]
    exact LeO.refl _
  | succ d ih => exact impl_groups.pick_mono0 k l d ih
theorem impl_groups.mono : ∀ a0 k, LeO (impl_groups.f k a0) (impl_groups.f (k + 1) a0) := fun a0 k r hr => by
  unfold impl_groups.f at hr ⊢
  by_cases h : a0.length ≤ 12
  · rw [if_pos h] at hr ⊢
    obtain ⟨left, h1, h2⟩ := Option.bind_eq_some_iff.1 hr
    rw [impl_groups.left_mono k a0 _ _ _ left h1, Option.bind_some]
    exact impl_groups.pick_mono k a0 _ _ _ _ r h2
  · rw [if_neg h] at hr
    cases hr
/-- What is kept while the nodes are gone through. -/
def h_GL (w0 w : World) (c : Value) (left : List (List Int)) (v : Value) : Prop :=
  Kd.S (Kd.slice 3 (Kd.int .i64)) 24 w w0.heap.size (fun k => k ≠ w0.heap.size) v left ∧ w.heap[w0.heap.size]? = some (.cells #[c] 22 (0, 0)) ∧ Below w0.heap.size w0 w
/-- What is kept while groups are told: no two rows share a block. -/
def h_GP (w0 w : World) (Bl Bt : Nat) (c : Value) (left out : List (List Int)) (told : List Int) (vl vo vt : Value) : Prop :=
  ∃ L O T : Nat → Prop, (∀ k, L k → ¬ O k ∧ ¬ T k ∧ k ≠ Bl ∧ k ≠ Bt) ∧ (∀ k, O k → ¬ T k ∧ k ≠ Bl ∧ k ≠ Bt) ∧ (∀ k, T k → k ≠ Bl ∧ k ≠ Bt) ∧ Bl ≠ Bt ∧ w0.heap.size ≤ Bt ∧
    Kd.S (Kd.slice 3 (Kd.int .i64)) 24 w w0.heap.size L vl left ∧ Kd.S (Kd.slice 3 (Kd.int .i64)) 24 w w0.heap.size O vo out ∧ Kd.R (Kd.int .i64) 3 w w0.heap.size T vt told ∧
    w.heap[Bl]? = some (.cells #[c] 22 (0, 0)) ∧ w.heap[Bt]? = some (.cells #[vt] 24 (0, 0)) ∧ Below w0.heap.size w0 w
theorem h_GP_below {w0 w w1 : World} {Bl Bt : Nat} {c : Value} {left out : List (List Int)} {told : List Int} {vl vo vt : Value} (h : h_GP w0 w Bl Bt c left out told vl vo vt) (hb : Below w.heap.size w w1) : h_GP w0 w1 Bl Bt c left out told vl vo vt := by
  obtain ⟨L, O, T, h1, h2, h3, h4, h5, h6, h7, h8, h9, h10, h11⟩ := h
  exact ⟨L, O, T, h1, h2, h3, h4, h5, Kd.S_below h6 hb, Kd.S_below h7 hb, Kd.R_below h8 hb, blk_below h9 hb, blk_below h10 hb, below_step h11 hb⟩
set_option maxHeartbeats 16000000 in
set_option maxRecDepth 100000 in
theorem h_groups (k : Nat) (A0 : Option Addr) (c0 : Nat) (l0 : List (List Int)) (r : List (List Int)) (w : World) (hr0 : Kd.C (Kd.slice 3 (Kd.int .i64)) w A0 l0.length l0) (hc0 : l0.length ≤ c0) (h : impl_groups.f k l0 = some r) :
    Calls Try.prog 42 #[.slice A0 l0.length c0] w fun e w' => ∃ v0_ : Value, e = .returned v0_ ∧ Kd.S (Kd.slice 3 (Kd.int .i64)) 24 w' w.heap.size (fun _ => True) v0_ r ∧ Below w.heap.size w w' := by
  unfold impl_groups.f at h
  by_cases h12 : l0.length ≤ 12
  rotate_left
  · rw [if_neg h12] at h
    cases h
  rw [if_pos h12] at h
  obtain ⟨left0, hL0, hP0⟩ := Option.bind_eq_some_iff.1 h
  clear h
  have HG := Lib.hid (show ∀ (i : Int) (rs : List Int) (W : World), Below w.heap.size w W → impl_group.f k l0 i = some rs → Calls Try.prog 74 #[.slice A0 l0.length c0, .int .i64 i] W _ from fun i rs W hb hi => impl_group.calls k A0 c0 l0 i rs W (Kd.C_below hr0 hb) hc0 hi)
  have HR0 := Aside0.mk hr0
  have HC0 := Aside0.mk hc0
  have HL0 := Aside0.mk hL0
  have HP0 := Aside0.mk hP0
  clear hr0 hc0 hL0 hP0
  go_enter Try.func42, Try.ntmps42
  go_wp2
  go_loopg [3, 4, 5, 12] l0.length (fun gg s3 s4 s5 s12 wr => ∃ (i : Nat) (left : List (List Int)) (v : Value), v = s3 ∧ s12 = .int .i64 i ∧ i ≤ l0.length ∧ l0.length - i ≤ gg ∧ left.length ≤ i ∧ Aside0 (impl_groups.left k l0 (l0.length - i) i left = some left0) ∧ Aside0 (h_GL w wr (.slice A0 l0.length c0) left v))
  case atStart => exact ⟨0, [], _, rfl, rfl, Nat.zero_le _, by omega, Nat.zero_le _, HL0, ⟨h_S_empty _ (g := w.heap.size + 1) (by simpa using heap_alloc_new (w.alloc (.cells #[.slice A0 l0.length c0] 22)) (.cells #[] 24)) (by omega) (by omega), blk_alloc (heap_alloc_new w _) _, below_alloc (below_alloc (Below.refl _ _) _) _⟩⟩
  case round =>
    clear HL0
    obtain ⟨i, left, v, rfl, rfl, hil, hgg, hll, HL, HGL⟩ := hrel
    obtain ⟨hS, hbl, hB⟩ := HGL.out
    have hcl : wr.cell? ⟨w.heap.size, 0, none⟩ = some (.slice A0 l0.length c0) := (blk_cell hbl 0).trans rfl
    by_cases hlt : i < l0.length
    · have hltz : (i : Int) < (l0.length : Int) := by omega
      obtain ⟨d, hd⟩ : ∃ d, l0.length - i = d + 1 := ⟨l0.length - i - 1, by omega⟩
      have hd2 : d = l0.length - (i + 1) := by omega
      have h := HL.out
      rw [hd, impl_groups.left] at h
      obtain ⟨own, hown, h⟩ := Option.bind_eq_some_iff.1 h
      by_cases hpos : 0 < own.length
      rotate_left
      · rw [if_neg hpos] at h
        cases h
      rw [if_pos hpos] at h
      have hposz : (0 : Int) < (own.length : Int) := by omega
      have HCALL := Lib.hid (HG.out (i : Int) own wr hB hown)
      have hlt2 := World.block_lt_of_cell? _ _ hcl
      have HSB := Aside0.mk (Kd.S_bound hS)
      have HBL := Aside0.mk hbl
      have HB := Aside0.mk hB
      clear hS hbl hB HGL HL hown
      have hrd : rdOf 0 own (0 : Int) = own.getD 0 0 := by simp [rdOf]
      generalize own.getD 0 0 = o0 at h hrd
      by_cases he : o0 = (i : Int)
      · rw [if_pos he, hd2] at h
        have H := Aside0.mk h
        have heq : (o0 == (i : Int)) = true := beq_iff_eq.2 he
        clear h he
        go_wp2_with (first | (go_at_call 74; refine HCALL.out.mono ?_; rintro e w2 ⟨v5, rfl, hR, hb⟩; obtain ⟨g5, c5, rfl, hg5, hl5, cells5, hcells5⟩ := Kd.R_form hR hpos; have hx5 := (Kd.R_celln 0 hR (0 : Int) (by omega) (by omega)).1; (rw [show (0 : Int).toNat = 0 from rfl, hrd] at hx5); have HR5 := Aside0.mk hR; have HB5 := Aside0.mk hb; have HG5 := Aside0.mk hg5; clear hR hb hg5 hl5 hcells5) | ((with_reducible refine gate_builtin (b := .append) (xs := #[.tmp 23, .tmp 25]) rfl ?_); at_builtin; refine Kd.S_append (Kd.slice 3 (Kd.int .i64)) (w0 := w) w.heap.size rfl (.tmp 23) (.tmp 25) 22 24 (.slice none 0 0) 24 rfl Try.underlying22 info24 rfl (by decide) (by omega) v left own [.slice (some ⟨g5, 0, none⟩) own.length c5] (fun k_ => k_ ≠ w.heap.size) (fun k_ => some k_ = (.slice (some ⟨g5, 0, none⟩) own.length c5 : Value).ownBlock) rfl rfl ?aP ?aK ?aF ?aO ?aB ?aS ?aL ?_; (case aP => exact Kd.M_row (Kd.R_tight rfl (Kd.R_lower HR5.out (by have := HB.out.size; omega)))); (case aK => (intro k_ hk; have e_ : k_ = g5 := (by simpa [Value.ownBlock] using hk); have h_ := HG5.out; refine ⟨by omega, fun e2_ => ?_⟩; have h2_ := ((Kd.S_R HSB.out).1 k_ e2_.symm).2.2.1; omega)); (case aF => (intro k_ hk; have := HB5.out.size; omega)); (case aO => exact Kd.S_mono (Kd.S_below HSB.out HB5.out) (fun k_ hk => ⟨hk.1, fun e_ => by have e2_ : k_ = g5 := (by simpa [Value.ownBlock] using e_); have := HG5.out; have := hk.2.2.1; omega⟩)); (case aB => exact below_step HB.out HB5.out); (case aS => (have := HB.out.size; have := HB5.out.size; omega)); (case aL => omega); intro v9 w9 hS9 hB9 hg9 hat9; have HS9 := Aside0.mk hS9; have HB9 := Aside0.mk hB9; have HBL9 := Aside0.mk (blk_grown (blk_below HBL.out HB5.out) hg9 (fun e_ => ((Kd.S_R HSB.out).1 _ e_.symm).1 rfl)); clear hS9 hB9 hg9 hat9))
        go_roundg (l0.length - (i + 1))
        case measure => omega
        case rel => exact ⟨i + 1, left ++ [own], v9, rfl, by go_num, by omega, by omega, by rw [List.length_append, List.length_singleton]; omega, H, ⟨HS9.out, HBL9.out, HB9.out⟩⟩
      · rw [if_neg he, hd2] at h
        have H := Aside0.mk h
        have heq : (o0 == (i : Int)) = false := beq_eq_false_iff_ne.2 he
        clear h he
        go_wp2_with (first | (go_at_call 74; refine HCALL.out.mono ?_; rintro e w2 ⟨v5, rfl, hR, hb⟩; obtain ⟨g5, c5, rfl, hg5, hl5, cells5, hcells5⟩ := Kd.R_form hR hpos; have hx5 := (Kd.R_celln 0 hR (0 : Int) (by omega) (by omega)).1; (rw [show (0 : Int).toNat = 0 from rfl, hrd] at hx5); have HB5 := Aside0.mk hb; clear hR hb hg5 hl5 hcells5))
        go_roundg (l0.length - (i + 1))
        case measure => omega
        case rel => exact ⟨i + 1, left, v, rfl, by go_num, by omega, by omega, by omega, H, ⟨Kd.S_mono (Kd.S_below HSB.out HB5.out) (fun k_ hk => hk.1), blk_below HBL.out HB5.out, below_step HB.out HB5.out⟩⟩
    · have hltz : ¬ (i : Int) < (l0.length : Int) := by omega
      obtain rfl : i = l0.length := by omega
      have h := HL.out
      rw [Nat.sub_self, impl_groups.left] at h
      obtain rfl := Option.some.inj h
      have hlt2 : w.heap.size < wr.heap.size := World.block_lt_of_cell? _ _ hcl
      have HSB := Aside0.mk (Kd.S_bound hS)
      have HBL := Aside0.mk hbl
      have HB := Aside0.mk hB
      have hsz := hB.size
      clear hS hbl hB HGL HL h
      have eg : ∀ args w, (callFunc 76 args).run Try.prog w = .ok (.enter 76 args) w := enters_ Try.func76 (by kernel_rfl) rfl
      have hGP : h_GP w (((wr.alloc (.cells #[] 24)).alloc (.cells #[] 3)).alloc (.cells #[.slice (some ⟨wr.heap.size + 1, 0, none⟩) 0 0] 24)) w.heap.size (wr.heap.size + 1 + 1) (.slice A0 l0.length c0) left [] [] v (.slice (some ⟨wr.heap.size, 0, none⟩) 0 0) (.slice (some ⟨wr.heap.size + 1, 0, none⟩) 0 0) := by
        have b1 : (((wr.alloc (.cells #[] 24)).alloc (.cells #[] 3)).alloc (.cells #[.slice (some ⟨wr.heap.size + 1, 0, none⟩) 0 0] 24)).heap[wr.heap.size]? = some (.cells #[] 24 (0, 0)) := blk_alloc (blk_alloc (heap_alloc_new wr _) _) _
        have b2 : (((wr.alloc (.cells #[] 24)).alloc (.cells #[] 3)).alloc (.cells #[.slice (some ⟨wr.heap.size + 1, 0, none⟩) 0 0] 24)).heap[wr.heap.size + 1]? = some (.cells #[] 3 (0, 0)) := by
          have h_ := blk_alloc (heap_alloc_new (wr.alloc (.cells #[] 24)) (.cells #[] 3)) (.cells #[.slice (some ⟨wr.heap.size + 1, 0, none⟩) 0 0] 24)
          simpa using h_
        have b3 : (((wr.alloc (.cells #[] 24)).alloc (.cells #[] 3)).alloc (.cells #[.slice (some ⟨wr.heap.size + 1, 0, none⟩) 0 0] 24)).heap[wr.heap.size + 1 + 1]? = some (.cells #[.slice (some ⟨wr.heap.size + 1, 0, none⟩) 0 0] 24 (0, 0)) := by
          have h_ := heap_alloc_new ((wr.alloc (.cells #[] 24)).alloc (.cells #[] 3)) (.cells #[.slice (some ⟨wr.heap.size + 1, 0, none⟩) 0 0] 24)
          simpa using h_
        exact ⟨fun k_ => k_ ≠ w.heap.size ∧ k_ < wr.heap.size, fun k_ => k_ = wr.heap.size, fun k_ => k_ = wr.heap.size + 1, fun k_ hk => by have h1_ := hk.1; have h2_ := hk.2; refine ⟨?_, ?_, h1_, ?_⟩ <;> omega, fun k_ hk => by subst hk; refine ⟨?_, ?_, ?_⟩ <;> omega, fun k_ hk => by subst hk; refine ⟨?_, ?_⟩ <;> omega, by omega, by omega, Kd.S_alloc (Kd.S_alloc (Kd.S_alloc (Kd.S_mono HSB.out (fun k_ hk => ⟨hk.1, hk.2.2.1⟩)) _) _) _, h_S_empty _ b1 hsz rfl, h_R_empty _ b2 (by omega) rfl, blk_alloc (blk_alloc (blk_alloc HBL.out _) _) _, b3, below_alloc (below_alloc (below_alloc HB.out _) _) _⟩
      have HGP := Aside0.mk hGP
      have hgeB : w.heap.size < wr.heap.size + 1 + 1 := by omega
      clear hGP HSB HBL HB hcl hlt2 hsz hltz hlt hgg HG
      go_wp2
      generalize wr.heap.size + 1 + 1 = Bt at HGP hgeB ⊢
      go_loopg [3, 6, 8] left.length (fun gg s3 s6 s8 wq => ∃ (lf out : List (List Int)) (told : List Int) (vl vo vt : Value), vl = s3 ∧ vo = s6 ∧ lf.length ≤ gg ∧ out.length + lf.length ≤ 12 ∧ Aside0 (impl_groups.pick k l0 lf.length lf out told = some r) ∧ Aside0 (h_GP w wq w.heap.size Bt (.slice A0 l0.length c0) lf out told vl vo vt))
      case atStart => exact ⟨left, [], [], _, _, _, rfl, rfl, Nat.le_refl _, by simp; omega, HP0, HGP⟩
      case round =>
        clear HP0 HGP
        obtain ⟨lf, out, told, vl, vo, vt, rfl, rfl, hgg, hol, HP, HGP⟩ := hrel
        by_cases hpos : 0 < lf.length
        · have hposz : (lf.length : Int) > 0 := by omega
          obtain ⟨d, hd⟩ : ∃ d, lf.length = d + 1 := ⟨lf.length - 1, by omega⟩
          have h := HP.out
          rw [hd, impl_groups.pick] at h
          by_cases hall : ∀ x ∈ lf, (impl_groups.ok k l0 told x).isSome = true
          rotate_left
          · rw [if_neg hall] at h
            cases h
          rw [if_pos hall] at h
          obtain ⟨i, hfi, h⟩ := Option.bind_eq_some_iff.1 h
          by_cases hfit : h_fits told (lf.getD i []) = true
          rotate_left
          · rw [if_neg hfit] at h
            cases h
          rw [if_pos hfit] at h
          have hi : i < lf.length := (List.findIdx?_eq_some_iff_getElem.1 hfi).1
          have hid : d = (lf.eraseIdx i).length := by rw [List.length_eraseIdx, if_pos hi]; omega
          rw [hid] at h
          have hidx : idxF (fun x => (impl_groups.ok k l0 told x).getD false) lf = (i : Int) := by unfold idxF; rw [hfi]
          have hIF : Calls Try.prog 75 #[vl, .func (.func 76) #[] #[.pointer (some ⟨Bt, 0, none⟩), .pointer (some ⟨w.heap.size, 0, none⟩)]] wr fun e w' => e = .returned (.int .i64 (i : Int)) ∧ Below wr.heap.size wr w' := by
            obtain ⟨L, O, T, hLO, hOT, hTB, hne, hge, hSl, hSo, hRt, hbl, hbt, hB⟩ := HGP.out
            obtain ⟨Al, cl, rfl⟩ := Kd.S_slice hSl
            obtain ⟨At, ct, rfl⟩ := Kd.R_slice hRt
            rw [← hidx]
            exact IndexFunc_rows _ _ eg Al cl lf _ wr (h_groups1 k Bt w.heap.size A0 c0 l0 At ct told wr (blk_lt hbt) (blk_lt hbl) ((blk_cell hbt 0).trans rfl) ((blk_cell hbl 0).trans rfl) (Kd.C_below HR0.out hB) HC0.out (Kd.R_reads' hRt).2.2 (Kd.R_reads' hRt).2.1 lf _ (fun x hx => by
              obtain ⟨b, hb⟩ := Option.isSome_iff_exists.1 (hall x hx)
              have hb2 := hb
              unfold impl_groups.ok at hb2
              obtain ⟨cc, q1, q2⟩ := Option.bind_eq_some_iff.1 hb2
              by_cases hx0 : 0 < x.length
              · rw [if_pos hx0] at q2
                obtain ⟨rs, q3, q4⟩ := Option.map_eq_some_iff.1 q2
                exact ⟨cc, rs, q1, hx0, q3, by rw [hb, Option.getD_some, q4]⟩
              · rw [if_neg hx0] at q2
                cases q2)) (Kd.S_reads' hSl).2.2
          have HIF := Lib.hid hIF
          have H := Aside0.mk h
          have HFIT := Aside0.mk (show told.length + (lf.getD i []).length ≤ 1000000 from of_decide_eq_true hfit)
          have HLEN := Aside0.mk (show (out.length + 1) * 24 ≤ 140737488355328 by omega)
          have hi0 : (0 : Int) ≤ (i : Int) := by omega
          have hi1 : (i : Int) < (lf.length : Int) := by omega
          have hi2 : (i : Int) < 12 := by omega
          obtain ⟨gl, cl, rfl⟩ : ∃ gl cl, vl = .slice (some ⟨gl, 0, none⟩) lf.length cl := by
            obtain ⟨L, O, T, hLO, hOT, hTB, hne, hge, hSl, _⟩ := HGP.out
            obtain ⟨gl, cl, e_, _⟩ := Kd.S_form hSl hpos
            exact ⟨gl, cl, e_⟩
          obtain ⟨At, ct, rfl⟩ : ∃ At ct, vt = .slice At told.length ct := by
            obtain ⟨L, O, T, hLO, hOT, hTB, hne, hge, hSl, hSo, hRt, _⟩ := HGP.out
            obtain ⟨At, ct, e_⟩ := Kd.R_slice hRt
            exact ⟨At, ct, e_⟩
          clear hIF h hall hfi hfit hidx HP hid hd
          go_wp2_with (first | (go_at_call 75; refine HIF.out.mono ?_; rintro e w2 ⟨rfl, hb⟩; have HG3 := Aside0.mk (h_GP_below (h_GP_below HGP.out hb) (below_drew (Below.refl _ _))); clear hb HGP HIF))
          obtain ⟨L0, O, T0, hLO0, hOT0, hTB0, hne, hge, hSl0, hSo0, hRt0, hbl, hbt, hB3⟩ := HG3.out
          -- the sets, told to the blocks that are there
          obtain ⟨L, hL_⟩ : ∃ L : Nat → Prop, L = fun k_ => L0 k_ ∧ k_ < w2.drew.heap.size := ⟨_, rfl⟩
          obtain ⟨T, hT_⟩ : ∃ T : Nat → Prop, T = fun k_ => T0 k_ ∧ k_ < w2.drew.heap.size := ⟨_, rfl⟩
          have hLb : ∀ k_, L k_ → k_ < w2.drew.heap.size := fun k_ hk => by rw [hL_] at hk; exact hk.2
          have hTb : ∀ k_, T k_ → k_ < w2.drew.heap.size := fun k_ hk => by rw [hT_] at hk; exact hk.2
          have hLO : ∀ k_, L k_ → ¬ O k_ ∧ ¬ T k_ ∧ k_ ≠ w.heap.size ∧ k_ ≠ Bt := fun k_ hk => by
            rw [hL_] at hk
            obtain ⟨q1, q2, q3, q4⟩ := hLO0 k_ hk.1
            exact ⟨q1, fun h_ => by rw [hT_] at h_; exact q2 h_.1, q3, q4⟩
          have hOT : ∀ k_, O k_ → ¬ T k_ ∧ k_ ≠ w.heap.size ∧ k_ ≠ Bt := fun k_ hk => by
            obtain ⟨q2, q3, q4⟩ := hOT0 k_ hk
            exact ⟨fun h_ => by rw [hT_] at h_; exact q2 h_.1, q3, q4⟩
          have hTB : ∀ k_, T k_ → k_ ≠ w.heap.size ∧ k_ ≠ Bt := fun k_ hk => by
            rw [hT_] at hk
            exact hTB0 k_ hk.1
          have hSl : Kd.S (Kd.slice 3 (Kd.int .i64)) 24 w2.drew w.heap.size L (.slice (some ⟨gl, 0, none⟩) lf.length cl) lf := Kd.S_mono (Kd.S_bound hSl0) (fun k_ hk => by rw [hL_]; exact ⟨hk.1, hk.2.2.1⟩)
          have hRt : Kd.R (Kd.int .i64) 3 w2.drew w.heap.size T (.slice At told.length ct) told := Kd.R_mono (Kd.R_bound hRt0) (fun k_ hk => by rw [hT_]; exact ⟨hk.1, hk.2.2.1⟩)
          have hLgl : L gl := (Kd.S_R hSl).1 gl (by simp [Value.ownBlock])
          obtain ⟨oki, cc, hcl, hM, hcc, hoki, hH⟩ := Kd.S_lend hSl [] (i : Int) hi0 hi1
          obtain ⟨vi, rfl, hRi⟩ := hM
          have hxi := hcc 0 vi rfl
          simp only [Int.toNat_natCast, show (Kd.slice 3 (Kd.int .i64)).sz = 1 from rfl, Nat.mul_one, Nat.add_zero] at hxi hRi
          generalize lf.getD i [] = row at hRi hxi HFIT H
          obtain ⟨Ai, ci, rfl⟩ := Kd.R_slice hRi
          have hxt : w2.drew.cell? ⟨Bt, 0, none⟩ = some (.slice At told.length ct) := (blk_cell hbt 0).trans rfl
          have HSO := Aside0.mk hSo0
          have HT := Aside0.mk hRt
          have HH := Aside0.mk hH
          have HRI := Aside0.mk hRi
          have HOKI := Aside0.mk hoki
          have HBL := Aside0.mk hbl
          have HBT := Aside0.mk hbt
          have HB3 := Aside0.mk hB3
          have hj1 := eq_true hi0
          have hj2 := eq_true hi1
          clear hL_ hT_ hLO0 hOT0 hTB0 hSl0 hSo0 hRt0 hbl hbt hB3 hSl hRt hH hRi hoki hcc hcl HG3
          refine start_ (n := 15) (S := fun w' => w'.cell? ⟨gl, i, none⟩ = some (.slice Ai row.length ci) ∧ w'.cell? ⟨Bt, 0, none⟩ = some (.slice At told.length ct)) (ds := [14]) #[false, false, false, false, false, false, false, false, false, false, false, false, false, false, false] (by kernel_rfl) rfl rfl ⟨hxi, hxt⟩ (fun hHeld => ?_)
          generalize w2.drew = w3 at HSO HT HH HRI HBL HBT HB3 hHeld hLb hTb ⊢
          clear hxi hxt
          refine pure_ (i := 0) (N := some 36) (v := ?_) (a' := ?_) #[true, false, false, false, false, false, false, false, false, false, false, false, false, false, false] rfl rfl (by kernel_rfl) (fun _ _ _ h => h) (Or.inl ⟨by rfl, ?_⟩) ?_ ?_
          rotate_left
          · intro w'
            go_simp
            with_reducible rfl
          rotate_left
          · simp only [Act.put, List.setIfInBounds_toArray, List.set_cons_zero, List.set_cons_succ, i64_w, i32_w]
            rfl
          refine pure_ (i := 1) (N := some 37) (v := ?_) (a' := ?_) #[true, true, false, false, false, false, false, false, false, false, false, false, false, false, false] rfl rfl (by kernel_rfl) (fun _ _ _ h => h) (Or.inl ⟨by rfl, ?_⟩) ?_ ?_
          rotate_left
          · intro w'
            go_simp
            with_reducible rfl
          rotate_left
          · simp only [Act.put, List.setIfInBounds_toArray, List.set_cons_zero, List.set_cons_succ, i64_w, i32_w]
            rfl
          refine pure_ (i := 2) (N := some 38) (v := ?_) (a' := ?_) #[true, true, true, false, false, false, false, false, false, false, false, false, false, false, false] rfl rfl (by kernel_rfl) (fun _ _ _ h => h) (Or.inl ⟨by rfl, ?_⟩) ?_ ?_
          rotate_left
          · intro w'
            go_simp
            with_reducible rfl
          rotate_left
          · simp only [Act.put, List.setIfInBounds_toArray, List.set_cons_zero, List.set_cons_succ, i64_w, i32_w]
            rfl
          refine pure_ (i := 3) (N := some 39) (v := ?_) (a' := ?_) #[true, true, true, true, false, false, false, false, false, false, false, false, false, false, false] rfl rfl (by kernel_rfl) (fun _ _ _ h => h) (Or.inl ⟨by rfl, ?_⟩) ?_ ?_
          rotate_left
          · intro w'
            go_simp
            with_reducible rfl
          rotate_left
          · simp only [Act.put, List.setIfInBounds_toArray, List.set_cons_zero, List.set_cons_succ, i64_w, i32_w]
            rfl
          refine pure_ (i := 8) (N := some 44) (v := ?_) (a' := ?_) #[true, true, true, true, false, false, false, false, true, false, false, false, false, false, false] rfl rfl (by kernel_rfl) (fun _ _ _ h => h) (Or.inl ⟨by rfl, ?_⟩) ?_ ?_
          rotate_left
          · intro w'
            go_simp
            with_reducible rfl
          rotate_left
          · simp only [Act.put, List.setIfInBounds_toArray, List.set_cons_zero, List.set_cons_succ, i64_w, i32_w]
            rfl
          refine pure_ (i := 9) (N := some 45) (v := ?_) (a' := ?_) #[true, true, true, true, false, false, false, false, true, true, false, false, false, false, false] rfl rfl (by kernel_rfl) (fun _ _ _ h => h) (Or.inl ⟨by rfl, ?_⟩) ?_ ?_
          rotate_left
          · intro w'
            go_simp
            with_reducible rfl
          rotate_left
          · simp only [Act.put, List.setIfInBounds_toArray, List.set_cons_zero, List.set_cons_succ, i64_w, i32_w]
            rfl
          refine pure_ (i := 10) (N := some 46) (v := ?_) (a' := ?_) #[true, true, true, true, false, false, false, false, true, true, true, false, false, false, false] rfl rfl (by kernel_rfl) (fun _ _ _ h => h) (Or.inl ⟨by rfl, ?_⟩) ?_ ?_
          rotate_left
          · intro w'
            go_simp
            with_reducible rfl
          rotate_left
          · simp only [Act.put, List.setIfInBounds_toArray, List.set_cons_zero, List.set_cons_succ, i64_w, i32_w]
            rfl
          refine take_ (i := 4) (N := some 40) (v := ?_) (a' := ?_) #[true, true, true, true, true, false, false, false, true, true, true, false, false, false, false] rfl rfl (by kernel_rfl) (fun _ _ _ h => h) (Or.inl ⟨by rfl, ?_⟩) hHeld ?_ ?_
          rotate_left
          · rintro w' ⟨s0, s1⟩
            go_simp
            with_reducible rfl
          rotate_left
          · simp only [Act.put, List.setIfInBounds_toArray, List.set_cons_zero, List.set_cons_succ, i64_w, i32_w]
            rfl
          refine take_ (i := 7) (N := some 43) (v := ?_) (a' := ?_) #[true, true, true, true, true, false, false, true, true, true, true, false, false, false, false] rfl rfl (by kernel_rfl) (fun _ _ _ h => h) (Or.inl ⟨by rfl, ?_⟩) hHeld ?_ ?_
          rotate_left
          · rintro w' ⟨s0, s1⟩
            go_simp
            with_reducible rfl
          rotate_left
          · simp only [Act.put, List.setIfInBounds_toArray, List.set_cons_zero, List.set_cons_succ, i64_w, i32_w]
            rfl
          refine take_ (i := 11) (N := some 47) (v := ?_) (a' := ?_) #[true, true, true, true, true, false, false, true, true, true, true, true, false, false, false] rfl rfl (by kernel_rfl) (fun _ _ _ h => h) (Or.inl ⟨by rfl, ?_⟩) hHeld ?_ ?_
          rotate_left
          · rintro w' ⟨s0, s1⟩
            go_simp
            with_reducible rfl
          rotate_left
          · simp only [Act.put, List.setIfInBounds_toArray, List.set_cons_zero, List.set_cons_succ, i64_w, i32_w]
            rfl
          refine one_ (i := 5) (N := some 41) #[true, true, true, true, true, true, false, true, true, true, true, true, false, false, false] rfl rfl (by kernel_rfl) (by decide) (fun K hK => ?_)
          refine value_ (w1 := ?_) (v := ?_) (by rfl) rfl ?_ ?_
          rotate_left 2
          · go_simp
            constructor
            · rfl
            · rfl
          refine hK.out _ _ ⟨(World.cell?_alloc_lt _ _ _ (World.block_lt_of_cell? _ _ hHeld.1)).trans hHeld.1, (World.cell?_alloc_lt _ _ _ (World.block_lt_of_cell? _ _ hHeld.2)).trans hHeld.2⟩ (fun hHeld2 => ?_)
          clear hK K
          refine norm_ (a' := ?_) ?_ ?_
          rotate_left
          · show Act.put _ (some 41) _ = _
            simp only [Act.put, List.setIfInBounds_toArray, List.set_cons_zero, List.set_cons_succ, i64_w, i32_w]
            rfl
          refine one_ (i := 6) (N := some 42) #[true, true, true, true, true, true, true, true, true, true, true, true, false, false, false] rfl rfl (by kernel_rfl) (by decide) (fun K hK => ?_)
          refine Kd.S_append_step (Kd.slice 3 (Kd.int .i64)) (w0 := w) w.heap.size (by rfl) (.tmp 36) (.tmp 41) 22 24 (.slice none 0 0) 24 rfl Try.underlying22 info24 rfl (by decide) (by omega) vo out row [.slice Ai row.length ci] (fun k_ => O k_ ∨ oki k_ ∨ w3.heap.size ≤ k_) oki rfl rfl ⟨_, rfl, HRI.out⟩ (fun k_ hk => ⟨.inr (.inl hk), fun e_ => (hLO k_ (HOKI.out k_ hk).1).1 ((Kd.S_R HSO.out).1 k_ e_.symm)⟩) (fun k_ hk => .inr (.inr hk)) (Kd.S_mono HSO.out (fun k_ hk => ⟨.inl hk, fun h_ => (hLO k_ (HOKI.out k_ h_).1).1 hk⟩)) HB3.out HB3.out.size (by have := HLEN.out; omega) ?_
          intro v1 w4 hS4 hB4 hg4 hat4
          have hne4 : ∀ k_, L k_ ∨ T k_ ∨ oki k_ → some k_ ≠ vo.ownBlock := fun k_ hk e_ => by
            have hO_ := (Kd.S_R HSO.out).1 k_ e_.symm
            rcases hk with hk | hk | hk
            · exact (hLO k_ hk).1 hO_
            · exact (hOT k_ hO_).1 hk
            · exact (hLO k_ (HOKI.out k_ hk).1).1 hO_
          have HH4 := Aside0.mk (Kd.H_other HH.out hg4 (fun k_ hk => hne4 k_ (.inl hk)))
          have HT4 := Aside0.mk (Kd.R_grown HT.out hg4 (fun k_ hk => hne4 k_ (.inr (.inl hk))))
          have HRI4 := Aside0.mk (Kd.R_grown HRI.out hg4 (fun k_ hk => hne4 k_ (.inr (.inr hk))))
          have hbo4 : some w.heap.size ≠ vo.ownBlock ∧ some Bt ≠ vo.ownBlock := ⟨fun e_ => (hOT w.heap.size ((Kd.S_R HSO.out).1 w.heap.size e_.symm)).2.1 rfl, fun e_ => (hOT Bt ((Kd.S_R HSO.out).1 Bt e_.symm)).2.2 rfl⟩
          have HBL4 := Aside0.mk (blk_grown HBL.out hg4 hbo4.1)
          have HBT4 := Aside0.mk (blk_grown HBT.out hg4 hbo4.2)
          have hc4 := cell_grown hg4 hHeld.1 (hne4 gl (.inl hLgl))
          have hd4 := cell_grown hg4 hHeld.2 hbo4.2
          have HS4 := Aside0.mk (Kd.S_mono (ok' := fun k_ => (O k_ ∨ oki k_ ∨ w3.heap.size ≤ k_) ∧ k_ < w4.heap.size) (Kd.S_bound hS4) (fun k_ hk => ⟨hk.1, hk.2.2.1⟩))
          have HB4 := Aside0.mk hB4
          have hsz4 : w3.heap.size ≤ w4.heap.size := hg4.size
          refine hK.out _ _ ⟨hc4, hd4⟩ (fun hHeld3 => ?_)
          clear hK K
          refine norm_ (a' := ?_) ?_ ?_
          rotate_left
          · show Act.put _ (some 42) _ = _
            simp only [Act.put, List.setIfInBounds_toArray, List.set_cons_zero, List.set_cons_succ, i64_w, i32_w]
            rfl
          refine one_ (i := 12) (N := some 48) #[true, true, true, true, true, true, true, true, true, true, true, true, true, false, false] rfl rfl (by kernel_rfl) (by decide) (fun K hK => ?_)
          refine Kd.R_append_rows_step (Kd.int .i64) (w0 := w) w.heap.size (by rfl) (.tmp 43) (.tmp 47) 24 3 (.int .i64 0) 8 rfl Try.underlying24 info3 rfl (by decide) (by omega) (.slice At told.length ct) told row _ _ _ (fun k_ => T k_ ∨ w4.heap.size ≤ k_) (fun _ => False) rfl rfl (Kd.R_mono HT4.out (fun _ hk => .inl hk)) (Kd.R_reads' HRI4.out).2.2 (fun _ _ h => h) (fun _ h => h.elim) (fun k_ hk => .inr hk) HB4.out HB4.out.size (by have := HFIT.out; omega) ?_
          intro v2 w5 hT5 hB5 hg5 hat5
          have hT_ : ∀ k_, some k_ = (.slice At told.length ct : Value).ownBlock → T k_ := fun k_ e_ => HT.out.1 k_ e_.symm
          have hTlt : ∀ k_, T k_ → k_ < w3.heap.size := hTb
          have HS5 := Aside0.mk (Kd.S_grown HS4.out hg5 (fun k_ hk e_ => by
            have h_ := hT_ k_ e_
            rcases hk.1 with hk | hk | hk
            · exact (hOT k_ hk).1 h_
            · exact (hLO k_ (HOKI.out k_ hk).1).2.1 h_
            · have := hTlt k_ h_
              omega))
          have HH5 := Aside0.mk (Kd.H_other HH4.out hg5 (fun k_ hk e_ => (hLO k_ hk).2.1 (hT_ k_ e_)))
          have hbt5 : some w.heap.size ≠ (.slice At told.length ct : Value).ownBlock ∧ some Bt ≠ (.slice At told.length ct : Value).ownBlock := ⟨fun e_ => (hTB w.heap.size (hT_ w.heap.size e_)).1 rfl, fun e_ => (hTB Bt (hT_ Bt e_)).2 rfl⟩
          have HBL5 := Aside0.mk (blk_grown HBL4.out hg5 hbt5.1)
          have HBT5 := Aside0.mk (blk_grown HBT4.out hg5 hbt5.2)
          have hc5 := cell_grown hg5 hHeld3.1 (fun e_ => (hLO gl hLgl).2.1 (hT_ gl e_))
          have hd5 := cell_grown hg5 hHeld3.2 hbt5.2
          have hf5 : w5.frozen? ⟨Bt, 0, none⟩ = false := blk_frozen HBT5.out 0
          have HT5 := Aside0.mk hT5
          have HB5 := Aside0.mk hB5
          obtain ⟨A9, c9, rfl⟩ := Kd.R_slice hT5
          refine hK.out _ _ ⟨hc5, hd5⟩ (fun hHeld4 => ?_)
          clear hK K
          refine norm_ (a' := ?_) ?_ ?_
          rotate_left
          · show Act.put _ (some 48) _ = _
            simp only [Act.put, List.setIfInBounds_toArray, List.set_cons_zero, List.set_cons_succ, i64_w, i32_w]
            rfl
          refine pure_ (i := 13) (N := some 6) (v := ?_) (a' := ?_) #[true, true, true, true, true, true, true, true, true, true, true, true, true, true, false] rfl rfl (by kernel_rfl) (fun _ _ _ h => h) (Or.inl ⟨by rfl, ?_⟩) ?_ ?_
          rotate_left
          · intro w'
            go_simp
            with_reducible rfl
          rotate_left
          · simp only [Act.put, List.setIfInBounds_toArray, List.set_cons_zero, List.set_cons_succ, i64_w, i32_w]
            rfl
          refine last_ (i := 14) (N := none) #[true, true, true, true, true, true, true, true, true, true, true, true, true, true, true] rfl rfl (by kernel_rfl) (by decide) (fun K hK => ?_)
          refine skip_ (w1 := ?_) (by rfl) rfl ?_ ?_
          rotate_left
          · go_simp
            rfl
          refine hK.out _ _ ?_
          clear hK K
          refine done_ (by kernel_rfl) ?_
          rw [List.length_append] at hT5
          have e9 : (.slice A9 (told.length + row.length) c9 : Value) = .slice A9 (told ++ row).length c9 := by rw [List.length_append]
          have hO6 : ∀ k_, ((O k_ ∨ oki k_ ∨ w3.heap.size ≤ k_) ∧ k_ < w4.heap.size) → k_ ≠ w.heap.size ∧ k_ ≠ Bt ∧ k_ ≠ gl := fun k_ hk => by
            have hglt := hLb gl hLgl
            have hbtl := blk_lt HBT.out
            have hbll := blk_lt HBL.out
            rcases hk.1 with h_ | h_ | h_
            · exact ⟨(hOT k_ h_).2.1, (hOT k_ h_).2.2, fun e_ => (hLO gl hLgl).1 (e_ ▸ h_)⟩
            · exact ⟨(hLO k_ (HOKI.out k_ h_).1).2.2.1, (hLO k_ (HOKI.out k_ h_).1).2.2.2, (HOKI.out k_ h_).2⟩
            · refine ⟨?_, ?_, ?_⟩ <;> omega
          have hT6 : ∀ k_, (T k_ ∨ w4.heap.size ≤ k_) → k_ ≠ w.heap.size ∧ k_ ≠ Bt := fun k_ hk => by
            have hbtl := blk_lt HBT4.out
            have hbll := blk_lt HBL4.out
            rcases hk with h_ | h_
            · exact hTB k_ h_
            · refine ⟨?_, ?_⟩ <;> omega
          have HS6 := Aside0.mk (Kd.S_far (p := ⟨Bt, 0, none⟩) HS5.out (fun k_ hk => (hO6 k_ hk).2.1) (.slice A9 (told.length + row.length) c9))
          have HH6 := Aside0.mk (Kd.H_far (p := ⟨Bt, 0, none⟩) HH5.out (fun k_ hk => (hLO k_ hk).2.2.2) (.slice A9 (told.length + row.length) c9))
          have HT6 := Aside0.mk (Kd.R_far (p := ⟨Bt, 0, none⟩) hT5 (fun k_ hk => (hT6 k_ hk).2) (.slice A9 (told.length + row.length) c9))
          have HBL6 := Aside0.mk (blk_far (p := ⟨Bt, 0, none⟩) HBL5.out hne (.slice A9 (told.length + row.length) c9))
          have HBT6 := Aside0.mk (show (w5.setCell ⟨Bt, 0, none⟩ (.slice A9 (told.length + row.length) c9)).heap[Bt]? = some (.cells #[.slice A9 (told.length + row.length) c9] 24 (0, 0)) from blk_set HBT5.out 0 (.slice A9 (told.length + row.length) c9))
          have HB6 := Aside0.mk (HB5.out.setCell (p := ⟨Bt, 0, none⟩) hge (.slice A9 (told.length + row.length) c9))
          have hbnd : ∀ k_, L k_ → ¬ w3.heap.size ≤ k_ := fun k_ hk => by have := hLb k_ hk; omega
          clear hc5 hd5 hf5 hbt5 hc4 hd4 hbo4 hne4 hHeld hHeld2 hHeld3 hHeld4 HS5 HH5 HT5 HBL5 HBT5 HB5 HS4 HH4 HT4 HRI4 HBL4 HBT4 HB4 HSO HT HH HRI HBL HBT HB3 hT5 hT_ hTlt hS4 hB4 hg4 hat4 hB5 hg5 hat5
          generalize w5.setCell ⟨Bt, 0, none⟩ (.slice A9 (told.length + row.length) c9) = w6 at HS6 HH6 HT6 HBL6 HBT6 HB6 ⊢
          obtain ⟨_, f, hgR⟩ := HH6.out
          rw [Int.toNat_natCast] at hgR
          have HDEL := Lib.hid (Delete_rows (Kd.gap f (Kd.slice 3 (Kd.int .i64)) i [.slice Ai row.length ci]) rfl gl lf.length cl i (fun k_ => L k_ ∧ ¬ oki k_) lf.zipIdx w w6 HB6.out hgR hi (by omega))
          clear hgR HH6
          go_wp2_with (first | (go_at_call 78; refine HDEL.out.mono ?_; rintro e w7 ⟨rfl, hR7, hB7, hK7⟩; have HL7 := Aside0.mk (h_gap_erase hR7); have HB7 := Aside0.mk hB7; have HK7 := Aside0.mk hK7; clear hR7 hB7 hK7 HDEL))
          go_roundg (lf.length - 1)
          case measure => omega
          case rel =>
            have hle : (lf.eraseIdx i).length = lf.length - 1 := by rw [List.length_eraseIdx, if_pos hi]
            refine ⟨lf.eraseIdx i, out ++ [row], told ++ row, .slice (some ⟨gl, 0, none⟩) (lf.length - 1) cl, v1, .slice A9 (told.length + row.length) c9, by first | rfl | simp, rfl, by omega, by rw [hle, List.length_append, List.length_singleton]; omega, H, ⟨fun k_ => L k_ ∧ ¬ oki k_, fun k_ => (O k_ ∨ oki k_ ∨ w3.heap.size ≤ k_) ∧ k_ < w4.heap.size, fun k_ => T k_ ∨ w4.heap.size ≤ k_, ?_, ?_, ?_, hne, hge, HL7.out, Kd.S_kept HS6.out HK7.out (fun k_ hk => (hO6 k_ hk).2.2), Kd.R_kept HT6.out HK7.out ?_, blk_kept HBL6.out HK7.out (fun e_ => (hLO gl hLgl).2.2.1 e_.symm), blk_kept HBT6.out HK7.out (fun e_ => (hLO gl hLgl).2.2.2 e_.symm), HB7.out⟩⟩
            · intro k_ hk
              obtain ⟨q1, q2, q3, q4⟩ := hLO k_ hk.1
              refine ⟨fun h_ => ?_, fun h_ => ?_, q3, q4⟩
              · rcases h_.1 with h_ | h_ | h_
                · exact q1 h_
                · exact hk.2 h_
                · exact hbnd k_ hk.1 h_
              · rcases h_ with h_ | h_
                · exact q2 h_
                · exact hbnd k_ hk.1 (by omega)
            · intro k_ hk
              refine ⟨fun h_ => ?_, (hO6 k_ hk).1, (hO6 k_ hk).2.1⟩
              rcases h_ with h_ | h_
              · rcases hk.1 with hk | hk | hk
                · exact (hOT k_ hk).1 h_
                · exact (hLO k_ (HOKI.out k_ hk).1).2.1 h_
                · have := hTb k_ h_
                  omega
              · have := hk.2
                omega
            · exact hT6
            · intro k_ hk e_
              subst e_
              rcases hk with h_ | h_
              · exact (hLO _ hLgl).2.1 h_
              · exact hbnd _ hLgl (by omega)
        · have hposz : ¬ (lf.length : Int) > 0 := by omega
          have h := HP.out
          rw [show lf.length = 0 by omega, impl_groups.pick] at h
          obtain rfl := Option.some.inj h
          obtain ⟨L, O, T, hLO, hOT, hTB, hne, hge, hSl, hSo, hRt, hbl, hbt, hB⟩ := HGP.out
          obtain ⟨Al, cl, rfl⟩ := Kd.S_slice hSl
          have HSO := Aside0.mk hSo
          have HB := Aside0.mk hB
          clear hLO hOT hTB hSl hSo hRt hbl hbt hB HGP h HP
          go_wp2
          go_ret
          exact ⟨vo, by first | rfl | simp, Kd.S_mono HSO.out (fun _ _ => trivial), HB.out⟩
-- (told above)
set_option maxHeartbeats 8000000 in
set_option maxRecDepth 100000 in
theorem impl_groups.calls (k : Nat) (A0 : Option Addr) (c0 : Nat) (l0 : List (List Int)) (r : List (List Int)) (w : World) (hr0 : Kd.C (Kd.slice 3 (Kd.int .i64)) w A0 l0.length l0) (hc0 : l0.length ≤ c0) (h : impl_groups.f k l0 = some r) :
    Calls Try.prog 42 #[.slice A0 l0.length c0] w fun e w' => ∃ v0_ : Value, e = .returned (v0_) ∧ Kd.S (Kd.slice 3 (Kd.int .i64)) 24 w' w.heap.size (fun _ => True) v0_ r ∧ Below w.heap.size w w' := by
  exact h_groups k A0 c0 l0 r w hr0 hc0 h

/-! ### slices_Clone_int_int: function 81, by hand -/
def slices_Clone_int_int.f (l0 : List Int) : Option (List Int) := if l0.length * 8 ≤ 140737488355328 then some l0 else none
set_option maxHeartbeats 8000000 in
set_option maxRecDepth 100000 in
theorem slices_Clone_int_int.calls (A0 : Option Addr) (c0 : Nat) (l0 : List Int) (r : List Int) (w : World) (hr0 : Kd.C (Kd.int .i64) w A0 l0.length l0) (hc0 : l0.length ≤ c0) (h : slices_Clone_int_int.f l0 = some r) :
    Calls Try.prog 81 #[.slice A0 l0.length c0] w fun e w' => ∃ v0_ : Value, e = .returned (v0_) ∧ Kd.R (Kd.int .i64) 3 w' w.heap.size (fun _ => True) v0_ r ∧ Below w.heap.size w w' := by
  unfold slices_Clone_int_int.f at h
  by_cases hl : l0.length * 8 ≤ 140737488355328
  · rw [if_pos hl] at h
    obtain rfl := Option.some.inj h
    have key : ∀ (v' : Value) (w' : World), w'.ownsRow w.heap.size 3 1 v' l0.length (l0.map (Value.int .i64)) → Kd.R (Kd.int .i64) 3 w' w.heap.size (fun _ => True) v' l0 :=
      fun v' w' ho => Kd.R_of_own ho (fun _ _ => trivial)
    rcases Nat.eq_zero_or_pos l0.length with h0 | h0
    · obtain rfl : l0 = [] := List.eq_nil_of_length_eq_zero h0
      cases A0 with
      | none =>
        refine (Try.slices_Clone_int_nil 0 c0 w).mono ?_
        rintro e w' ⟨rfl, rfl⟩
        exact ⟨_, rfl, Kd.R_nil _ _ _ _ _, Below.refl _ _⟩
      | some a =>
        refine (Try.slices_Clone_int_zero a c0 w).mono ?_
        rintro e w' ⟨v', rfl, ho, _, hb⟩
        exact ⟨_, rfl, key v' w' ho, hb⟩
    · obtain ⟨b, off, rfl, hcells⟩ := h_ints_at hr0 h0
      refine (Try.slices_Clone_int b off l0.length c0 l0 w (Nat.le_refl _) hl hcells).mono ?_
      rintro e w' ⟨v', rfl, ho, _, hb⟩
      rw [List.take_length] at ho
      exact ⟨_, rfl, key v' w' ho, hb⟩
  · rw [if_neg hl] at h
    cases h

/-! ### impl_both_1: function 82, by hand -/
theorem h_both1 (B : Nat) (A : Option Addr) (c : Nat) (l : List Int) (w : World) (S : Nat → Prop) (hB : ¬ S B) (hcell : w.cell? ⟨B, 0, none⟩ = some (.slice A l.length c)) (hr : ∀ W, Kept w W S → Kd.C (Kd.int .i64) W A l.length l) (hc : l.length ≤ c) (xs : List Int) :
    PredS 82 #[.pointer (some ⟨B, 0, none⟩)] xs (fun n => !l.contains n) w S := by
  intro W x hk _
  have hc0 : W.cell? ⟨B, 0, none⟩ = some (.slice A l.length c) := cell_kept hcell hk hB
  have HC := Lib.hid (h_contains_calls A c l x W (hr W hk) hc)
  clear hcell hk hr hB
  show Calls Try.prog 82 #[.int .i64 x, .pointer (some ⟨B, 0, none⟩)] W _
  go_enter Try.func82, Try.ntmps82
  go_wp2_with (go_at_call 83; refine HC.out.mono ?_; rintro e w' ⟨rfl, hd⟩)
  go_ret
  exact ⟨by first | rfl | simp, hd.below⟩

/-! ### impl_both: function 48, by hand -/
def impl_both.f (l0 : List Int) (l1 : List Int) : Option (List Int) := if l0.length * 8 ≤ 140737488355328 then some (l0.filter fun n => l1.contains n) else none
set_option maxHeartbeats 8000000 in
set_option maxRecDepth 100000 in
theorem impl_both.calls (A0 : Option Addr) (c0 : Nat) (l0 : List Int) (A1 : Option Addr) (c1 : Nat) (l1 : List Int) (r : List Int) (w : World) (hr0 : Kd.C (Kd.int .i64) w A0 l0.length l0) (hc0 : l0.length ≤ c0) (hr1 : Kd.C (Kd.int .i64) w A1 l1.length l1) (hc1 : l1.length ≤ c1) (h : impl_both.f l0 l1 = some r) :
    Calls Try.prog 48 #[.slice A0 l0.length c0, .slice A1 l1.length c1] w fun e w' => ∃ v0_ : Value, e = .returned (v0_) ∧ Kd.R (Kd.int .i64) 3 w' w.heap.size (fun _ => True) v0_ r ∧ Below w.heap.size w w' := by
  unfold impl_both.f at h
  by_cases hl : l0.length * 8 ≤ 140737488355328
  · rw [if_pos hl] at h
    obtain rfl := Option.some.inj h
    have eg : ∀ args w, (callFunc 82 args).run Try.prog w = .ok (.enter 82 args) w := enters_ Try.func82 (by kernel_rfl) rfl
    have hb0 : Below w.heap.size w (w.alloc (.cells #[.slice A1 l1.length c1] 24)) := below_alloc (Below.refl _ _) _
    have HC := Lib.hid (slices_Clone_int_int.calls A0 c0 l0 l0 (w.alloc (.cells #[.slice A1 l1.length c1] 24)) (Kd.C_below hr0 hb0) hc0 (if_pos hl))
    have HD := Lib.hid (show ∀ (v : Value) (w1 : World), Kd.R (Kd.int .i64) 3 w1 (w.heap.size + 1) (fun _ => True) v l0 → Below (w.heap.size + 1) (w.alloc (.cells #[.slice A1 l1.length c1] 24)) w1 → Calls Try.prog 80 #[v, .func (.func 82) #[] #[.pointer (some ⟨w.heap.size, 0, none⟩)]] w1 fun e w' => ∃ v0_ : Value, e = .returned v0_ ∧ Kd.R (Kd.int .i64) 3 w' w.heap.size (fun _ => True) v0_ (l0.filter fun n => l1.contains n) ∧ Below w.heap.size w w' from fun v w1 hR hb => by
      have hsz : (w.alloc (.cells #[.slice A1 l1.length c1] 24)).heap.size = w.heap.size + 1 := by simp
      have hb1 : Below w.heap.size w w1 := below_step hb0 (by rw [hsz]; exact hb)
      have hbase : ∀ k, (some k = v.ownBlock) → w.heap.size + 1 ≤ k := fun k hk => Kd.R_base hR k hk.symm
      have hP := h_both1 w.heap.size A1 c1 l1 w1 (fun k => some k = v.ownBlock) (fun hk => by have := hbase _ hk; omega) (by
        have := pw_cell_below (w := w.alloc (.cells #[.slice A1 l1.length c1] 24)) (w1 := w1) (by rw [hsz]; exact hb) (a := ⟨w.heap.size, 0, none⟩) (v := .slice A1 l1.length c1) (by simp)
        exact this) (Kd.C_kept_came (Kd.heap_int .i64) hr1 hb1 (fun k hk => by have := hbase k hk; omega)) hc1 l0
      refine (DeleteFunc_int 82 _ eg (fun k => some k = v.ownBlock) v l0 _ w w1 hb1 (Kd.R_lower (Kd.R_tight rfl hR) (by omega)) hP).mono ?_
      rintro e w' ⟨v0, rfl, hR', hB', _⟩
      exact ⟨v0, rfl, by simpa using Kd.R_mono (ok' := fun _ => True) hR' (fun _ _ => trivial), hB'⟩)
    clear hr0 hr1 hb0 h hl
    generalize (l0.filter fun n => l1.contains n) = q at HD ⊢
    go_enter Try.func48, Try.ntmps48
    go_wp2_with (first | (go_at_call 81; refine HC.out.mono ?_; rintro e w1 ⟨v, rfl, hR, hb⟩; have HR := Aside0.mk hR; have HB := Aside0.mk hb; clear hR hb) | (go_at_call 80; refine (HD.out _ _ (by simpa using HR.out) (by simpa using HB.out)).mono ?_; rintro e w' ⟨v0, rfl, hR, hb⟩))
    exact bodyPost_ret (v := v0) (by simp [results, go_sem]) rfl ⟨v0, rfl, hR, hb⟩
  · rw [if_neg hl] at h
    cases h

/-! ### impl_Shrink_1: function 47, by hand -/
set_option maxHeartbeats 4000000 in
set_option maxRecDepth 100000 in
theorem h_shrink1 (B1 B2 : Nat) (A : Option Addr) (c : Nat) (l : List (List Int)) (A2 : Option Addr) (c2 : Nat) (other : List Int) (w : World) (hB1 : B1 < w.heap.size) (hB2 : B2 < w.heap.size) (hcell1 : w.cell? ⟨B1, 0, none⟩ = some (.slice A l.length c)) (hcell2 : w.cell? ⟨B2, 0, none⟩ = some (.slice A2 other.length c2))
    (hr : Kd.C (Kd.slice 3 (Kd.int .i64)) w A l.length l) (hr2 : Kd.C (Kd.int .i64) w A2 other.length other) (hc2 : other.length ≤ c2) (xs : List Int) (hx : ∀ x ∈ xs, 0 ≤ x ∧ x < l.length ∧ (l.getD x.toNat []).length * 8 ≤ 140737488355328) :
    Pred1 (Kd.int .i64) 47 #[.pointer (some ⟨B1, 0, none⟩), .pointer (some ⟨B2, 0, none⟩)] xs (fun x => decide (0 < ((l.getD x.toNat []).filter fun n => other.contains n).length)) w := by
  intro W x v hb hxm hK
  obtain rfl : v = .int .i64 x := by
    have : [v] = [Value.int .i64 x] := hK
    simpa using this
  obtain ⟨x0, x1, x2⟩ := hx x hxm
  have hc1 : W.cell? ⟨B1, 0, none⟩ = some (.slice A l.length c) := (hb.cell (p := ⟨B1, 0, none⟩) hB1).trans hcell1
  have hc3 : W.cell? ⟨B2, 0, none⟩ = some (.slice A2 other.length c2) := (hb.cell (p := ⟨B2, 0, none⟩) hB2).trans hcell2
  obtain ⟨ad, cs, e0, _, hKr, hcell⟩ := Kd.C_get (Kd.C_below hr hb) [] x x0 x1
  cases e0
  obtain ⟨A1, c1, rfl, hl1, hC1⟩ := hKr
  have hcr : W.cell? (ad.add x.toNat) = some (.slice A1 (l.getD x.toNat []).length c1) := by
    have h1 := hcell 0 _ rfl
    have hsz : (Kd.slice 3 (Kd.int .i64)).sz = 1 := rfl
    rwa [hsz, Nat.mul_one, Nat.add_zero] at h1
  have HBO := Lib.hid (show ∀ W', Below W.heap.size W W' → Calls Try.prog 48 #[.slice A1 (l.getD x.toNat []).length c1, .slice A2 other.length c2] W' _ from fun W' hb' => impl_both.calls A1 c1 (l.getD x.toNat []) A2 c2 other ((l.getD x.toNat []).filter fun n => other.contains n) W' (Kd.C_below hC1 hb') hl1 (Kd.C_below (Kd.C_below hr2 hb) hb') hc2 (by unfold impl_both.f; rw [if_pos x2]))
  have hS0 : W.drew.cell? ⟨B1, 0, none⟩ = some (.slice (some ad) l.length c) ∧ W.drew.cell? ⟨B2, 0, none⟩ = some (.slice A2 other.length c2) ∧ W.drew.cell? (ad.add x.toNat) = some (.slice A1 (l.getD x.toNat []).length c1) := ⟨hc1, hc3, hcr⟩
  have hz2 := eq_true x0
  have hz3 := eq_true x1
  have hBl := below_drew (Below.refl W.heap.size W)
  clear hcell1 hcell2 hb hr hr2 hB1 hB2 hx hcell hC1 x2 hl1
  show Calls Try.prog 47 #[.int .i64 x, .pointer (some ⟨B1, 0, none⟩), .pointer (some ⟨B2, 0, none⟩)] W fun e w' => e = .returned (.bool (decide (0 < ((l.getD x.toNat []).filter fun n => other.contains n).length))) ∧ Below W.heap.size W w'
  generalize (l.getD x.toNat []).filter (fun n => other.contains n) = q at HBO ⊢
  generalize l.getD x.toNat [] = row at *
  go_enter Try.func47, Try.ntmps47
  go_wp2
  go_region_held3 (fun w' => w'.cell? ⟨B1, 0, none⟩ = some (.slice (some ad) l.length c) ∧ w'.cell? ⟨B2, 0, none⟩ = some (.slice A2 other.length c2) ∧ w'.cell? (ad.add x.toNat) = some (.slice A1 row.length c1)) (first | assumption | exact hS0)
    ((go_at_call 48; with_reducible refine (HBO.out _ hBl).mono ?_; rintro e w1 ⟨v0, rfl, hR, hb1⟩; obtain ⟨A4, cc4, rfl⟩ := Kd.R_slice hR; have hS2 := And.intro (pw_cell_below hb1 hS0.1) (And.intro (pw_cell_below hb1 hS0.2.1) (pw_cell_below hb1 hS0.2.2)); have HB2 := Aside0.mk (below_step hBl hb1); clear hR hb1))
  go_wp2
  go_ret
  exact ⟨by first | rfl | simp | (congr; simp; done) | (congr; simp; omega), HB2.out⟩

/-! ### impl_Shrink: function 25, by hand -/
/-- Some number that a node leads to is in the other group. -/
def h_leads (l : List (List Int)) (other : List Int) (x : Int) : Bool := decide (0 < ((l.getD x.toNat []).filter fun n => other.contains n).length)
def impl_Shrink.row (l R : List (List Int)) (i : Nat) (g : List Int) : Nat → Nat → List Int → List Int
  | 0, _, acc => acc
  | d + 1, j, acc => impl_Shrink.row l R i g d (j + 1) (if ((i : Int) != (j : Int)) = true then (if g.any (h_leads l (R.getD j [])) = true then acc ++ [(j : Int)] else acc) else acc)
def impl_Shrink.out (l R : List (List Int)) : Nat → Nat → List (List Int) → List (List Int)
  | 0, _, acc => acc
  | d + 1, i, acc => impl_Shrink.out l R d (i + 1) (acc ++ [impl_Shrink.row l R i (R.getD i []) R.length 0 []])
def impl_Shrink.f (k : Nat) (l0 : List (List Int)) : Option (List (List Int) × Bool) := (impl_GoodLinks.f l0).bind fun t => if t = true then ((impl_groups.f k l0).bind fun R => if R.length ≤ 12 ∧ (∀ g ∈ R, ∀ x ∈ g, 0 ≤ x ∧ x < l0.length ∧ (l0.getD x.toNat []).length * 8 ≤ 140737488355328) then some (impl_Shrink.out l0 R R.length 0 [], true) else none) else some ([], false)
theorem impl_Shrink.mono : ∀ a0 k, LeO (impl_Shrink.f k a0) (impl_Shrink.f (k + 1) a0) := fun a0 k => by
  unfold impl_Shrink.f
  exact LeO.bind (LeO.refl _) fun t => LeO.ite (LeO.bind (impl_groups.mono _ k) fun R => LeO.refl _) (LeO.refl _)
def h_SH (w0 w : World) (c : Value) (R out : List (List Int)) (vl vo : Value) (N M : Nat) : Prop :=
  Kd.S (Kd.slice 3 (Kd.int .i64)) 24 w w0.heap.size (fun k => k < N ∧ k ≠ w0.heap.size) vl R ∧ Kd.S (Kd.slice 3 (Kd.int .i64)) 24 w w0.heap.size (fun k => N ≤ k ∧ k < M) vo out ∧ w.heap[w0.heap.size]? = some (.cells #[c] 22 (0, 0)) ∧ Below w0.heap.size w0 w ∧ M ≤ w.heap.size ∧ w0.heap.size < N ∧ N ≤ M
theorem h_SH_below {w0 w w1 : World} {c : Value} {R out : List (List Int)} {vl vo : Value} {N M : Nat} (h : h_SH w0 w c R out vl vo N M) (hb : Below w.heap.size w w1) : h_SH w0 w1 c R out vl vo N M := by
  obtain ⟨h1, h2, h3, h4, h5, h6, h7⟩ := h
  have := hb.size
  exact ⟨Kd.S_below h1 hb, Kd.S_below h2 hb, blk_below h3 hb, below_step h4 hb, by omega, h6, h7⟩
theorem h_SH_grown {w0 w w1 : World} {c : Value} {R out : List (List Int)} {vl vo : Value} {N M : Nat} {row : Option Nat} (h : h_SH w0 w c R out vl vo N M) (hg : w.grownBy w1 row) (hr : ∀ k, some k = row → M ≤ k) (hb : Below w0.heap.size w0 w1) : h_SH w0 w1 c R out vl vo N M := by
  obtain ⟨h1, h2, h3, h4, h5, h6, h7⟩ := h
  have := hg.size
  exact ⟨Kd.S_grown h1 hg (fun k hk e => by have := hr k e; have := hk.1; omega), Kd.S_grown h2 hg (fun k hk e => by have := hr k e; have := hk.2; omega), blk_grown h3 hg (fun e => by have := hr _ e; omega), hb, by omega, h6, h7⟩
/-- One row of a row of rows that is read: its cell, its numbers. -/
theorem h_rowat {w : World} {A : Option Addr} {xs : List (List Int)} (h : Kd.C (Kd.slice 3 (Kd.int .i64)) w A xs.length xs) (j : Nat) (hj : j < xs.length) : ∃ ad A1 c1, A = some ad ∧ w.cell? (ad.add j) = some (.slice A1 (xs.getD j []).length c1) ∧ (xs.getD j []).length ≤ c1 ∧ Kd.C (Kd.int .i64) w A1 (xs.getD j []).length (xs.getD j []) := by
  obtain ⟨ad, cs, e0, _, hK, hcell⟩ := Kd.C_get h [] (j : Int) (by omega) (by omega)
  rw [Int.toNat_natCast] at hK hcell
  obtain ⟨A1, c1, rfl, hl1, hC1⟩ := hK
  have h1 := hcell 0 _ rfl
  rw [show (Kd.slice 3 (Kd.int .i64)).sz = 1 from rfl, Nat.mul_one, Nat.add_zero] at h1
  exact ⟨ad, A1, c1, e0, h1, hl1, hC1⟩
set_option maxHeartbeats 16000000 in
set_option maxRecDepth 100000 in
theorem h_shrink (k : Nat) (A0 : Option Addr) (c0 : Nat) (l0 : List (List Int)) (r1 : List (List Int)) (r2 : Bool) (w : World) (hr0 : Kd.C (Kd.slice 3 (Kd.int .i64)) w A0 l0.length l0) (hc0 : l0.length ≤ c0) (h : impl_Shrink.f k l0 = some (r1, r2)) :
    Calls Try.prog 25 #[.slice A0 l0.length c0] w fun e w' => ∃ v0_ : Value, e = .returned (.tuple #[v0_, .bool r2]) ∧ Kd.S (Kd.slice 3 (Kd.int .i64)) 24 w' w.heap.size (fun _ => True) v0_ r1 ∧ Below w.heap.size w w' := by
  have eg : ∀ args w, (callFunc 47 args).run Try.prog w = .ok (.enter 47 args) w := enters_ Try.func47 (by kernel_rfl) rfl
  unfold impl_Shrink.f at h
  obtain ⟨t, ht, h⟩ := Option.bind_eq_some_iff.1 h
  have hb0 : Below w.heap.size w (w.alloc (.cells #[.slice A0 l0.length c0] 22)) := below_alloc (Below.refl _ _) _
  have HGL := Lib.hid (impl_GoodLinks.calls A0 c0 l0 t _ (Kd.C_below hr0 hb0) hc0 ht)
  have HR0 := Aside0.mk hr0
  have HC0 := Aside0.mk hc0
  cases t with
  | false =>
    rw [if_neg (by simp)] at h
    simp only [Option.some.injEq, Prod.mk.injEq] at h
    obtain ⟨rfl, rfl⟩ := h
    have HB0 := Aside0.mk hb0
    clear hr0 hc0 ht hb0
    go_enter Try.func25, Try.ntmps25
    go_wp2_with (first | (go_at_call 40; with_reducible refine HGL.out.mono ?_; rintro e w1 ⟨rfl, hb⟩; have HB1 := Aside0.mk (below_step HB0.out hb); clear hb))
    go_ret2
    exact ⟨_, rfl, Kd.S_nil _ _ _ _ _, HB1.out⟩
  | true =>
    rw [if_pos rfl] at h
    obtain ⟨R, hR, h⟩ := Option.bind_eq_some_iff.1 h
    by_cases hq : R.length ≤ 12 ∧ (∀ g ∈ R, ∀ x ∈ g, 0 ≤ x ∧ x < l0.length ∧ (l0.getD x.toNat []).length * 8 ≤ 140737488355328)
    rotate_left
    · rw [if_neg hq] at h
      cases h
    rw [if_pos hq] at h
    simp only [Option.some.injEq, Prod.mk.injEq] at h
    obtain ⟨hout, rfl⟩ := h
    obtain ⟨hR12, hRx⟩ := hq
    have HRX := Aside0.mk hRx
    have HB0 := Aside0.mk hb0
    have HGR := Lib.hid (show ∀ W, Below w.heap.size w W → Calls Try.prog 42 #[.slice A0 l0.length c0] W _ from fun W hb => impl_groups.calls k A0 c0 l0 R W (Kd.C_below hr0 hb) hc0 hR)
    have HOUT := Aside0.mk hout
    have hcl0 : (w.alloc (.cells #[.slice A0 l0.length c0] 22)).heap[w.heap.size]? = some (.cells #[.slice A0 l0.length c0] 22 (0, 0)) := heap_alloc_new w _
    clear hr0 hc0 ht hb0 hRx hR hout
    go_enter Try.func25, Try.ntmps25
    go_wp2_with (first | (go_at_call 40; with_reducible refine HGL.out.mono ?_; rintro e w1 ⟨rfl, hb⟩; have HBL1 := Aside0.mk (blk_below hcl0 hb); have hcx1 : w1.cell? ⟨w.heap.size, 0, none⟩ = some (.slice A0 l0.length c0) := (blk_cell HBL1.out 0).trans rfl; have HB1 := Aside0.mk (below_step HB0.out hb); clear hb HGL hcl0) | (go_at_call 42; with_reducible refine (HGR.out w1 HB1.out).mono ?_; rintro e w2 ⟨v2, rfl, hS, hb⟩; obtain ⟨Ag, cg, rfl⟩ := Kd.S_slice hS; have HS2 := Aside0.mk hS; have HB2 := Aside0.mk (below_step HB1.out hb); have HBL2 := Aside0.mk (blk_below HBL1.out hb); have hsz12 : w1.heap.size ≤ w2.heap.size := hb.size; clear hS hb HGR))
    have hGS : h_SH w (w2.alloc (.cells #[] 24)) (.slice A0 l0.length c0) R [] (.slice Ag R.length cg) (.slice (some ⟨w2.heap.size, 0, none⟩) 0 0) w2.heap.size (w2.heap.size + 1) := by
      have h1_ := blk_lt HBL1.out
      have h2_ := HB1.out.size
      refine ⟨Kd.S_alloc (Kd.S_mono (Kd.S_lower (Kd.S_bound HS2.out) h2_) (fun k_ hk => ⟨hk.2.2.1, ?_⟩)) _, h_S_empty _ (heap_alloc_new w2 _) (by omega) ⟨Nat.le_refl _, by omega⟩, blk_alloc HBL2.out _, below_alloc HB2.out _, by simp, by omega, by omega⟩
      have := hk.2.1
      omega
    have HGS := Aside0.mk hGS
    clear hGS HS2 HB2 HBL2 HBL1 HB1 hcx1 HB0
    go_loopg [5, 20] R.length (fun gg s5 s20 wr => ∃ (i : Nat) (out : List (List Int)) (vo : Value) (M : Nat), vo = s5 ∧ s20 = .int .i64 i ∧ i ≤ R.length ∧ R.length - i ≤ gg ∧ out.length ≤ i ∧ Aside0 (impl_Shrink.out l0 R (R.length - i) i out = r1) ∧ Aside0 (h_SH w wr (.slice A0 l0.length c0) R out (.slice Ag R.length cg) vo w2.heap.size M))
    case atStart => exact ⟨0, [], _, _, rfl, rfl, Nat.zero_le _, by omega, Nat.le_refl _, HOUT, HGS⟩
    case round =>
      clear HOUT HGS
      obtain ⟨i, out, vo, M, rfl, rfl, hil, hgg, hol, HO, HGS⟩ := hrel
      by_cases hlt : i < R.length
      · have hltz : (i : Int) < (R.length : Int) := by omega
        have hi0 : (0 : Int) ≤ (i : Int) := by omega
        have h := HO.out
        rw [show R.length - i = (R.length - (i + 1)) + 1 by omega, impl_Shrink.out] at h
        have HON := Aside0.mk h
        obtain ⟨adg, Agi, cgi, rfl, hxi, hli, hCi⟩ := h_rowat (Kd.S_reads' HGS.out.1).2.2 i hlt
        have HCi := Aside0.mk hCi
        have hgx : ∀ x ∈ R.getD i [], 0 ≤ x ∧ x < l0.length ∧ (l0.getD x.toNat []).length * 8 ≤ 140737488355328 := HRX.out _ (by
          rw [List.getD_eq_getElem?_getD, List.getElem?_eq_getElem hlt]
          exact List.getElem_mem hlt)
        have HGX := Aside0.mk hgx
        clear h HO hCi hgx
        generalize R.getD i [] = g at hxi hli HCi HGX HON
        go_wp2
        have hsz := HGS.out.2.2.2.2.1
        have hszw := HGS.out.2.2.2.1.size
        have hGS2 : h_SH w (wr.alloc (.cells #[] 3)) (.slice A0 l0.length c0) R out (.slice (some adg) R.length cg) vo w2.heap.size wr.heap.size := by
          obtain ⟨q1, q2, q3, q4, q5, q6, q7⟩ := h_SH_below HGS.out (below_alloc (Below.refl _ _) (.cells #[] 3))
          exact ⟨q1, Kd.S_mono q2 (fun k_ hk => ⟨hk.1, by have := hk.2; omega⟩), q3, q4, by simp, q6, by omega⟩
        have HGS2 := Aside0.mk hGS2
        obtain ⟨M2, hM2⟩ : ∃ M2, M2 = wr.heap.size := ⟨_, rfl⟩
        have HRW := Aside0.mk (h_R_empty (Kd.int .i64) (ok := fun k_ => M2 ≤ k_) (heap_alloc_new wr (.cells #[] 3)) hszw (by rw [hM2]; exact Nat.le_refl _))
        have HBi := Aside0.mk (below_alloc (Below.refl wr.heap.size wr) (.cells #[] 3))
        have HCL := Aside0.mk (Kd.S_reads' HGS.out.1).2.2
        clear hGS2 HGS
        rw [← hM2] at HGS2
        go_loopg [8, 28] R.length (fun gg s8 s28 wq => ∃ (j : Nat) (acc : List Int) (v8 : Value), v8 = s8 ∧ s28 = .int .i64 j ∧ j ≤ R.length ∧ R.length - j ≤ gg ∧ acc.length ≤ j ∧ Aside0 (impl_Shrink.row l0 R i g (R.length - j) j acc = impl_Shrink.row l0 R i g R.length 0 []) ∧ Aside0 (h_SH w wq (.slice A0 l0.length c0) R out (.slice (some adg) R.length cg) vo w2.heap.size M2) ∧ Aside0 (Kd.R (Kd.int .i64) 3 wq w.heap.size (fun k_ => M2 ≤ k_) v8 acc) ∧ Aside0 (Below wr.heap.size wr wq))
        case atStart => exact ⟨0, [], _, rfl, rfl, Nat.zero_le _, by omega, Nat.le_refl _, ⟨rfl⟩, HGS2, HRW, HBi⟩
        case round =>
          clear HGS2 HRW HBi
          obtain ⟨j, acc, v8, rfl, rfl, hjl, hgj, hal, HROW, HGS, HRW, HBi⟩ := hrel
          by_cases hjt : j < R.length
          · have hjz : (j : Int) < (R.length : Int) := by omega
            have hj0 : (0 : Int) ≤ (j : Int) := by omega
            have h := HROW.out
            rw [show R.length - j = (R.length - (j + 1)) + 1 by omega, impl_Shrink.row] at h
            obtain ⟨adk, Ak, ck, e_, hxk, hlk, hCk⟩ := h_rowat (Kd.S_reads' HGS.out.1).2.2 j hjt
            obtain rfl : adg = adk := by simpa using e_
            generalize R.getD j [] = other at h hxk hlk hCk
            have hCF : Calls Try.prog 46 #[.slice Agi g.length cgi, .func (.func 47) #[] #[.pointer (some ⟨w.heap.size, 0, none⟩), .pointer (some ⟨wr.heap.size, 0, none⟩)]] (wr.alloc (.cells #[.slice Ak other.length ck] 24)) fun e w' => e = .returned (.bool (g.any (h_leads l0 other))) ∧ Below (wr.alloc (.cells #[.slice Ak other.length ck] 24)).heap.size (wr.alloc (.cells #[.slice Ak other.length ck] 24)) w' := by
              have hba := below_alloc (Below.refl wr.heap.size wr) (.cells #[.slice Ak other.length ck] 24)
              have hbl := blk_lt HGS.out.2.2.1
              exact ContainsFunc_int _ _ eg Agi cgi g (h_leads l0 other) _ (h_shrink1 w.heap.size wr.heap.size A0 c0 l0 Ak ck other _ (by simp; omega) (by simp) ((blk_cell (blk_alloc HGS.out.2.2.1 _) 0).trans rfl) ((blk_cell (heap_alloc_new wr _) 0).trans rfl) (Kd.C_below HR0.out (below_alloc HGS.out.2.2.2.1 _)) (Kd.C_below hCk hba) hlk g HGX.out) (Kd.C_below (Kd.C_below HCi.out HBi.out) hba)
            have HCF := Lib.hid hCF
            clear hCF hCk hlk
            generalize g.any (h_leads l0 other) = q at HCF h
            by_cases hij : i = j
            · have hijb : ((i : Int) != (j : Int)) = false := by simp [hij]
              clear hij
              rw [hijb, if_neg (by simp)] at h
              have HH := Aside0.mk h
              clear h HROW
              go_wp2_with (first | (go_at_call 46; with_reducible refine HCF.out.mono ?_; rintro e w5 ⟨rfl, hb⟩; have HB5 := Aside0.mk (below_step (below_alloc (Below.refl wr.heap.size wr) _) hb); clear hb HCF))
              go_roundg (R.length - (j + 1))
              case measure => omega
              case rel => exact ⟨j + 1, acc, v8, rfl, by go_num, by omega, by omega, by omega, HH, ⟨h_SH_below HGS.out HB5.out⟩, ⟨Kd.R_below HRW.out HB5.out⟩, ⟨below_step HBi.out HB5.out⟩⟩
            · have hijb : ((i : Int) != (j : Int)) = true := by simp; omega
              clear hij
              rw [hijb, if_pos rfl] at h
              cases q with
              | false =>
                rw [if_neg (by simp)] at h
                have HH := Aside0.mk h
                clear h HROW
                go_wp2_with (first | (go_at_call 46; with_reducible refine HCF.out.mono ?_; rintro e w5 ⟨rfl, hb⟩; have HB5 := Aside0.mk (below_step (below_alloc (Below.refl wr.heap.size wr) _) hb); clear hb HCF))
                go_roundg (R.length - (j + 1))
                case measure => omega
                case rel => exact ⟨j + 1, acc, v8, rfl, by go_num, by omega, by omega, by omega, HH, ⟨h_SH_below HGS.out HB5.out⟩, ⟨Kd.R_below HRW.out HB5.out⟩, ⟨below_step HBi.out HB5.out⟩⟩
              | true =>
                rw [if_pos rfl] at h
                have HH := Aside0.mk h
                clear h HROW
                have hM2w : M2 ≤ wr.heap.size := HGS.out.2.2.2.2.1
                have hR12' : acc.length ≤ 12 := by omega
                go_wp2_with (first | (go_at_call 46; with_reducible refine HCF.out.mono ?_; rintro e w5 ⟨rfl, hb⟩; have HB5 := Aside0.mk (below_step (below_alloc (Below.refl wr.heap.size wr) _) hb); clear hb HCF) | ((with_reducible refine gate_builtin (b := .append) (xs := #[.tmp 42, .tmp 44]) rfl ?_); at_builtin; refine Kd.R_append (Kd.int .i64) (w0 := w) w.heap.size rfl (.tmp 42) (.tmp 44) 24 3 (.int .i64 0) 8 rfl Try.underlying24 info3 rfl (by decide) (by omega) v8 acc (j : Int) [.int .i64 (j : Int)] (fun k_ => M2 ≤ k_) (fun _ => False) rfl rfl ?aP (fun _ hk => hk.elim) ?aF ?aO ?aB ?aS ?aL ?_; (case aP => exact rfl); (case aF => (intro k_ hk; have := HB5.out.size; omega)); (case aO => exact Kd.R_below HRW.out HB5.out); (case aB => exact below_step HGS.out.2.2.2.1 HB5.out); (case aS => exact (below_step HGS.out.2.2.2.1 HB5.out).size); (case aL => omega); intro v9 w9 hR9 hB9 hg9 hat9; have HR9 := Aside0.mk hR9; have HG9 := Aside0.mk (h_SH_grown (h_SH_below HGS.out HB5.out) hg9 (fun k_ e_ => HRW.out.1 k_ e_.symm) hB9); have HBi9 := Aside0.mk ((below_step HBi.out HB5.out).grown hg9 (below_step HBi.out HB5.out).size (fun k_ e_ => by have h_ := HRW.out.1 k_ e_; omega)); clear hR9 hB9 hg9 hat9))
                go_roundg (R.length - (j + 1))
                case measure => omega
                case rel => exact ⟨j + 1, acc ++ [(j : Int)], v9, rfl, by go_num, by omega, by omega, by rw [List.length_append, List.length_singleton]; omega, HH, HG9, HR9, HBi9⟩
          · have hjz : ¬ (j : Int) < (R.length : Int) := by omega
            have h := HROW.out
            rw [show R.length - j = 0 by omega, impl_Shrink.row] at h
            obtain ⟨A8, c8, rfl⟩ := Kd.R_slice HRW.out
            have HAC := Aside0.mk h
            clear h HROW
            have hM2w : M2 ≤ wr.heap.size := HGS.out.2.2.2.2.1
            have hN := HGS.out.2.2.2.2.2
            have hvo : ∀ k_, some k_ = vo.ownBlock → w2.heap.size ≤ k_ ∧ k_ < M2 := fun k_ e_ => (Kd.S_R HGS.out.2.1).1 k_ e_.symm
            have hv8 : ∀ k_, some k_ = (.slice A8 acc.length c8 : Value).ownBlock → M2 ≤ k_ := fun k_ e_ => HRW.out.1 k_ e_.symm
            go_wp2_with (first | ((with_reducible refine gate_builtin (b := .append) (xs := #[.tmp 47, .tmp 49]) rfl ?_); at_builtin; refine Kd.S_append (Kd.slice 3 (Kd.int .i64)) (w0 := w) w.heap.size rfl (.tmp 47) (.tmp 49) 22 24 (.slice none 0 0) 24 rfl Try.underlying22 info24 rfl (by decide) (by omega) vo out acc [.slice A8 acc.length c8] (fun k_ => w2.heap.size ≤ k_) (fun k_ => some k_ = (.slice A8 acc.length c8 : Value).ownBlock) rfl rfl ?aP ?aK ?aF ?aO ?aB ?aS ?aL ?_; (case aP => exact Kd.M_row (Kd.R_tight rfl HRW.out)); (case aK => (intro k_ hk; have h1_ := hv8 k_ hk; refine ⟨by omega, fun e_ => ?_⟩; have h2_ := hvo k_ e_; omega)); (case aF => (intro k_ hk; omega)); (case aO => exact Kd.S_mono HGS.out.2.1 (fun k_ hk => ⟨hk.1, fun e_ => by have h1_ := hv8 k_ e_; have h2_ := hk.2; omega⟩)); (case aB => exact HGS.out.2.2.2.1); (case aS => exact HGS.out.2.2.2.1.size); (case aL => omega); intro v9 w9 hS9 hB9 hg9 hat9; have HG9 := Aside0.mk (show h_SH w w9 (.slice A0 l0.length c0) R (out ++ [acc]) (.slice (some adg) R.length cg) v9 w2.heap.size w9.heap.size from ⟨Kd.S_grown HGS.out.1 hg9 (fun k_ hk e_ => by have h1_ := (hvo k_ e_).1; have h2_ := hk.1; omega), Kd.S_mono (Kd.S_bound hS9) (fun k_ hk => ⟨hk.1, hk.2.2.1⟩), blk_grown HGS.out.2.2.1 hg9 (fun e_ => by have h1_ := (hvo _ e_).1; omega), hB9, Nat.le_refl _, hN.1, by have := hg9.size; omega⟩); clear hS9 hB9 hg9 hat9))
            go_roundg (R.length - (i + 1))
            case measure => omega
            case rel => exact ⟨i + 1, out ++ [acc], v9, w9.heap.size, rfl, by go_num, by omega, by omega, by rw [List.length_append, List.length_singleton]; omega, ⟨by rw [← HON.out, ← HAC.out]⟩, HG9⟩
      · have hltz : ¬ (i : Int) < (R.length : Int) := by omega
        have h := HO.out
        rw [show R.length - i = 0 by omega, impl_Shrink.out] at h
        subst h
        clear HO
        go_wp2
        go_ret2
        exact ⟨vo, by first | rfl | simp, Kd.S_mono HGS.out.2.1 (fun _ _ => trivial), HGS.out.2.2.2.1⟩
-- (told above)
set_option maxHeartbeats 8000000 in
set_option maxRecDepth 100000 in
theorem impl_Shrink.calls (k : Nat) (A0 : Option Addr) (c0 : Nat) (l0 : List (List Int)) (r1 : List (List Int)) (r2 : Bool) (w : World) (hr0 : Kd.C (Kd.slice 3 (Kd.int .i64)) w A0 l0.length l0) (hc0 : l0.length ≤ c0) (h : impl_Shrink.f k l0 = some (r1, r2)) :
    Calls Try.prog 25 #[.slice A0 l0.length c0] w fun e w' => ∃ v0_ : Value, e = .returned (.tuple #[v0_, .bool r2]) ∧ Kd.S (Kd.slice 3 (Kd.int .i64)) 24 w' w.heap.size (fun _ => True) v0_ r1 ∧ Below w.heap.size w w' := by
  exact h_shrink k A0 c0 l0 r1 r2 w hr0 hc0 h

-- NOT PRINTED: function 6 (laws_FnExactShrink)

end Go.Proofs.Yteokbemieooeaaa.PFnExactShrink
