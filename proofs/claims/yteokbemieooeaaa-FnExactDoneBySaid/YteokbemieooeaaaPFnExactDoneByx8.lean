-- Written for this claim by the session's own program (drive.py), over the kit's print, with contracts typed by hand.
import Derived.Test.YteokbemieooeaaaPFnExactDoneByx0
import Derived.Test.YteokbemieooeaaaPFnExactDoneByx2
import Derived.Test.YteokbemieooeaaaPFnExactDoneByx5
import Derived.Test.YteokbemieooeaaaPFnExactDoneByx6
import Derived.Test.YteokbemieooeaaaPFnExactDoneByx7
namespace Go.Proofs.Yteokbemieooeaaa.PFnExactDoneBy
open Go.RowKit Go.Proofs.YteokbemieooeaaaW.PrintWords Go.Proofs.YteokbemieooeaaaW.PrintLast Go.Proofs.YteokbemieooeaaaW.PrintMore
attribute [local go_sem] max2_int min2_int max_two min_two max_three min_three max_four min_four   -- for this text's walks alone
set_option linter.unusedVariables false
set_option linter.unusedSimpArgs false

/-! ### impl_groups: function 42, by hand -/
theorem h_R_empty {α : Type} (d : Kd α) {e base g : Nat} {ok : Nat → Prop} {w : World} (hh : w.heap[g]? = some (.cells #[] e (0, 0))) (hb : base ≤ g) (hok : ok g) : d.R e w base ok (.slice (some ⟨g, 0, none⟩) 0 0) [] :=
  ⟨fun k hk => by
    have : g = k := by simpa [Value.ownBlock] using hk
    subst this
    exact hok, [], ⟨by simp, .inr ⟨g, 0, #[], rfl, hb, hh, Nat.le_refl _, Nat.zero_le _, by simp, by simp⟩⟩, Reps.none _ _⟩
theorem h_S_empty {α : Type} (d : Kd α) {e base g : Nat} {ok : Nat → Prop} {w : World} (hh : w.heap[g]? = some (.cells #[] e (0, 0))) (hb : base ≤ g) (hok : ok g) : Kd.S d e w base ok (.slice (some ⟨g, 0, none⟩) 0 0) [] :=
  ⟨fun _ => 0, h_R_empty (Kd.tag (fun _ => 0) d) hh hb hok⟩
theorem h_gap_erase {α : Type} {d : Kd α} {e base i : Nat} {f : Nat → Nat} {c : List Value} {ok : Nat → Prop} {w : World} {v : Value} {xs : List α} (h : (Kd.gap f d i c).R e w base ok v (xs.zipIdx.eraseIdx i)) : Kd.S d e w base ok v (xs.eraseIdx i) := by
  refine Kd.S_erase (f := f) (k := i) ?_
  obtain ⟨h0, inner, ho, hr⟩ := h
  refine ⟨h0, inner, ho, hr.1, fun j p hj => ?_⟩
  have hp : p.2 ≠ i := by
    rw [List.getElem?_eraseIdx] at hj
    by_cases hji : j < i
    · rw [if_pos hji, List.getElem?_zipIdx, Nat.zero_add] at hj
      obtain ⟨q, _, rfl⟩ := Option.map_eq_some_iff.1 hj
      show j ≠ i
      omega
    · rw [if_neg hji, List.getElem?_zipIdx, Nat.zero_add] at hj
      obtain ⟨q, _, rfl⟩ := Option.map_eq_some_iff.1 hj
      show j + 1 ≠ i
      omega
  exact (hr.2 j p hj).2 hp
/-- There is room for one more group. -/
def h_fits (told row : List Int) : Bool := decide (told.length + row.length ≤ 1000000)
def impl_groups.left (k : Nat) (l : List (List Int)) : Nat → Nat → List (List Int) → Option (List (List Int))
  | 0, _, left => some left
  | d + 1, i, left => (impl_group.f k l (i : Int)).bind fun own => if 0 < own.length then (if own.getD 0 0 = (i : Int) then impl_groups.left k l d (i + 1) (left ++ [own]) else impl_groups.left k l d (i + 1) left) else none
def impl_groups.ok (k : Nat) (l : List (List Int)) (told own : List Int) : Option Bool := (slices_Concat_int_int.f k [told, own]).bind fun cc => if 0 < own.length then (impl_reach.f k l (own.getD 0 0)).map fun rs => rs.all fun n => cc.contains n else none
def impl_groups.pick (k : Nat) (l : List (List Int)) : Nat → List (List Int) → List (List Int) → List Int → Option (List (List Int))
  | 0, _, out, _ => some out
  | d + 1, left, out, told => if (∀ x ∈ left, (impl_groups.ok k l told x).isSome = true) then ((left.findIdx? fun x => (impl_groups.ok k l told x).getD false).bind fun i => if h_fits told (left.getD i []) = true then impl_groups.pick k l d (left.eraseIdx i) (out ++ [left.getD i []]) (told ++ left.getD i []) else none) else none
def impl_groups.f (k : Nat) (l0 : List (List Int)) : Option (List (List Int)) := if l0.length ≤ 12 then (impl_groups.left k l0 l0.length 0 []).bind fun left => impl_groups.pick k l0 left.length left [] [] else none
theorem impl_groups.left_mono (k : Nat) (l : List (List Int)) : ∀ d i left, LeO (impl_groups.left k l d i left) (impl_groups.left (k + 1) l d i left)
  | 0, i, left => by
    unfold impl_groups.left
    exact LeO.refl _
  | d + 1, i, left => by
    have ih := impl_groups.left_mono k l d (i + 1)
    unfold impl_groups.left
    refine LeO.bind (impl_group.mono _ _ k) fun own => ?_
    refine LeO.ite ?_ (LeO.none _)
    exact LeO.ite (ih _) (ih _)
theorem impl_groups.ok_mono (k : Nat) (l : List (List Int)) (told own : List Int) : LeO (impl_groups.ok k l told own) (impl_groups.ok (k + 1) l told own) :=
  LeO.bind (slices_Concat_int_int.mono _ k) fun _ => LeO.ite (LeO.map _ (impl_reach.mono _ _ k)) (LeO.none _)
theorem h_find_same {α : Type} {p q : α → Bool} : ∀ xs : List α, (∀ x ∈ xs, p x = q x) → xs.findIdx? p = xs.findIdx? q
  | [], _ => rfl
  | x :: xs, h => by
    rw [List.findIdx?_cons, List.findIdx?_cons, h x (by simp), h_find_same xs fun y hy => h y (List.mem_cons_of_mem _ hy)]
theorem impl_groups.pick_mono0 (k : Nat) (l : List (List Int)) (d : Nat) (ih : ∀ left out told, LeO (impl_groups.pick k l d left out told) (impl_groups.pick (k + 1) l d left out told)) (left out : List (List Int)) (told : List Int) : LeO (impl_groups.pick k l (d + 1) left out told) (impl_groups.pick (k + 1) l (d + 1) left out told) := by
  rw [impl_groups.pick, impl_groups.pick]
  by_cases ha : ∀ x ∈ left, (impl_groups.ok k l told x).isSome = true
  · have h1 : ∀ x ∈ left, (impl_groups.ok (k + 1) l told x).isSome = true ∧ (impl_groups.ok (k + 1) l told x).getD false = (impl_groups.ok k l told x).getD false := fun x hx => by
      obtain ⟨b, hb⟩ := Option.isSome_iff_exists.1 (ha x hx)
      rw [impl_groups.ok_mono k l told x b hb, hb]
      exact ⟨rfl, rfl⟩
    rw [if_pos ha, if_pos fun x hx => (h1 x hx).1, h_find_same left fun x hx => (h1 x hx).2]
    refine LeO.bind (LeO.refl _) fun i => ?_
    refine LeO.ite ?_ (LeO.none _)
    exact ih _ _ _
  · rw [if_neg ha]
    exact LeO.none _
theorem impl_groups.pick_mono (k : Nat) (l : List (List Int)) (d : Nat) : ∀ left out told, LeO (impl_groups.pick k l d left out told) (impl_groups.pick (k + 1) l d left out told) := by
  induction d with
  | zero =>
    intro left out told
    rw [impl_groups.pick, impl_groups.pick]
    exact LeO.refl _
  | succ d ih => exact impl_groups.pick_mono0 k l d ih
theorem impl_groups.mono : ∀ a0 k, LeO (impl_groups.f k a0) (impl_groups.f (k + 1) a0) := fun a0 k r hr => by
  unfold impl_groups.f at hr ⊢
  by_cases h : a0.length ≤ 12
  · rw [if_pos h] at hr ⊢
    obtain ⟨left, h1, h2⟩ := Option.bind_eq_some_iff.1 hr
    rw [impl_groups.left_mono k a0 _ _ _ left h1, Option.bind_some]
    exact impl_groups.pick_mono k a0 _ _ _ _ r h2
  · rw [if_neg h] at hr
    cases hr
/-- What is kept while the nodes are gone through. -/
def h_GL (w0 w : World) (c : Value) (left : List (List Int)) (v : Value) : Prop :=
  Kd.S (Kd.slice 3 (Kd.int .i64)) 24 w w0.heap.size (fun k => k ≠ w0.heap.size) v left ∧ w.heap[w0.heap.size]? = some (.cells #[c] 22 (0, 0)) ∧ Below w0.heap.size w0 w
/-- What is kept while groups are told: no two rows share a block. -/
def h_GP (w0 w : World) (Bl Bt : Nat) (c : Value) (left out : List (List Int)) (told : List Int) (vl vo vt : Value) : Prop :=
  ∃ L O T : Nat → Prop, (∀ k, L k → ¬ O k ∧ ¬ T k ∧ k ≠ Bl ∧ k ≠ Bt) ∧ (∀ k, O k → ¬ T k ∧ k ≠ Bl ∧ k ≠ Bt) ∧ (∀ k, T k → k ≠ Bl ∧ k ≠ Bt) ∧ Bl ≠ Bt ∧ w0.heap.size ≤ Bt ∧
    Kd.S (Kd.slice 3 (Kd.int .i64)) 24 w w0.heap.size L vl left ∧ Kd.S (Kd.slice 3 (Kd.int .i64)) 24 w w0.heap.size O vo out ∧ Kd.R (Kd.int .i64) 3 w w0.heap.size T vt told ∧
    w.heap[Bl]? = some (.cells #[c] 22 (0, 0)) ∧ w.heap[Bt]? = some (.cells #[vt] 24 (0, 0)) ∧ Below w0.heap.size w0 w
theorem h_GP_below {w0 w w1 : World} {Bl Bt : Nat} {c : Value} {left out : List (List Int)} {told : List Int} {vl vo vt : Value} (h : h_GP w0 w Bl Bt c left out told vl vo vt) (hb : Below w.heap.size w w1) : h_GP w0 w1 Bl Bt c left out told vl vo vt := by
  obtain ⟨L, O, T, h1, h2, h3, h4, h5, h6, h7, h8, h9, h10, h11⟩ := h
  exact ⟨L, O, T, h1, h2, h3, h4, h5, Kd.S_below h6 hb, Kd.S_below h7 hb, Kd.R_below h8 hb, blk_below h9 hb, blk_below h10 hb, below_step h11 hb⟩
set_option maxHeartbeats 16000000 in
set_option maxRecDepth 100000 in
theorem h_groups (k : Nat) (A0 : Option Addr) (c0 : Nat) (l0 : List (List Int)) (r : List (List Int)) (w : World) (hr0 : Kd.C (Kd.slice 3 (Kd.int .i64)) w A0 l0.length l0) (hc0 : l0.length ≤ c0) (h : impl_groups.f k l0 = some r) :
    Calls Try.prog 42 #[.slice A0 l0.length c0] w fun e w' => ∃ v0_ : Value, e = .returned v0_ ∧ Kd.S (Kd.slice 3 (Kd.int .i64)) 24 w' w.heap.size (fun _ => True) v0_ r ∧ Below w.heap.size w w' := by
  unfold impl_groups.f at h
  by_cases h12 : l0.length ≤ 12
  rotate_left
  · rw [if_neg h12] at h
    cases h
  rw [if_pos h12] at h
  obtain ⟨left0, hL0, hP0⟩ := Option.bind_eq_some_iff.1 h
  clear h
  have HG := Lib.hid (show ∀ (i : Int) (rs : List Int) (W : World), Below w.heap.size w W → impl_group.f k l0 i = some rs → Calls Try.prog 74 #[.slice A0 l0.length c0, .int .i64 i] W _ from fun i rs W hb hi => impl_group.calls k A0 c0 l0 i rs W (Kd.C_below hr0 hb) hc0 hi)
  have HR0 := Aside0.mk hr0
  have HC0 := Aside0.mk hc0
  have HL0 := Aside0.mk hL0
  have HP0 := Aside0.mk hP0
  clear hr0 hc0 hL0 hP0
  go_enter Try.func42, Try.ntmps42
  go_wp2
  go_loopg [3, 4, 5, 12] l0.length (fun gg s3 s4 s5 s12 wr => ∃ (i : Nat) (left : List (List Int)) (v : Value), v = s3 ∧ s12 = .int .i64 i ∧ i ≤ l0.length ∧ l0.length - i ≤ gg ∧ left.length ≤ i ∧ Aside0 (impl_groups.left k l0 (l0.length - i) i left = some left0) ∧ Aside0 (h_GL w wr (.slice A0 l0.length c0) left v))
  case atStart => exact ⟨0, [], _, rfl, rfl, Nat.zero_le _, by omega, Nat.zero_le _, HL0, ⟨h_S_empty _ (g := w.heap.size + 1) (by simpa using heap_alloc_new (w.alloc (.cells #[.slice A0 l0.length c0] 22)) (.cells #[] 24)) (by omega) (by omega), blk_alloc (heap_alloc_new w _) _, below_alloc (below_alloc (Below.refl _ _) _) _⟩⟩
  case round =>
    clear HL0
    obtain ⟨i, left, v, rfl, rfl, hil, hgg, hll, HL, HGL⟩ := hrel
    obtain ⟨hS, hbl, hB⟩ := HGL.out
    have hcl : wr.cell? ⟨w.heap.size, 0, none⟩ = some (.slice A0 l0.length c0) := (blk_cell hbl 0).trans rfl
    by_cases hlt : i < l0.length
    · have hltz : (i : Int) < (l0.length : Int) := by omega
      obtain ⟨d, hd⟩ : ∃ d, l0.length - i = d + 1 := ⟨l0.length - i - 1, by omega⟩
      have hd2 : d = l0.length - (i + 1) := by omega
      have h := HL.out
      rw [hd, impl_groups.left] at h
      obtain ⟨own, hown, h⟩ := Option.bind_eq_some_iff.1 h
      by_cases hpos : 0 < own.length
      rotate_left
      · rw [if_neg hpos] at h
        cases h
      rw [if_pos hpos] at h
      have hposz : (0 : Int) < (own.length : Int) := by omega
      have HCALL := Lib.hid (HG.out (i : Int) own wr hB hown)
      have hlt2 := World.block_lt_of_cell? _ _ hcl
      have HSB := Aside0.mk (Kd.S_bound hS)
      have HBL := Aside0.mk hbl
      have HB := Aside0.mk hB
      clear hS hbl hB HGL HL hown
      have hrd : rdOf 0 own (0 : Int) = own.getD 0 0 := by simp [rdOf]
      generalize own.getD 0 0 = o0 at h hrd
      by_cases he : o0 = (i : Int)
      · rw [if_pos he, hd2] at h
        have H := Aside0.mk h
        have heq : (o0 == (i : Int)) = true := beq_iff_eq.2 he
        clear h he
        go_wp2_with (first | (go_at_call 74; refine HCALL.out.mono ?_; rintro e w2 ⟨v5, rfl, hR, hb⟩; obtain ⟨g5, c5, rfl, hg5, hl5, cells5, hcells5⟩ := Kd.R_form hR hpos; have hx5 := (Kd.R_celln 0 hR (0 : Int) (by omega) (by omega)).1; (rw [show (0 : Int).toNat = 0 from rfl, hrd] at hx5); have HR5 := Aside0.mk hR; have HB5 := Aside0.mk hb; have HG5 := Aside0.mk hg5; clear hR hb hg5 hl5 hcells5) | ((with_reducible refine gate_builtin (b := .append) (xs := #[.tmp 23, .tmp 25]) rfl ?_); at_builtin; refine Kd.S_append (Kd.slice 3 (Kd.int .i64)) (w0 := w) w.heap.size rfl (.tmp 23) (.tmp 25) 22 24 (.slice none 0 0) 24 rfl Try.underlying22 info24 rfl (by decide) (by omega) v left own [.slice (some ⟨g5, 0, none⟩) own.length c5] (fun k_ => k_ ≠ w.heap.size) (fun k_ => some k_ = (.slice (some ⟨g5, 0, none⟩) own.length c5 : Value).ownBlock) rfl rfl ?aP ?aK ?aF ?aO ?aB ?aS ?aL ?_; (case aP => exact Kd.M_row (Kd.R_tight rfl (Kd.R_lower HR5.out (by have := HB.out.size; omega)))); (case aK => (intro k_ hk; have e_ : k_ = g5 := (by simpa [Value.ownBlock] using hk); have h_ := HG5.out; refine ⟨by omega, fun e2_ => ?_⟩; have h2_ := ((Kd.S_R HSB.out).1 k_ e2_.symm).2.2.1; omega)); (case aF => (intro k_ hk; have := HB5.out.size; omega)); (case aO => exact Kd.S_mono (Kd.S_below HSB.out HB5.out) (fun k_ hk => ⟨hk.1, fun e_ => by have e2_ : k_ = g5 := (by simpa [Value.ownBlock] using e_); have := HG5.out; have := hk.2.2.1; omega⟩)); (case aB => exact below_step HB.out HB5.out); (case aS => (have := HB.out.size; have := HB5.out.size; omega)); (case aL => omega); intro v9 w9 hS9 hB9 hg9 hat9; have HS9 := Aside0.mk hS9; have HB9 := Aside0.mk hB9; have HBL9 := Aside0.mk (blk_grown (blk_below HBL.out HB5.out) hg9 (fun e_ => ((Kd.S_R HSB.out).1 _ e_.symm).1 rfl)); clear hS9 hB9 hg9 hat9))
        go_roundg (l0.length - (i + 1))
        case measure => omega
        case rel => exact ⟨i + 1, left ++ [own], v9, rfl, by go_num, by omega, by omega, by rw [List.length_append, List.length_singleton]; omega, H, ⟨HS9.out, HBL9.out, HB9.out⟩⟩
      · rw [if_neg he, hd2] at h
        have H := Aside0.mk h
        have heq : (o0 == (i : Int)) = false := beq_eq_false_iff_ne.2 he
        clear h he
        go_wp2_with (first | (go_at_call 74; refine HCALL.out.mono ?_; rintro e w2 ⟨v5, rfl, hR, hb⟩; obtain ⟨g5, c5, rfl, hg5, hl5, cells5, hcells5⟩ := Kd.R_form hR hpos; have hx5 := (Kd.R_celln 0 hR (0 : Int) (by omega) (by omega)).1; (rw [show (0 : Int).toNat = 0 from rfl, hrd] at hx5); have HB5 := Aside0.mk hb; clear hR hb hg5 hl5 hcells5))
        go_roundg (l0.length - (i + 1))
        case measure => omega
        case rel => exact ⟨i + 1, left, v, rfl, by go_num, by omega, by omega, by omega, H, ⟨Kd.S_mono (Kd.S_below HSB.out HB5.out) (fun k_ hk => hk.1), blk_below HBL.out HB5.out, below_step HB.out HB5.out⟩⟩
    · have hltz : ¬ (i : Int) < (l0.length : Int) := by omega
      obtain rfl : i = l0.length := by omega
      have h := HL.out
      rw [Nat.sub_self, impl_groups.left] at h
      obtain rfl := Option.some.inj h
      have hlt2 : w.heap.size < wr.heap.size := World.block_lt_of_cell? _ _ hcl
      have HSB := Aside0.mk (Kd.S_bound hS)
      have HBL := Aside0.mk hbl
      have HB := Aside0.mk hB
      have hsz := hB.size
      clear hS hbl hB HGL HL h
      have eg : ∀ args w, (callFunc 76 args).run Try.prog w = .ok (.enter 76 args) w := enters_ Try.func76 (by kernel_rfl) rfl
      have hGP : h_GP w (((wr.alloc (.cells #[] 24)).alloc (.cells #[] 3)).alloc (.cells #[.slice (some ⟨wr.heap.size + 1, 0, none⟩) 0 0] 24)) w.heap.size (wr.heap.size + 1 + 1) (.slice A0 l0.length c0) left [] [] v (.slice (some ⟨wr.heap.size, 0, none⟩) 0 0) (.slice (some ⟨wr.heap.size + 1, 0, none⟩) 0 0) := by
        have b1 : (((wr.alloc (.cells #[] 24)).alloc (.cells #[] 3)).alloc (.cells #[.slice (some ⟨wr.heap.size + 1, 0, none⟩) 0 0] 24)).heap[wr.heap.size]? = some (.cells #[] 24 (0, 0)) := blk_alloc (blk_alloc (heap_alloc_new wr _) _) _
        have b2 : (((wr.alloc (.cells #[] 24)).alloc (.cells #[] 3)).alloc (.cells #[.slice (some ⟨wr.heap.size + 1, 0, none⟩) 0 0] 24)).heap[wr.heap.size + 1]? = some (.cells #[] 3 (0, 0)) := by
          have h_ := blk_alloc (heap_alloc_new (wr.alloc (.cells #[] 24)) (.cells #[] 3)) (.cells #[.slice (some ⟨wr.heap.size + 1, 0, none⟩) 0 0] 24)
          simpa using h_
        have b3 : (((wr.alloc (.cells #[] 24)).alloc (.cells #[] 3)).alloc (.cells #[.slice (some ⟨wr.heap.size + 1, 0, none⟩) 0 0] 24)).heap[wr.heap.size + 1 + 1]? = some (.cells #[.slice (some ⟨wr.heap.size + 1, 0, none⟩) 0 0] 24 (0, 0)) := by
          have h_ := heap_alloc_new ((wr.alloc (.cells #[] 24)).alloc (.cells #[] 3)) (.cells #[.slice (some ⟨wr.heap.size + 1, 0, none⟩) 0 0] 24)
          simpa using h_
        exact ⟨fun k_ => k_ ≠ w.heap.size ∧ k_ < wr.heap.size, fun k_ => k_ = wr.heap.size, fun k_ => k_ = wr.heap.size + 1, fun k_ hk => by have h1_ := hk.1; have h2_ := hk.2; refine ⟨?_, ?_, h1_, ?_⟩ <;> omega, fun k_ hk => by subst hk; refine ⟨?_, ?_, ?_⟩ <;> omega, fun k_ hk => by subst hk; refine ⟨?_, ?_⟩ <;> omega, by omega, by omega, Kd.S_alloc (Kd.S_alloc (Kd.S_alloc (Kd.S_mono HSB.out (fun k_ hk => ⟨hk.1, hk.2.2.1⟩)) _) _) _, h_S_empty _ b1 hsz rfl, h_R_empty _ b2 (by omega) rfl, blk_alloc (blk_alloc (blk_alloc HBL.out _) _) _, b3, below_alloc (below_alloc (below_alloc HB.out _) _) _⟩
      have HGP := Aside0.mk hGP
      have hgeB : w.heap.size < wr.heap.size + 1 + 1 := by omega
      clear hGP HSB HBL HB hcl hlt2 hsz hltz hlt hgg HG
      go_wp2
      generalize wr.heap.size + 1 + 1 = Bt at HGP hgeB ⊢
      go_loopg [3, 6, 8] left.length (fun gg s3 s6 s8 wq => ∃ (lf out : List (List Int)) (told : List Int) (vl vo vt : Value), vl = s3 ∧ vo = s6 ∧ lf.length ≤ gg ∧ out.length + lf.length ≤ 12 ∧ Aside0 (impl_groups.pick k l0 lf.length lf out told = some r) ∧ Aside0 (h_GP w wq w.heap.size Bt (.slice A0 l0.length c0) lf out told vl vo vt))
      case atStart => exact ⟨left, [], [], _, _, _, rfl, rfl, Nat.le_refl _, by simp; omega, HP0, HGP⟩
      case round =>
        clear HP0 HGP
        obtain ⟨lf, out, told, vl, vo, vt, rfl, rfl, hgg, hol, HP, HGP⟩ := hrel
        by_cases hpos : 0 < lf.length
        · have hposz : (lf.length : Int) > 0 := by omega
          obtain ⟨d, hd⟩ : ∃ d, lf.length = d + 1 := ⟨lf.length - 1, by omega⟩
          have h := HP.out
          rw [hd, impl_groups.pick] at h
          by_cases hall : ∀ x ∈ lf, (impl_groups.ok k l0 told x).isSome = true
          rotate_left
          · rw [if_neg hall] at h
            cases h
          rw [if_pos hall] at h
          obtain ⟨i, hfi, h⟩ := Option.bind_eq_some_iff.1 h
          by_cases hfit : h_fits told (lf.getD i []) = true
          rotate_left
          · rw [if_neg hfit] at h
            cases h
          rw [if_pos hfit] at h
          have hi : i < lf.length := (List.findIdx?_eq_some_iff_getElem.1 hfi).1
          have hid : d = (lf.eraseIdx i).length := by rw [List.length_eraseIdx, if_pos hi]; omega
          rw [hid] at h
          have hidx : idxF (fun x => (impl_groups.ok k l0 told x).getD false) lf = (i : Int) := by unfold idxF; rw [hfi]
          have hIF : Calls Try.prog 75 #[vl, .func (.func 76) #[] #[.pointer (some ⟨Bt, 0, none⟩), .pointer (some ⟨w.heap.size, 0, none⟩)]] wr fun e w' => e = .returned (.int .i64 (i : Int)) ∧ Below wr.heap.size wr w' := by
            obtain ⟨L, O, T, hLO, hOT, hTB, hne, hge, hSl, hSo, hRt, hbl, hbt, hB⟩ := HGP.out
            obtain ⟨Al, cl, rfl⟩ := Kd.S_slice hSl
            obtain ⟨At, ct, rfl⟩ := Kd.R_slice hRt
            rw [← hidx]
            exact IndexFunc_rows _ _ eg Al cl lf _ wr (h_groups1 k Bt w.heap.size A0 c0 l0 At ct told wr (blk_lt hbt) (blk_lt hbl) ((blk_cell hbt 0).trans rfl) ((blk_cell hbl 0).trans rfl) (Kd.C_below HR0.out hB) HC0.out (Kd.R_reads' hRt).2.2 (Kd.R_reads' hRt).2.1 lf _ (fun x hx => by
              obtain ⟨b, hb⟩ := Option.isSome_iff_exists.1 (hall x hx)
              have hb2 := hb
              unfold impl_groups.ok at hb2
              obtain ⟨cc, q1, q2⟩ := Option.bind_eq_some_iff.1 hb2
              by_cases hx0 : 0 < x.length
              · rw [if_pos hx0] at q2
                obtain ⟨rs, q3, q4⟩ := Option.map_eq_some_iff.1 q2
                exact ⟨cc, rs, q1, hx0, q3, by rw [hb, Option.getD_some, q4]⟩
              · rw [if_neg hx0] at q2
                cases q2)) (Kd.S_reads' hSl).2.2
          have HIF := Lib.hid hIF
          have H := Aside0.mk h
          have HFIT := Aside0.mk (show told.length + (lf.getD i []).length ≤ 1000000 from of_decide_eq_true hfit)
          have HLEN := Aside0.mk (show (out.length + 1) * 24 ≤ 140737488355328 by omega)
          have hi0 : (0 : Int) ≤ (i : Int) := by omega
          have hi1 : (i : Int) < (lf.length : Int) := by omega
          have hi2 : (i : Int) < 12 := by omega
          obtain ⟨gl, cl, rfl⟩ : ∃ gl cl, vl = .slice (some ⟨gl, 0, none⟩) lf.length cl := by
            obtain ⟨L, O, T, hLO, hOT, hTB, hne, hge, hSl, _⟩ := HGP.out
            obtain ⟨gl, cl, e_, _⟩ := Kd.S_form hSl hpos
            exact ⟨gl, cl, e_⟩
          obtain ⟨At, ct, rfl⟩ : ∃ At ct, vt = .slice At told.length ct := by
            obtain ⟨L, O, T, hLO, hOT, hTB, hne, hge, hSl, hSo, hRt, _⟩ := HGP.out
            obtain ⟨At, ct, e_⟩ := Kd.R_slice hRt
            exact ⟨At, ct, e_⟩
          clear hIF h hall hfi hfit hidx HP hid hd
          go_wp2_with (first | (go_at_call 75; refine HIF.out.mono ?_; rintro e w2 ⟨rfl, hb⟩; have HG3 := Aside0.mk (h_GP_below (h_GP_below HGP.out hb) (below_drew (Below.refl _ _))); clear hb HGP HIF))
          obtain ⟨L0, O, T0, hLO0, hOT0, hTB0, hne, hge, hSl0, hSo0, hRt0, hbl, hbt, hB3⟩ := HG3.out
          -- the sets, told to the blocks that are there
          obtain ⟨L, hL_⟩ : ∃ L : Nat → Prop, L = fun k_ => L0 k_ ∧ k_ < w2.drew.heap.size := ⟨_, rfl⟩
          obtain ⟨T, hT_⟩ : ∃ T : Nat → Prop, T = fun k_ => T0 k_ ∧ k_ < w2.drew.heap.size := ⟨_, rfl⟩
          have hLb : ∀ k_, L k_ → k_ < w2.drew.heap.size := fun k_ hk => by rw [hL_] at hk; exact hk.2
          have hTb : ∀ k_, T k_ → k_ < w2.drew.heap.size := fun k_ hk => by rw [hT_] at hk; exact hk.2
          have hLO : ∀ k_, L k_ → ¬ O k_ ∧ ¬ T k_ ∧ k_ ≠ w.heap.size ∧ k_ ≠ Bt := fun k_ hk => by
            rw [hL_] at hk
            obtain ⟨q1, q2, q3, q4⟩ := hLO0 k_ hk.1
            exact ⟨q1, fun h_ => by rw [hT_] at h_; exact q2 h_.1, q3, q4⟩
          have hOT : ∀ k_, O k_ → ¬ T k_ ∧ k_ ≠ w.heap.size ∧ k_ ≠ Bt := fun k_ hk => by
            obtain ⟨q2, q3, q4⟩ := hOT0 k_ hk
            exact ⟨fun h_ => by rw [hT_] at h_; exact q2 h_.1, q3, q4⟩
          have hTB : ∀ k_, T k_ → k_ ≠ w.heap.size ∧ k_ ≠ Bt := fun k_ hk => by
            rw [hT_] at hk
            exact hTB0 k_ hk.1
          have hSl : Kd.S (Kd.slice 3 (Kd.int .i64)) 24 w2.drew w.heap.size L (.slice (some ⟨gl, 0, none⟩) lf.length cl) lf := Kd.S_mono (Kd.S_bound hSl0) (fun k_ hk => by rw [hL_]; exact ⟨hk.1, hk.2.2.1⟩)
          have hRt : Kd.R (Kd.int .i64) 3 w2.drew w.heap.size T (.slice At told.length ct) told := Kd.R_mono (Kd.R_bound hRt0) (fun k_ hk => by rw [hT_]; exact ⟨hk.1, hk.2.2.1⟩)
          have hLgl : L gl := (Kd.S_R hSl).1 gl (by simp [Value.ownBlock])
          obtain ⟨oki, cc, hcl, hM, hcc, hoki, hH⟩ := Kd.S_lend hSl [] (i : Int) hi0 hi1
          obtain ⟨vi, rfl, hRi⟩ := hM
          have hxi := hcc 0 vi rfl
          simp only [Int.toNat_natCast, show (Kd.slice 3 (Kd.int .i64)).sz = 1 from rfl, Nat.mul_one, Nat.add_zero] at hxi hRi
          generalize lf.getD i [] = row at hRi hxi HFIT H
          obtain ⟨Ai, ci, rfl⟩ := Kd.R_slice hRi
          have hxt : w2.drew.cell? ⟨Bt, 0, none⟩ = some (.slice At told.length ct) := (blk_cell hbt 0).trans rfl
          have HSO := Aside0.mk hSo0
          have HT := Aside0.mk hRt
          have HH := Aside0.mk hH
          have HRI := Aside0.mk hRi
          have HOKI := Aside0.mk hoki
          have HBL := Aside0.mk hbl
          have HBT := Aside0.mk hbt
          have HB3 := Aside0.mk hB3
          have hj1 := eq_true hi0
          have hj2 := eq_true hi1
          clear hL_ hT_ hLO0 hOT0 hTB0 hSl0 hSo0 hRt0 hbl hbt hB3 hSl hRt hH hRi hoki hcc hcl HG3
          refine start_ (n := 15) (S := fun w' => w'.cell? ⟨gl, i, none⟩ = some (.slice Ai row.length ci) ∧ w'.cell? ⟨Bt, 0, none⟩ = some (.slice At told.length ct)) (ds := [14]) #[false, false, false, false, false, false, false, false, false, false, false, false, false, false, false] (by kernel_rfl) rfl rfl ⟨hxi, hxt⟩ (fun hHeld => ?_)
          generalize w2.drew = w3 at HSO HT HH HRI HBL HBT HB3 hHeld hLb hTb ⊢
          clear hxi hxt
          refine pure_ (i := 0) (N := some 36) (v := ?_) (a' := ?_) #[true, false, false, false, false, false, false, false, false, false, false, false, false, false, false] rfl rfl (by kernel_rfl) (fun _ _ _ h => h) (Or.inl ⟨by rfl, ?_⟩) ?_ ?_
          rotate_left
          · intro w'
            go_simp
            with_reducible rfl
          rotate_left
          · simp only [Act.put, List.setIfInBounds_toArray, List.set_cons_zero, List.set_cons_succ, i64_w, i32_w]
            rfl
          refine pure_ (i := 1) (N := some 37) (v := ?_) (a' := ?_) #[true, true, false, false, false, false, false, false, false, false, false, false, false, false, false] rfl rfl (by kernel_rfl) (fun _ _ _ h => h) (Or.inl ⟨by rfl, ?_⟩) ?_ ?_
          rotate_left
          · intro w'
            go_simp
            with_reducible rfl
          rotate_left
          · simp only [Act.put, List.setIfInBounds_toArray, List.set_cons_zero, List.set_cons_succ, i64_w, i32_w]
            rfl
          refine pure_ (i := 2) (N := some 38) (v := ?_) (a' := ?_) #[true, true, true, false, false, false, false, false, false, false, false, false, false, false, false] rfl rfl (by kernel_rfl) (fun _ _ _ h => h) (Or.inl ⟨by rfl, ?_⟩) ?_ ?_
          rotate_left
          · intro w'
            go_simp
            with_reducible rfl
          rotate_left
          · simp only [Act.put, List.setIfInBounds_toArray, List.set_cons_zero, List.set_cons_succ, i64_w, i32_w]
            rfl
          refine pure_ (i := 3) (N := some 39) (v := ?_) (a' := ?_) #[true, true, true, true, false, false, false, false, false, false, false, false, false, false, false] rfl rfl (by kernel_rfl) (fun _ _ _ h => h) (Or.inl ⟨by rfl, ?_⟩) ?_ ?_
          rotate_left
          · intro w'
            go_simp
            with_reducible rfl
          rotate_left
          · simp only [Act.put, List.setIfInBounds_toArray, List.set_cons_zero, List.set_cons_succ, i64_w, i32_w]
            rfl
          refine pure_ (i := 8) (N := some 44) (v := ?_) (a' := ?_) #[true, true, true, true, false, false, false, false, true, false, false, false, false, false, false] rfl rfl (by kernel_rfl) (fun _ _ _ h => h) (Or.inl ⟨by rfl, ?_⟩) ?_ ?_
          rotate_left
          · intro w'
            go_simp
            with_reducible rfl
          rotate_left
          · simp only [Act.put, List.setIfInBounds_toArray, List.set_cons_zero, List.set_cons_succ, i64_w, i32_w]
            rfl
          refine pure_ (i := 9) (N := some 45) (v := ?_) (a' := ?_) #[true, true, true, true, false, false, false, false, true, true, false, false, false, false, false] rfl rfl (by kernel_rfl) (fun _ _ _ h => h) (Or.inl ⟨by rfl, ?_⟩) ?_ ?_
          rotate_left
          · intro w'
            go_simp
            with_reducible rfl
          rotate_left
          · simp only [Act.put, List.setIfInBounds_toArray, List.set_cons_zero, List.set_cons_succ, i64_w, i32_w]
            rfl
          refine pure_ (i := 10) (N := some 46) (v := ?_) (a' := ?_) #[true, true, true, true, false, false, false, false, true, true, true, false, false, false, false] rfl rfl (by kernel_rfl) (fun _ _ _ h => h) (Or.inl ⟨by rfl, ?_⟩) ?_ ?_
          rotate_left
          · intro w'
            go_simp
            with_reducible rfl
          rotate_left
          · simp only [Act.put, List.setIfInBounds_toArray, List.set_cons_zero, List.set_cons_succ, i64_w, i32_w]
            rfl
          refine take_ (i := 4) (N := some 40) (v := ?_) (a' := ?_) #[true, true, true, true, true, false, false, false, true, true, true, false, false, false, false] rfl rfl (by kernel_rfl) (fun _ _ _ h => h) (Or.inl ⟨by rfl, ?_⟩) hHeld ?_ ?_
          rotate_left
          · rintro w' ⟨s0, s1⟩
            go_simp
            with_reducible rfl
          rotate_left
          · simp only [Act.put, List.setIfInBounds_toArray, List.set_cons_zero, List.set_cons_succ, i64_w, i32_w]
            rfl
          refine take_ (i := 7) (N := some 43) (v := ?_) (a' := ?_) #[true, true, true, true, true, false, false, true, true, true, true, false, false, false, false] rfl rfl (by kernel_rfl) (fun _ _ _ h => h) (Or.inl ⟨by rfl, ?_⟩) hHeld ?_ ?_
          rotate_left
          · rintro w' ⟨s0, s1⟩
            go_simp
            with_reducible rfl
          rotate_left
          · simp only [Act.put, List.setIfInBounds_toArray, List.set_cons_zero, List.set_cons_succ, i64_w, i32_w]
            rfl
          refine take_ (i := 11) (N := some 47) (v := ?_) (a' := ?_) #[true, true, true, true, true, false, false, true, true, true, true, true, false, false, false] rfl rfl (by kernel_rfl) (fun _ _ _ h => h) (Or.inl ⟨by rfl, ?_⟩) hHeld ?_ ?_
          rotate_left
          · rintro w' ⟨s0, s1⟩
            go_simp
            with_reducible rfl
          rotate_left
          · simp only [Act.put, List.setIfInBounds_toArray, List.set_cons_zero, List.set_cons_succ, i64_w, i32_w]
            rfl
          refine one_ (i := 5) (N := some 41) #[true, true, true, true, true, true, false, true, true, true, true, true, false, false, false] rfl rfl (by kernel_rfl) (by decide) (fun K hK => ?_)
          refine value_ (w1 := ?_) (v := ?_) (by rfl) rfl ?_ ?_
          rotate_left 2
          · go_simp
            constructor
            · rfl
            · rfl
          refine hK.out _ _ ⟨(World.cell?_alloc_lt _ _ _ (World.block_lt_of_cell? _ _ hHeld.1)).trans hHeld.1, (World.cell?_alloc_lt _ _ _ (World.block_lt_of_cell? _ _ hHeld.2)).trans hHeld.2⟩ (fun hHeld2 => ?_)
          clear hK K
          refine norm_ (a' := ?_) ?_ ?_
          rotate_left
          · show Act.put _ (some 41) _ = _
            simp only [Act.put, List.setIfInBounds_toArray, List.set_cons_zero, List.set_cons_succ, i64_w, i32_w]
            rfl
          refine one_ (i := 6) (N := some 42) #[true, true, true, true, true, true, true, true, true, true, true, true, false, false, false] rfl rfl (by kernel_rfl) (by decide) (fun K hK => ?_)
          refine Kd.S_append_step (Kd.slice 3 (Kd.int .i64)) (w0 := w) w.heap.size (by rfl) (.tmp 36) (.tmp 41) 22 24 (.slice none 0 0) 24 rfl Try.underlying22 info24 rfl (by decide) (by omega) vo out row [.slice Ai row.length ci] (fun k_ => O k_ ∨ oki k_ ∨ w3.heap.size ≤ k_) oki rfl rfl ⟨_, rfl, HRI.out⟩ (fun k_ hk => ⟨.inr (.inl hk), fun e_ => (hLO k_ (HOKI.out k_ hk).1).1 ((Kd.S_R HSO.out).1 k_ e_.symm)⟩) (fun k_ hk => .inr (.inr hk)) (Kd.S_mono HSO.out (fun k_ hk => ⟨.inl hk, fun h_ => (hLO k_ (HOKI.out k_ h_).1).1 hk⟩)) HB3.out HB3.out.size (by have := HLEN.out; omega) ?_
          intro v1 w4 hS4 hB4 hg4 hat4
          have hne4 : ∀ k_, L k_ ∨ T k_ ∨ oki k_ → some k_ ≠ vo.ownBlock := fun k_ hk e_ => by
            have hO_ := (Kd.S_R HSO.out).1 k_ e_.symm
            rcases hk with hk | hk | hk
            · exact (hLO k_ hk).1 hO_
            · exact (hOT k_ hO_).1 hk
            · exact (hLO k_ (HOKI.out k_ hk).1).1 hO_
          have HH4 := Aside0.mk (Kd.H_other HH.out hg4 (fun k_ hk => hne4 k_ (.inl hk)))
          have HT4 := Aside0.mk (Kd.R_grown HT.out hg4 (fun k_ hk => hne4 k_ (.inr (.inl hk))))
          have HRI4 := Aside0.mk (Kd.R_grown HRI.out hg4 (fun k_ hk => hne4 k_ (.inr (.inr hk))))
          have hbo4 : some w.heap.size ≠ vo.ownBlock ∧ some Bt ≠ vo.ownBlock := ⟨fun e_ => (hOT w.heap.size ((Kd.S_R HSO.out).1 w.heap.size e_.symm)).2.1 rfl, fun e_ => (hOT Bt ((Kd.S_R HSO.out).1 Bt e_.symm)).2.2 rfl⟩
          have HBL4 := Aside0.mk (blk_grown HBL.out hg4 hbo4.1)
          have HBT4 := Aside0.mk (blk_grown HBT.out hg4 hbo4.2)
          have hc4 := cell_grown hg4 hHeld.1 (hne4 gl (.inl hLgl))
          have hd4 := cell_grown hg4 hHeld.2 hbo4.2
          have HS4 := Aside0.mk (Kd.S_mono (ok' := fun k_ => (O k_ ∨ oki k_ ∨ w3.heap.size ≤ k_) ∧ k_ < w4.heap.size) (Kd.S_bound hS4) (fun k_ hk => ⟨hk.1, hk.2.2.1⟩))
          have HB4 := Aside0.mk hB4
          have hsz4 : w3.heap.size ≤ w4.heap.size := hg4.size
          refine hK.out _ _ ⟨hc4, hd4⟩ (fun hHeld3 => ?_)
          clear hK K
          refine norm_ (a' := ?_) ?_ ?_
          rotate_left
          · show Act.put _ (some 42) _ = _
            simp only [Act.put, List.setIfInBounds_toArray, List.set_cons_zero, List.set_cons_succ, i64_w, i32_w]
            rfl
          refine one_ (i := 12) (N := some 48) #[true, true, true, true, true, true, true, true, true, true, true, true, true, false, false] rfl rfl (by kernel_rfl) (by decide) (fun K hK => ?_)
          refine Kd.R_append_rows_step (Kd.int .i64) (w0 := w) w.heap.size (by rfl) (.tmp 43) (.tmp 47) 24 3 (.int .i64 0) 8 rfl Try.underlying24 info3 rfl (by decide) (by omega) (.slice At told.length ct) told row _ _ _ (fun k_ => T k_ ∨ w4.heap.size ≤ k_) (fun _ => False) rfl rfl (Kd.R_mono HT4.out (fun _ hk => .inl hk)) (Kd.R_reads' HRI4.out).2.2 (fun _ _ h => h) (fun _ h => h.elim) (fun k_ hk => .inr hk) HB4.out HB4.out.size (by have := HFIT.out; omega) ?_
          intro v2 w5 hT5 hB5 hg5 hat5
          have hT_ : ∀ k_, some k_ = (.slice At told.length ct : Value).ownBlock → T k_ := fun k_ e_ => HT.out.1 k_ e_.symm
          have hTlt : ∀ k_, T k_ → k_ < w3.heap.size := hTb
          have HS5 := Aside0.mk (Kd.S_grown HS4.out hg5 (fun k_ hk e_ => by
            have h_ := hT_ k_ e_
            rcases hk.1 with hk | hk | hk
            · exact (hOT k_ hk).1 h_
            · exact (hLO k_ (HOKI.out k_ hk).1).2.1 h_
            · have := hTlt k_ h_
              omega))
          have HH5 := Aside0.mk (Kd.H_other HH4.out hg5 (fun k_ hk e_ => (hLO k_ hk).2.1 (hT_ k_ e_)))
          have hbt5 : some w.heap.size ≠ (.slice At told.length ct : Value).ownBlock ∧ some Bt ≠ (.slice At told.length ct : Value).ownBlock := ⟨fun e_ => (hTB w.heap.size (hT_ w.heap.size e_)).1 rfl, fun e_ => (hTB Bt (hT_ Bt e_)).2 rfl⟩
          have HBL5 := Aside0.mk (blk_grown HBL4.out hg5 hbt5.1)
          have HBT5 := Aside0.mk (blk_grown HBT4.out hg5 hbt5.2)
          have hc5 := cell_grown hg5 hHeld3.1 (fun e_ => (hLO gl hLgl).2.1 (hT_ gl e_))
          have hd5 := cell_grown hg5 hHeld3.2 hbt5.2
          have hf5 : w5.frozen? ⟨Bt, 0, none⟩ = false := blk_frozen HBT5.out 0
          have HT5 := Aside0.mk hT5
          have HB5 := Aside0.mk hB5
          obtain ⟨A9, c9, rfl⟩ := Kd.R_slice hT5
          refine hK.out _ _ ⟨hc5, hd5⟩ (fun hHeld4 => ?_)
          clear hK K
          refine norm_ (a' := ?_) ?_ ?_
          rotate_left
          · show Act.put _ (some 48) _ = _
            simp only [Act.put, List.setIfInBounds_toArray, List.set_cons_zero, List.set_cons_succ, i64_w, i32_w]
            rfl
          refine pure_ (i := 13) (N := some 6) (v := ?_) (a' := ?_) #[true, true, true, true, true, true, true, true, true, true, true, true, true, true, false] rfl rfl (by kernel_rfl) (fun _ _ _ h => h) (Or.inl ⟨by rfl, ?_⟩) ?_ ?_
          rotate_left
          · intro w'
            go_simp
            with_reducible rfl
          rotate_left
          · simp only [Act.put, List.setIfInBounds_toArray, List.set_cons_zero, List.set_cons_succ, i64_w, i32_w]
            rfl
          refine last_ (i := 14) (N := none) #[true, true, true, true, true, true, true, true, true, true, true, true, true, true, true] rfl rfl (by kernel_rfl) (by decide) (fun K hK => ?_)
          refine skip_ (w1 := ?_) (by rfl) rfl ?_ ?_
          rotate_left
          · go_simp
            rfl
          refine hK.out _ _ ?_
          clear hK K
          refine done_ (by kernel_rfl) ?_
          rw [List.length_append] at hT5
          have e9 : (.slice A9 (told.length + row.length) c9 : Value) = .slice A9 (told ++ row).length c9 := by rw [List.length_append]
          have hO6 : ∀ k_, ((O k_ ∨ oki k_ ∨ w3.heap.size ≤ k_) ∧ k_ < w4.heap.size) → k_ ≠ w.heap.size ∧ k_ ≠ Bt ∧ k_ ≠ gl := fun k_ hk => by
            have hglt := hLb gl hLgl
            have hbtl := blk_lt HBT.out
            have hbll := blk_lt HBL.out
            rcases hk.1 with h_ | h_ | h_
            · exact ⟨(hOT k_ h_).2.1, (hOT k_ h_).2.2, fun e_ => (hLO gl hLgl).1 (e_ ▸ h_)⟩
            · exact ⟨(hLO k_ (HOKI.out k_ h_).1).2.2.1, (hLO k_ (HOKI.out k_ h_).1).2.2.2, (HOKI.out k_ h_).2⟩
            · refine ⟨?_, ?_, ?_⟩ <;> omega
          have hT6 : ∀ k_, (T k_ ∨ w4.heap.size ≤ k_) → k_ ≠ w.heap.size ∧ k_ ≠ Bt := fun k_ hk => by
            have hbtl := blk_lt HBT4.out
            have hbll := blk_lt HBL4.out
            rcases hk with h_ | h_
            · exact hTB k_ h_
            · refine ⟨?_, ?_⟩ <;> omega
          have HS6 := Aside0.mk (Kd.S_far (p := ⟨Bt, 0, none⟩) HS5.out (fun k_ hk => (hO6 k_ hk).2.1) (.slice A9 (told.length + row.length) c9))
          have HH6 := Aside0.mk (Kd.H_far (p := ⟨Bt, 0, none⟩) HH5.out (fun k_ hk => (hLO k_ hk).2.2.2) (.slice A9 (told.length + row.length) c9))
          have HT6 := Aside0.mk (Kd.R_far (p := ⟨Bt, 0, none⟩) hT5 (fun k_ hk => (hT6 k_ hk).2) (.slice A9 (told.length + row.length) c9))
          have HBL6 := Aside0.mk (blk_far (p := ⟨Bt, 0, none⟩) HBL5.out hne (.slice A9 (told.length + row.length) c9))
          have HBT6 := Aside0.mk (show (w5.setCell ⟨Bt, 0, none⟩ (.slice A9 (told.length + row.length) c9)).heap[Bt]? = some (.cells #[.slice A9 (told.length + row.length) c9] 24 (0, 0)) from blk_set HBT5.out 0 (.slice A9 (told.length + row.length) c9))
          have HB6 := Aside0.mk (HB5.out.setCell (p := ⟨Bt, 0, none⟩) hge (.slice A9 (told.length + row.length) c9))
          have hbnd : ∀ k_, L k_ → ¬ w3.heap.size ≤ k_ := fun k_ hk => by have := hLb k_ hk; omega
          clear hc5 hd5 hf5 hbt5 hc4 hd4 hbo4 hne4 hHeld hHeld2 hHeld3 hHeld4 HS5 HH5 HT5 HBL5 HBT5 HB5 HS4 HH4 HT4 HRI4 HBL4 HBT4 HB4 HSO HT HH HRI HBL HBT HB3 hT5 hT_ hTlt hS4 hB4 hg4 hat4 hB5 hg5 hat5
          generalize w5.setCell ⟨Bt, 0, none⟩ (.slice A9 (told.length + row.length) c9) = w6 at HS6 HH6 HT6 HBL6 HBT6 HB6 ⊢
          obtain ⟨_, f, hgR⟩ := HH6.out
          rw [Int.toNat_natCast] at hgR
          have HDEL := Lib.hid (Delete_rows (Kd.gap f (Kd.slice 3 (Kd.int .i64)) i [.slice Ai row.length ci]) rfl gl lf.length cl i (fun k_ => L k_ ∧ ¬ oki k_) lf.zipIdx w w6 HB6.out hgR hi (by omega))
          clear hgR HH6
          go_wp2_with (first | (go_at_call 78; refine HDEL.out.mono ?_; rintro e w7 ⟨rfl, hR7, hB7, hK7⟩; have HL7 := Aside0.mk (h_gap_erase hR7); have HB7 := Aside0.mk hB7; have HK7 := Aside0.mk hK7; clear hR7 hB7 hK7 HDEL))
          go_roundg (lf.length - 1)
          case measure => omega
          case rel =>
            have hle : (lf.eraseIdx i).length = lf.length - 1 := by rw [List.length_eraseIdx, if_pos hi]
            refine ⟨lf.eraseIdx i, out ++ [row], told ++ row, .slice (some ⟨gl, 0, none⟩) (lf.length - 1) cl, v1, .slice A9 (told.length + row.length) c9, by first | rfl | simp, rfl, by omega, by rw [hle, List.length_append, List.length_singleton]; omega, H, ⟨fun k_ => L k_ ∧ ¬ oki k_, fun k_ => (O k_ ∨ oki k_ ∨ w3.heap.size ≤ k_) ∧ k_ < w4.heap.size, fun k_ => T k_ ∨ w4.heap.size ≤ k_, ?_, ?_, ?_, hne, hge, HL7.out, Kd.S_kept HS6.out HK7.out (fun k_ hk => (hO6 k_ hk).2.2), Kd.R_kept HT6.out HK7.out ?_, blk_kept HBL6.out HK7.out (fun e_ => (hLO gl hLgl).2.2.1 e_.symm), blk_kept HBT6.out HK7.out (fun e_ => (hLO gl hLgl).2.2.2 e_.symm), HB7.out⟩⟩
            · intro k_ hk
              obtain ⟨q1, q2, q3, q4⟩ := hLO k_ hk.1
              refine ⟨fun h_ => ?_, fun h_ => ?_, q3, q4⟩
              · rcases h_.1 with h_ | h_ | h_
                · exact q1 h_
                · exact hk.2 h_
                · exact hbnd k_ hk.1 h_
              · rcases h_ with h_ | h_
                · exact q2 h_
                · exact hbnd k_ hk.1 (by omega)
            · intro k_ hk
              refine ⟨fun h_ => ?_, (hO6 k_ hk).1, (hO6 k_ hk).2.1⟩
              rcases h_ with h_ | h_
              · rcases hk.1 with hk | hk | hk
                · exact (hOT k_ hk).1 h_
                · exact (hLO k_ (HOKI.out k_ hk).1).2.1 h_
                · have := hTb k_ h_
                  omega
              · have := hk.2
                omega
            · exact hT6
            · intro k_ hk e_
              subst e_
              rcases hk with h_ | h_
              · exact (hLO _ hLgl).2.1 h_
              · exact hbnd _ hLgl (by omega)
        · have hposz : ¬ (lf.length : Int) > 0 := by omega
          have h := HP.out
          rw [show lf.length = 0 by omega, impl_groups.pick] at h
          obtain rfl := Option.some.inj h
          obtain ⟨L, O, T, hLO, hOT, hTB, hne, hge, hSl, hSo, hRt, hbl, hbt, hB⟩ := HGP.out
          obtain ⟨Al, cl, rfl⟩ := Kd.S_slice hSl
          have HSO := Aside0.mk hSo
          have HB := Aside0.mk hB
          clear hLO hOT hTB hSl hSo hRt hbl hbt hB HGP h HP
          go_wp2
          go_ret
          exact ⟨vo, by first | rfl | simp, Kd.S_mono HSO.out (fun _ _ => trivial), HB.out⟩
-- (told above)
set_option maxHeartbeats 8000000 in
set_option maxRecDepth 100000 in
theorem impl_groups.calls (k : Nat) (A0 : Option Addr) (c0 : Nat) (l0 : List (List Int)) (r : List (List Int)) (w : World) (hr0 : Kd.C (Kd.slice 3 (Kd.int .i64)) w A0 l0.length l0) (hc0 : l0.length ≤ c0) (h : impl_groups.f k l0 = some r) :
    Calls Try.prog 42 #[.slice A0 l0.length c0] w fun e w' => ∃ v0_ : Value, e = .returned (v0_) ∧ Kd.S (Kd.slice 3 (Kd.int .i64)) 24 w' w.heap.size (fun _ => True) v0_ r ∧ Below w.heap.size w w' := by
  exact h_groups k A0 c0 l0 r w hr0 hc0 h

/-! ### slices_Clone_int_int: function 81, by hand -/
def slices_Clone_int_int.f (l0 : List Int) : Option (List Int) := if l0.length * 8 ≤ 140737488355328 then some l0 else none
set_option maxHeartbeats 8000000 in
set_option maxRecDepth 100000 in
theorem slices_Clone_int_int.calls (A0 : Option Addr) (c0 : Nat) (l0 : List Int) (r : List Int) (w : World) (hr0 : Kd.C (Kd.int .i64) w A0 l0.length l0) (hc0 : l0.length ≤ c0) (h : slices_Clone_int_int.f l0 = some r) :
    Calls Try.prog 81 #[.slice A0 l0.length c0] w fun e w' => ∃ v0_ : Value, e = .returned (v0_) ∧ Kd.R (Kd.int .i64) 3 w' w.heap.size (fun _ => True) v0_ r ∧ Below w.heap.size w w' := by
  unfold slices_Clone_int_int.f at h
  by_cases hl : l0.length * 8 ≤ 140737488355328
  · rw [if_pos hl] at h
    obtain rfl := Option.some.inj h
    have key : ∀ (v' : Value) (w' : World), w'.ownsRow w.heap.size 3 1 v' l0.length (l0.map (Value.int .i64)) → Kd.R (Kd.int .i64) 3 w' w.heap.size (fun _ => True) v' l0 :=
      fun v' w' ho => Kd.R_of_own ho (fun _ _ => trivial)
    rcases Nat.eq_zero_or_pos l0.length with h0 | h0
    · obtain rfl : l0 = [] := List.eq_nil_of_length_eq_zero h0
      cases A0 with
      | none =>
        refine (Try.slices_Clone_int_nil 0 c0 w).mono ?_
        rintro e w' ⟨rfl, rfl⟩
        exact ⟨_, rfl, Kd.R_nil _ _ _ _ _, Below.refl _ _⟩
      | some a =>
        refine (Try.slices_Clone_int_zero a c0 w).mono ?_
        rintro e w' ⟨v', rfl, ho, _, hb⟩
        exact ⟨_, rfl, key v' w' ho, hb⟩
    · obtain ⟨b, off, rfl, hcells⟩ := h_ints_at hr0 h0
      refine (Try.slices_Clone_int b off l0.length c0 l0 w (Nat.le_refl _) hl hcells).mono ?_
      rintro e w' ⟨v', rfl, ho, _, hb⟩
      rw [List.take_length] at ho
      exact ⟨_, rfl, key v' w' ho, hb⟩
  · rw [if_neg hl] at h
    cases h

/-! ### impl_both_1: function 82, by hand -/
theorem h_both1 (B : Nat) (A : Option Addr) (c : Nat) (l : List Int) (w : World) (S : Nat → Prop) (hB : ¬ S B) (hcell : w.cell? ⟨B, 0, none⟩ = some (.slice A l.length c)) (hr : ∀ W, Kept w W S → Kd.C (Kd.int .i64) W A l.length l) (hc : l.length ≤ c) (xs : List Int) :
    PredS 82 #[.pointer (some ⟨B, 0, none⟩)] xs (fun n => !l.contains n) w S := by
  intro W x hk _
  have hc0 : W.cell? ⟨B, 0, none⟩ = some (.slice A l.length c) := cell_kept hcell hk hB
  have HC := Lib.hid (h_contains_calls A c l x W (hr W hk) hc)
  clear hcell hk hr hB
  show Calls Try.prog 82 #[.int .i64 x, .pointer (some ⟨B, 0, none⟩)] W _
  go_enter Try.func82, Try.ntmps82
  go_wp2_with (go_at_call 83; refine HC.out.mono ?_; rintro e w' ⟨rfl, hd⟩)
  go_ret
  exact ⟨by first | rfl | simp, hd.below⟩

/-! ### impl_both: function 48, by hand -/
def impl_both.f (l0 : List Int) (l1 : List Int) : Option (List Int) := if l0.length * 8 ≤ 140737488355328 then some (l0.filter fun n => l1.contains n) else none
set_option maxHeartbeats 8000000 in
set_option maxRecDepth 100000 in
theorem impl_both.calls (A0 : Option Addr) (c0 : Nat) (l0 : List Int) (A1 : Option Addr) (c1 : Nat) (l1 : List Int) (r : List Int) (w : World) (hr0 : Kd.C (Kd.int .i64) w A0 l0.length l0) (hc0 : l0.length ≤ c0) (hr1 : Kd.C (Kd.int .i64) w A1 l1.length l1) (hc1 : l1.length ≤ c1) (h : impl_both.f l0 l1 = some r) :
    Calls Try.prog 48 #[.slice A0 l0.length c0, .slice A1 l1.length c1] w fun e w' => ∃ v0_ : Value, e = .returned (v0_) ∧ Kd.R (Kd.int .i64) 3 w' w.heap.size (fun _ => True) v0_ r ∧ Below w.heap.size w w' := by
  unfold impl_both.f at h
  by_cases hl : l0.length * 8 ≤ 140737488355328
  · rw [if_pos hl] at h
    obtain rfl := Option.some.inj h
    have eg : ∀ args w, (callFunc 82 args).run Try.prog w = .ok (.enter 82 args) w := enters_ Try.func82 (by kernel_rfl) rfl
    have hb0 : Below w.heap.size w (w.alloc (.cells #[.slice A1 l1.length c1] 24)) := below_alloc (Below.refl _ _) _
    have HC := Lib.hid (slices_Clone_int_int.calls A0 c0 l0 l0 (w.alloc (.cells #[.slice A1 l1.length c1] 24)) (Kd.C_below hr0 hb0) hc0 (if_pos hl))
    have HD := Lib.hid (show ∀ (v : Value) (w1 : World), Kd.R (Kd.int .i64) 3 w1 (w.heap.size + 1) (fun _ => True) v l0 → Below (w.heap.size + 1) (w.alloc (.cells #[.slice A1 l1.length c1] 24)) w1 → Calls Try.prog 80 #[v, .func (.func 82) #[] #[.pointer (some ⟨w.heap.size, 0, none⟩)]] w1 fun e w' => ∃ v0_ : Value, e = .returned v0_ ∧ Kd.R (Kd.int .i64) 3 w' w.heap.size (fun _ => True) v0_ (l0.filter fun n => l1.contains n) ∧ Below w.heap.size w w' from fun v w1 hR hb => by
      have hsz : (w.alloc (.cells #[.slice A1 l1.length c1] 24)).heap.size = w.heap.size + 1 := by simp
      have hb1 : Below w.heap.size w w1 := below_step hb0 (by rw [hsz]; exact hb)
      have hbase : ∀ k, (some k = v.ownBlock) → w.heap.size + 1 ≤ k := fun k hk => Kd.R_base hR k hk.symm
      have hP := h_both1 w.heap.size A1 c1 l1 w1 (fun k => some k = v.ownBlock) (fun hk => by have := hbase _ hk; omega) (by
        have := pw_cell_below (w := w.alloc (.cells #[.slice A1 l1.length c1] 24)) (w1 := w1) (by rw [hsz]; exact hb) (a := ⟨w.heap.size, 0, none⟩) (v := .slice A1 l1.length c1) (by simp)
        exact this) (Kd.C_kept_came (Kd.heap_int .i64) hr1 hb1 (fun k hk => by have := hbase k hk; omega)) hc1 l0
      refine (DeleteFunc_int 82 _ eg (fun k => some k = v.ownBlock) v l0 _ w w1 hb1 (Kd.R_lower (Kd.R_tight rfl hR) (by omega)) hP).mono ?_
      rintro e w' ⟨v0, rfl, hR', hB', _⟩
      exact ⟨v0, rfl, by simpa using Kd.R_mono (ok' := fun _ => True) hR' (fun _ _ => trivial), hB'⟩)
    clear hr0 hr1 hb0 h hl
    generalize (l0.filter fun n => l1.contains n) = q at HD ⊢
    go_enter Try.func48, Try.ntmps48
    go_wp2_with (first | (go_at_call 81; refine HC.out.mono ?_; rintro e w1 ⟨v, rfl, hR, hb⟩; have HR := Aside0.mk hR; have HB := Aside0.mk hb; clear hR hb) | (go_at_call 80; refine (HD.out _ _ (by simpa using HR.out) (by simpa using HB.out)).mono ?_; rintro e w' ⟨v0, rfl, hR, hb⟩))
    exact bodyPost_ret (v := v0) (by simp [results, go_sem]) rfl ⟨v0, rfl, hR, hb⟩
  · rw [if_neg hl] at h
    cases h

/-! ### impl_without_1: function 113, by hand -/
theorem h_without1 (B : Nat) (A : Option Addr) (c : Nat) (l : List Int) (w : World) (S : Nat → Prop) (hB : ¬ S B) (hcell : w.cell? ⟨B, 0, none⟩ = some (.slice A l.length c)) (hr : ∀ W, Kept w W S → Kd.C (Kd.int .i64) W A l.length l) (hc : l.length ≤ c) (xs : List Int) :
    PredS 113 #[.pointer (some ⟨B, 0, none⟩)] xs (fun n => l.contains n) w S := by
  intro W x hk _
  have hc0 : W.cell? ⟨B, 0, none⟩ = some (.slice A l.length c) := cell_kept hcell hk hB
  have HC := Lib.hid (h_contains_calls A c l x W (hr W hk) hc)
  clear hcell hk hr hB
  show Calls Try.prog 113 #[.int .i64 x, .pointer (some ⟨B, 0, none⟩)] W _
  go_enter Try.func113, Try.ntmps113
  go_wp2_with (go_at_call 83; refine HC.out.mono ?_; rintro e w' ⟨rfl, hd⟩)
  go_ret
  exact ⟨by first | rfl | simp, hd.below⟩

/-! ### impl_without: function 89, by hand -/
def impl_without.f (l0 : List Int) (l1 : List Int) : Option (List Int) := if l0.length * 8 ≤ 140737488355328 then some (l0.filter fun n => !l1.contains n) else none
set_option maxHeartbeats 8000000 in
set_option maxRecDepth 100000 in
theorem impl_without.calls (A0 : Option Addr) (c0 : Nat) (l0 : List Int) (A1 : Option Addr) (c1 : Nat) (l1 : List Int) (r : List Int) (w : World) (hr0 : Kd.C (Kd.int .i64) w A0 l0.length l0) (hc0 : l0.length ≤ c0) (hr1 : Kd.C (Kd.int .i64) w A1 l1.length l1) (hc1 : l1.length ≤ c1) (h : impl_without.f l0 l1 = some r) :
    Calls Try.prog 89 #[.slice A0 l0.length c0, .slice A1 l1.length c1] w fun e w' => ∃ v0_ : Value, e = .returned (v0_) ∧ Kd.R (Kd.int .i64) 3 w' w.heap.size (fun _ => True) v0_ r ∧ Below w.heap.size w w' := by
  unfold impl_without.f at h
  by_cases hl : l0.length * 8 ≤ 140737488355328
  · rw [if_pos hl] at h
    obtain rfl := Option.some.inj h
    have eg : ∀ args w, (callFunc 113 args).run Try.prog w = .ok (.enter 113 args) w := enters_ Try.func113 (by kernel_rfl) rfl
    have hb0 : Below w.heap.size w (w.alloc (.cells #[.slice A1 l1.length c1] 24)) := below_alloc (Below.refl _ _) _
    have HC := Lib.hid (slices_Clone_int_int.calls A0 c0 l0 l0 (w.alloc (.cells #[.slice A1 l1.length c1] 24)) (Kd.C_below hr0 hb0) hc0 (if_pos hl))
    have HD := Lib.hid (show ∀ (v : Value) (w1 : World), Kd.R (Kd.int .i64) 3 w1 (w.heap.size + 1) (fun _ => True) v l0 → Below (w.heap.size + 1) (w.alloc (.cells #[.slice A1 l1.length c1] 24)) w1 → Calls Try.prog 80 #[v, .func (.func 113) #[] #[.pointer (some ⟨w.heap.size, 0, none⟩)]] w1 fun e w' => ∃ v0_ : Value, e = .returned v0_ ∧ Kd.R (Kd.int .i64) 3 w' w.heap.size (fun _ => True) v0_ (l0.filter fun n => !l1.contains n) ∧ Below w.heap.size w w' from fun v w1 hR hb => by
      have hsz : (w.alloc (.cells #[.slice A1 l1.length c1] 24)).heap.size = w.heap.size + 1 := by simp
      have hb1 : Below w.heap.size w w1 := below_step hb0 (by rw [hsz]; exact hb)
      have hbase : ∀ k, (some k = v.ownBlock) → w.heap.size + 1 ≤ k := fun k hk => Kd.R_base hR k hk.symm
      have hP := h_without1 w.heap.size A1 c1 l1 w1 (fun k => some k = v.ownBlock) (fun hk => by have := hbase _ hk; omega) (by
        have := pw_cell_below (w := w.alloc (.cells #[.slice A1 l1.length c1] 24)) (w1 := w1) (by rw [hsz]; exact hb) (a := ⟨w.heap.size, 0, none⟩) (v := .slice A1 l1.length c1) (by simp)
        exact this) (Kd.C_kept_came (Kd.heap_int .i64) hr1 hb1 (fun k hk => by have := hbase k hk; omega)) hc1 l0
      refine (DeleteFunc_int 113 _ eg (fun k => some k = v.ownBlock) v l0 _ w w1 hb1 (Kd.R_lower (Kd.R_tight rfl hR) (by omega)) hP).mono ?_
      rintro e w' ⟨v0, rfl, hR', hB', _⟩
      exact ⟨v0, rfl, by simpa using Kd.R_mono (ok' := fun _ => True) hR' (fun _ _ => trivial), hB'⟩)
    clear hr0 hr1 hb0 h hl
    generalize (l0.filter fun n => !l1.contains n) = q at HD ⊢
    go_enter Try.func89, Try.ntmps89
    go_wp2_with (first | (go_at_call 81; refine HC.out.mono ?_; rintro e w1 ⟨v, rfl, hR, hb⟩; have HR := Aside0.mk hR; have HB := Aside0.mk hb; clear hR hb) | (go_at_call 80; refine (HD.out _ _ (by simpa using HR.out) (by simpa using HB.out)).mono ?_; rintro e w' ⟨v0, rfl, hR, hb⟩))
    exact bodyPost_ret (v := v0) (by simp [results, go_sem]) rfl ⟨v0, rfl, hR, hb⟩
  · rw [if_neg hl] at h
    cases h

/-! ### impl_ready_1: function 114, by hand -/
set_option maxHeartbeats 1000000 in
theorem h_ready1 (k : Nat) (B1 B2 : Nat) (A : Option Addr) (c : Nat) (l : List (List Int)) (A2 : Option Addr) (c2 : Nat) (kn : List Int) (w : World) (S : Nat → Prop) (hB1 : ¬ S B1) (hB2 : ¬ S B2) (hcell1 : w.cell? ⟨B1, 0, none⟩ = some (.slice A2 kn.length c2)) (hcell2 : w.cell? ⟨B2, 0, none⟩ = some (.slice A l.length c))
    (hr : ∀ W, Kept w W S → Kd.C (Kd.slice 3 (Kd.int .i64)) W A l.length l) (hc : l.length ≤ c) (hr2 : ∀ W, Kept w W S → Kd.C (Kd.int .i64) W A2 kn.length kn) (hc2 : kn.length ≤ c2) (xs : List Int) (p : Int → Bool) (hp : ∀ x ∈ xs, ∃ rs, impl_reach.f k l x = some rs ∧ p x = !(rs.all fun n => kn.contains n)) :
    PredS 114 #[.pointer (some ⟨B1, 0, none⟩), .pointer (some ⟨B2, 0, none⟩)] xs p w S := by
  intro W x hk hx
  obtain ⟨rs, hrs, hpx⟩ := hp x hx
  rw [hpx]
  have hc1 : W.cell? ⟨B1, 0, none⟩ = some (.slice A2 kn.length c2) := cell_kept hcell1 hk hB1
  have hc3 : W.cell? ⟨B2, 0, none⟩ = some (.slice A l.length c) := cell_kept hcell2 hk hB2
  have hl1 : B1 < W.heap.size := World.block_lt_of_cell? W ⟨B1, 0, none⟩ hc1
  have hl2 : B2 < W.heap.size := World.block_lt_of_cell? W ⟨B2, 0, none⟩ hc3
  have HR := Lib.hid (show ∀ W', Below W.heap.size W W' → Calls Try.prog 77 #[.slice A l.length c, .int .i64 x] W' _ from fun W' hb => impl_reach.calls k A c l x rs W' (Kd.C_below (hr W hk) hb) hc hrs)
  have HA := Lib.hid (show ∀ W' A1 c1, Below W.heap.size W W' → Kd.C (Kd.int .i64) W' A1 rs.length rs → rs.length ≤ c1 → Calls Try.prog 55 #[.slice A2 kn.length c2, .slice A1 rs.length c1] W' fun e w' => e = .returned (.bool (rs.all fun n => kn.contains n)) ∧ Below W'.heap.size W' w' from fun W' A1 c1 hb hC hl => impl_hasAll.calls A2 c2 kn A1 c1 rs _ W' (Kd.C_below (hr2 W hk) hb) hc2 hC hl rfl)
  clear hcell1 hcell2 hk hr hr2 hB1 hB2 hp hpx hrs
  generalize (rs.all fun n => kn.contains n) = q at HA ⊢
  show Calls Try.prog 114 #[.int .i64 x, .pointer (some ⟨B1, 0, none⟩), .pointer (some ⟨B2, 0, none⟩)] W _
  go_enter Try.func114, Try.ntmps114
  go_wp2
  go_region_held3 (fun w' => Below W.heap.size W w' ∧ w'.cell? ⟨B1, 0, none⟩ = some (.slice A2 kn.length c2) ∧ w'.cell? ⟨B2, 0, none⟩ = some (.slice A l.length c)) (first | assumption | exact ⟨below_drew (Below.refl _ _), hc1, hc3⟩)
    (first | (go_at_call 77; have hS := ‹Below W.heap.size W _ ∧ _ ∧ _›; refine (HR.out _ hS.1).mono ?_; rintro e w1 ⟨v0, rfl, hR, hb⟩; obtain ⟨A1, cc, rfl, hlc, hC⟩ := Kd.R_reads hR; have hS2 := And.intro (below_step hS.1 hb) (And.intro (pw_cell_below hb hS.2.1) (pw_cell_below hb hS.2.2)); clear hS hR hb) | (go_at_call 55; have hS := ‹Below W.heap.size W _ ∧ _ ∧ _›; refine (HA.out _ _ _ hS.1 (by assumption) (by assumption)).mono ?_; rintro e w1 ⟨rfl, hb⟩; have hS2 := And.intro (below_step hS.1 hb) (And.intro (pw_cell_below hb hS.2.1) (pw_cell_below hb hS.2.2)); clear hS hb))
  have hS := ‹Below W.heap.size W _ ∧ _ ∧ _›
  go_wp2
  go_ret
  exact ⟨by first | rfl | simp, hS.1⟩

/-! ### impl_ready: function 90, by hand -/
def impl_ready.f (k : Nat) (l0 : List (List Int)) (l1 : List Int) : Option (List Int) := if l1.length * 8 ≤ 140737488355328 then filtO (fun x => (impl_reach.f k l0 x).map fun rs => rs.all fun n => l1.contains n) l1 else none
theorem impl_ready.mono : ∀ a0 a1 k, LeO (impl_ready.f k a0 a1) (impl_ready.f (k + 1) a0 a1) := by
  intro a0 a1 k
  unfold impl_ready.f
  by_cases hl : a1.length * 8 ≤ 140737488355328
  · rw [if_pos hl, if_pos hl]
    exact filtO_mono (fun x => LeO.map _ (impl_reach.mono _ _ k)) a1
  · rw [if_neg hl, if_neg hl]
    exact LeO.refl _
set_option maxHeartbeats 8000000 in
set_option maxRecDepth 100000 in
theorem impl_ready.calls (k : Nat) (A0 : Option Addr) (c0 : Nat) (l0 : List (List Int)) (A1 : Option Addr) (c1 : Nat) (l1 : List Int) (r : List Int) (w : World) (hr0 : Kd.C (Kd.slice 3 (Kd.int .i64)) w A0 l0.length l0) (hc0 : l0.length ≤ c0) (hr1 : Kd.C (Kd.int .i64) w A1 l1.length l1) (hc1 : l1.length ≤ c1) (h : impl_ready.f k l0 l1 = some r) :
    Calls Try.prog 90 #[.slice A0 l0.length c0, .slice A1 l1.length c1] w fun e w' => ∃ v0_ : Value, e = .returned (v0_) ∧ Kd.R (Kd.int .i64) 3 w' w.heap.size (fun _ => True) v0_ r ∧ Below w.heap.size w w' := by
  unfold impl_ready.f at h
  by_cases hl : l1.length * 8 ≤ 140737488355328
  · rw [if_pos hl] at h
    obtain ⟨hall, rfl⟩ := filtO_some h
    have eg : ∀ args w, (callFunc 114 args).run Try.prog w = .ok (.enter 114 args) w := enters_ Try.func114 (by kernel_rfl) rfl
    have hp : ∀ x ∈ l1, ∃ rs, impl_reach.f k l0 x = some rs ∧ (!((impl_reach.f k l0 x).map fun rs => rs.all fun n => l1.contains n).getD false) = !(rs.all fun n => l1.contains n) := fun x hx => by
      have h1 := hall x hx
      obtain ⟨rs, h2, h3⟩ := Option.map_eq_some_iff.1 h1
      exact ⟨rs, h2, by rw [h2]; rfl⟩
    have hb0 : Below w.heap.size w ((w.alloc (.cells #[.slice A0 l0.length c0] 22)).alloc (.cells #[.slice A1 l1.length c1] 24)) := below_alloc (below_alloc (Below.refl _ _) _) _
    have HC := Lib.hid (slices_Clone_int_int.calls A1 c1 l1 l1 ((w.alloc (.cells #[.slice A0 l0.length c0] 22)).alloc (.cells #[.slice A1 l1.length c1] 24)) (Kd.C_below hr1 hb0) hc1 (if_pos hl))
    have HD := Lib.hid (show ∀ (v : Value) (w1 : World), Kd.R (Kd.int .i64) 3 w1 (w.heap.size + 2) (fun _ => True) v l1 → Below (w.heap.size + 2) ((w.alloc (.cells #[.slice A0 l0.length c0] 22)).alloc (.cells #[.slice A1 l1.length c1] 24)) w1 → Calls Try.prog 80 #[v, .func (.func 114) #[] #[.pointer (some ⟨w.heap.size + 1, 0, none⟩), .pointer (some ⟨w.heap.size, 0, none⟩)]] w1 fun e w' => ∃ v0_ : Value, e = .returned v0_ ∧ Kd.R (Kd.int .i64) 3 w' w.heap.size (fun _ => True) v0_ (l1.filter fun x => ((impl_reach.f k l0 x).map fun rs => rs.all fun n => l1.contains n).getD false) ∧ Below w.heap.size w w' from fun v w1 hR hb => by
      have hsz : ((w.alloc (.cells #[.slice A0 l0.length c0] 22)).alloc (.cells #[.slice A1 l1.length c1] 24)).heap.size = w.heap.size + 2 := by simp
      have hb2 : Below ((w.alloc (.cells #[.slice A0 l0.length c0] 22)).alloc (.cells #[.slice A1 l1.length c1] 24)).heap.size ((w.alloc (.cells #[.slice A0 l0.length c0] 22)).alloc (.cells #[.slice A1 l1.length c1] 24)) w1 := by rw [hsz]; exact hb
      have hb1 : Below w.heap.size w w1 := below_step hb0 hb2
      have hbase : ∀ k, (some k = v.ownBlock) → w.heap.size + 2 ≤ k := fun k hk => Kd.R_base hR k hk.symm
      have hP := h_ready1 k (w.heap.size + 1) w.heap.size A0 c0 l0 A1 c1 l1 w1 (fun k => some k = v.ownBlock) (fun hk => by have := hbase _ hk; omega) (fun hk => by have := hbase _ hk; omega)
        (pw_cell_below hb2 (a := ⟨w.heap.size + 1, 0, none⟩) (v := .slice A1 l1.length c1) (by simp)) (pw_cell_below hb2 (a := ⟨w.heap.size, 0, none⟩) (v := .slice A0 l0.length c0) (by simp))
        (Kd.C_kept_came (Kd.heap_slice 3 (Kd.heap_int .i64)) hr0 hb1 (fun k hk => by have := hbase k hk; omega)) hc0 (Kd.C_kept_came (Kd.heap_int .i64) hr1 hb1 (fun k hk => by have := hbase k hk; omega)) hc1 l1 _ hp
      refine (DeleteFunc_int 114 _ eg (fun k => some k = v.ownBlock) v l1 _ w w1 hb1 (Kd.R_lower (Kd.R_tight rfl hR) (by omega)) hP).mono ?_
      rintro e w' ⟨v0, rfl, hR', hB', _⟩
      exact ⟨v0, rfl, by simpa using Kd.R_mono (ok' := fun _ => True) hR' (fun _ _ => trivial), hB'⟩)
    clear hr0 hr1 hb0 h hall hp hl
    generalize (l1.filter fun x => ((impl_reach.f k l0 x).map fun rs => rs.all fun n => l1.contains n).getD false) = q at HD ⊢
    go_enter Try.func90, Try.ntmps90
    go_wp2_with (first | (go_at_call 81; refine HC.out.mono ?_; rintro e w1 ⟨v, rfl, hR, hb⟩; have HR := Aside0.mk hR; have HB := Aside0.mk hb; clear hR hb) | (go_at_call 80; refine (HD.out _ _ (by simpa using HR.out) (by simpa using HB.out)).mono ?_; rintro e w' ⟨v0, rfl, hR, hb⟩))
    exact bodyPost_ret (v := v0) (by simp [results, go_sem]) rfl ⟨v0, rfl, hR, hb⟩
  · rw [if_neg hl] at h
    cases h

/-! ### impl_nextDone: function 56 -/
def impl_nextDone.f (k : Nat) (l0 : List (List Int)) (l1 : List Int) (l2 : List Int) : Option (List Int) := (impl_groups.f k l0).bind fun t274 => ((slices_Concat_int_int.f k t274).bind fun t277 => ((impl_ready.f k l0 l1).bind fun t280 => ((impl_both.f t277 t280).bind fun t283 => ((impl_without.f t283 l2).bind fun t286 => (some t286)))))
theorem impl_nextDone.mono : ∀ a0 a1 a2 k, LeO (impl_nextDone.f k a0 a1 a2) (impl_nextDone.f (k + 1) a0 a1 a2) := by
  intro a0 a1 a2 k
  unfold impl_nextDone.f
  repeat' first
      | (with_reducible exact impl_groups.mono _ _)
      | (with_reducible exact impl_ready.mono _ _ _)
      | (with_reducible exact slices_Concat_int_int.mono _ _)
      | (with_reducible exact LeO.refl _)
      | (with_reducible exact LeO.none _)
      | (with_reducible refine LeO.ite ?_ ?_)
      | (with_reducible refine LeO.bind ?_ (fun _ => ?_))
      | exact impl_groups.mono _ _
      | exact impl_ready.mono _ _ _
      | exact slices_Concat_int_int.mono _ _
      | exact LeO.none _
      | refine LeO.ite ?_ ?_
      | refine LeO.bind ?_ (fun _ => ?_)
set_option maxHeartbeats 8000000 in
set_option maxRecDepth 100000 in
theorem impl_nextDone.calls (k : Nat) (A0 : Option Addr) (c0 : Nat) (l0 : List (List Int)) (A1 : Option Addr) (c1 : Nat) (l1 : List Int) (A2 : Option Addr) (c2 : Nat) (l2 : List Int) (r : List Int) (w : World) (hr0 : Kd.C (Kd.slice 3 (Kd.int .i64)) w A0 l0.length l0) (hc0 : l0.length ≤ c0) (hr1 : Kd.C (Kd.int .i64) w A1 l1.length l1) (hc1 : l1.length ≤ c1) (hr2 : Kd.C (Kd.int .i64) w A2 l2.length l2) (hc2 : l2.length ≤ c2) (h : impl_nextDone.f k l0 l1 l2 = some r) :
    Calls Try.prog 56 #[.slice A0 l0.length c0, .slice A1 l1.length c1, .slice A2 l2.length c2] w fun e w' => ∃ v0_ : Value, e = .returned (v0_) ∧ Kd.R (Kd.int .i64) 3 w' w.heap.size (fun _ => True) v0_ r ∧ Below w.heap.size w w' := by
  have HR0 := Aside0.mk hr0
  have HC0 := Aside0.mk hc0
  clear hr0 hc0
  have HR1 := Aside0.mk hr1
  have HC1 := Aside0.mk hc1
  clear hr1 hc1
  have HR2 := Aside0.mk hr2
  have HC2 := Aside0.mk hc2
  clear hr2 hc2
  have HB := Aside0.mk (Below.refl w.heap.size w)
  have H : ((impl_groups.f k l0).bind fun t274 => ((slices_Concat_int_int.f k t274).bind fun t277 => ((impl_ready.f k l0 l1).bind fun t280 => ((impl_both.f t277 t280).bind fun t283 => ((impl_without.f t283 l2).bind fun t286 => (some t286)))))) = some r := h
  clear h
  replace H := Option.bind_eq_some_iff.mp H
  obtain ⟨t274, A40, H⟩ := H
  replace H : ((slices_Concat_int_int.f k t274).bind fun t277 => ((impl_ready.f k l0 l1).bind fun t280 => ((impl_both.f t277 t280).bind fun t283 => ((impl_without.f t283 l2).bind fun t286 => (some t286))))) = some r := H
  have A4 := Aside0.mk A40
  clear A40
  replace H := Option.bind_eq_some_iff.mp H
  obtain ⟨t277, A50, H⟩ := H
  replace H : ((impl_ready.f k l0 l1).bind fun t280 => ((impl_both.f t277 t280).bind fun t283 => ((impl_without.f t283 l2).bind fun t286 => (some t286)))) = some r := H
  have A5 := Aside0.mk A50
  clear A50
  replace H := Option.bind_eq_some_iff.mp H
  obtain ⟨t280, A60, H⟩ := H
  replace H : ((impl_both.f t277 t280).bind fun t283 => ((impl_without.f t283 l2).bind fun t286 => (some t286))) = some r := H
  have A6 := Aside0.mk A60
  clear A60
  replace H := Option.bind_eq_some_iff.mp H
  obtain ⟨t283, A70, H⟩ := H
  replace H : ((impl_without.f t283 l2).bind fun t286 => (some t286)) = some r := H
  have A7 := Aside0.mk A70
  clear A70
  replace H := Option.bind_eq_some_iff.mp H
  obtain ⟨t286, A80, H⟩ := H
  replace H : (some t286) = some r := H
  have A8 := Aside0.mk A80
  clear A80
  obtain rfl := Option.some.inj H
  go_enter Try.func56, Try.ntmps56
  go_wp2_with (first | ((with_reducible refine gate_callee (f := 42) rfl ?_); refine goesL_ (some 8) rfl rfl Try.func42 (by kernel_rfl) rfl #[.slice A0 l0.length c0] rfl (by (try simp only [List.map_toArray, List.map_cons, List.map_nil]); first | done | rfl | (simp only [List.length_drop, List.length_take]; rfl)) ?_; (with_reducible refine (impl_groups.calls k _ _ l0 t274 _ ?side1 ?side2 A4.out).mono ?_); (case side1 => repeat (first | exact HR0.out | (with_reducible refine Kd.C_alloc ?_ _) | (with_reducible refine Kd.C_drewN ?_ _) | (with_reducible refine Kd.C_drew ?_))); (case side2 => exact HC0.out); rintro e w9 ⟨v275, rfl, ho0, hb⟩; refine ⟨_, rfl, ?_⟩; have n0_ := Aside0.mk (Kd.S_lower ho0 (below_size (by repeat (first | (with_reducible first | exact HB.out | apply below_alloc | apply pw_below_drewN | apply below_drew1) | exact HB.out)))); have n1_ := Aside0.mk (below_step (by repeat (first | (with_reducible first | exact HB.out | apply below_alloc | apply pw_below_drewN | apply below_drew1) | exact HB.out)) hb); clear HB; have HO276 := n0_; have HB := n1_; clear n0_ n1_; (try clear hb); (try clear hb2); (try clear hk); (try clear hi); (try clear ho0); obtain ⟨Ao10, co10, eo10⟩ := Kd.S_slice HO276.out; subst eo10) | ((with_reducible refine gate_callee (f := 41) rfl ?_); refine goesL_ (some 9) rfl rfl Try.func41 (by kernel_rfl) rfl #[.slice Ao10 t274.length co10] rfl (by (try simp only [List.map_toArray, List.map_cons, List.map_nil]); first | done | rfl | (simp only [List.length_drop, List.length_take]; rfl)) ?_; (with_reducible refine (slices_Concat_int_int.calls k _ _ t274 t277 _ ?side1 ?side2 A5.out).mono ?_); (case side1 => repeat (first | exact (Kd.S_reads' HO276.out).2.2 | (with_reducible refine Kd.C_alloc ?_ _) | (with_reducible refine Kd.C_drewN ?_ _) | (with_reducible refine Kd.C_drew ?_))); (case side2 => exact (Kd.S_reads' HO276.out).2.1); rintro e w11 ⟨v278, rfl, ho0, hb⟩; refine ⟨_, rfl, ?_⟩; have n0_ := Aside0.mk (Kd.S_elder' (by (with_reducible repeat (first | apply Kd.S_alloc | apply Kd.S_drewN | apply Kd.S_drew)); exact HO276.out) (Kd.R_base ho0) hb); have n1_ := Aside0.mk (Kd.R_lower ho0 (below_size (by repeat (first | (with_reducible first | exact HB.out | apply below_alloc | apply pw_below_drewN | apply below_drew1) | exact HB.out)))); have n2_ := Aside0.mk (below_step (by repeat (first | (with_reducible first | exact HB.out | apply below_alloc | apply pw_below_drewN | apply below_drew1) | exact HB.out)) hb); clear HO276; clear HB; have HO276 := n0_; have HO279 := n1_; have HB := n2_; clear n0_ n1_ n2_; (try clear hb); (try clear hb2); (try clear hk); (try clear hi); (try clear ho0)) | ((with_reducible refine gate_callee (f := 90) rfl ?_); refine goesL_ (some 12) rfl rfl Try.func90 (by kernel_rfl) rfl #[.slice A0 l0.length c0, .slice A1 l1.length c1] rfl (by (try simp only [List.map_toArray, List.map_cons, List.map_nil]); first | done | rfl | (simp only [List.length_drop, List.length_take]; rfl)) ?_; (with_reducible refine (impl_ready.calls k _ _ l0 _ _ l1 t280 _ ?side1 ?side2 ?side3 ?side4 A6.out).mono ?_); (case side1 => repeat (first | exact (Kd.C_below HR0.out HB.out) | (with_reducible refine Kd.C_alloc ?_ _) | (with_reducible refine Kd.C_drewN ?_ _) | (with_reducible refine Kd.C_drew ?_))); (case side2 => exact HC0.out); (case side3 => repeat (first | exact (Kd.C_below HR1.out HB.out) | (with_reducible refine Kd.C_alloc ?_ _) | (with_reducible refine Kd.C_drewN ?_ _) | (with_reducible refine Kd.C_drew ?_))); (case side4 => exact HC1.out); rintro e w12 ⟨v281, rfl, ho0, hb⟩; refine ⟨_, rfl, ?_⟩; have n0_ := Aside0.mk (Kd.S_elder' (by (with_reducible repeat (first | apply Kd.S_alloc | apply Kd.S_drewN | apply Kd.S_drew)); exact HO276.out) (Kd.R_base ho0) hb); have n1_ := Aside0.mk (Kd.R_elder' (by (with_reducible repeat (first | apply Kd.R_alloc | apply Kd.R_drewN | apply Kd.R_drew)); exact HO279.out) (Kd.R_base ho0) hb); have n2_ := Aside0.mk (Kd.R_lower (Kd.R_new' ho0 (Kd.R_lt (by (with_reducible repeat (first | apply Kd.R_alloc | apply Kd.R_drewN | apply Kd.R_drew)); exact HO279.out))) (below_size (by repeat (first | (with_reducible first | exact HB.out | apply below_alloc | apply pw_below_drewN | apply below_drew1) | exact HB.out)))); have n3_ := Aside0.mk (below_step (by repeat (first | (with_reducible first | exact HB.out | apply below_alloc | apply pw_below_drewN | apply below_drew1) | exact HB.out)) hb); clear HO276; clear HO279; clear HB; have HO276 := n0_; have HO279 := n1_; have HO282 := n2_; have HB := n3_; clear n0_ n1_ n2_ n3_; (try clear hb); (try clear hb2); (try clear hk); (try clear hi); (try clear ho0); obtain ⟨Ao13, co13, eo13⟩ := Kd.R_slice HO279.out; subst eo13; obtain ⟨Ao14, co14, eo14⟩ := Kd.R_slice HO282.out; subst eo14) | ((with_reducible refine gate_callee (f := 48) rfl ?_); refine goesL_ (some 13) rfl rfl Try.func48 (by kernel_rfl) rfl #[.slice Ao13 t277.length co13, .slice Ao14 t280.length co14] rfl (by (try simp only [List.map_toArray, List.map_cons, List.map_nil]); first | done | rfl | (simp only [List.length_drop, List.length_take]; rfl)) ?_; (with_reducible refine (impl_both.calls _ _ t277 _ _ t280 t283 _ ?side1 ?side2 ?side3 ?side4 A7.out).mono ?_); (case side1 => repeat (first | exact (Kd.R_reads' HO279.out).2.2 | (with_reducible refine Kd.C_alloc ?_ _) | (with_reducible refine Kd.C_drewN ?_ _) | (with_reducible refine Kd.C_drew ?_))); (case side2 => exact (Kd.R_reads' HO279.out).2.1); (case side3 => repeat (first | exact (Kd.R_reads' HO282.out).2.2 | (with_reducible refine Kd.C_alloc ?_ _) | (with_reducible refine Kd.C_drewN ?_ _) | (with_reducible refine Kd.C_drew ?_))); (case side4 => exact (Kd.R_reads' HO282.out).2.1); rintro e w15 ⟨v284, rfl, ho0, hb⟩; refine ⟨_, rfl, ?_⟩; have n0_ := Aside0.mk (Kd.S_elder' (by (with_reducible repeat (first | apply Kd.S_alloc | apply Kd.S_drewN | apply Kd.S_drew)); exact HO276.out) (Kd.R_base ho0) hb); have n1_ := Aside0.mk (Kd.R_elder' (by (with_reducible repeat (first | apply Kd.R_alloc | apply Kd.R_drewN | apply Kd.R_drew)); exact HO279.out) (Kd.R_base ho0) hb); have n2_ := Aside0.mk (Kd.R_elder' (by (with_reducible repeat (first | apply Kd.R_alloc | apply Kd.R_drewN | apply Kd.R_drew)); exact HO282.out) (Kd.R_base ho0) hb); have n3_ := Aside0.mk (Kd.R_lower (Kd.R_new' (Kd.R_new' ho0 (Kd.R_lt (by (with_reducible repeat (first | apply Kd.R_alloc | apply Kd.R_drewN | apply Kd.R_drew)); exact HO279.out))) (Kd.R_lt (by (with_reducible repeat (first | apply Kd.R_alloc | apply Kd.R_drewN | apply Kd.R_drew)); exact HO282.out))) (below_size (by repeat (first | (with_reducible first | exact HB.out | apply below_alloc | apply pw_below_drewN | apply below_drew1) | exact HB.out)))); have n4_ := Aside0.mk (below_step (by repeat (first | (with_reducible first | exact HB.out | apply below_alloc | apply pw_below_drewN | apply below_drew1) | exact HB.out)) hb); clear HO276; clear HO279; clear HO282; clear HB; have HO276 := n0_; have HO279 := n1_; have HO282 := n2_; have HO285 := n3_; have HB := n4_; clear n0_ n1_ n2_ n3_ n4_; (try clear hb); (try clear hb2); (try clear hk); (try clear hi); (try clear ho0); obtain ⟨Ao16, co16, eo16⟩ := Kd.R_slice HO285.out; subst eo16) | ((with_reducible refine gate_callee (f := 89) rfl ?_); refine goesL_ (some 15) rfl rfl Try.func89 (by kernel_rfl) rfl #[.slice Ao16 t283.length co16, .slice A2 l2.length c2] rfl (by (try simp only [List.map_toArray, List.map_cons, List.map_nil]); first | done | rfl | (simp only [List.length_drop, List.length_take]; rfl)) ?_; (with_reducible refine (impl_without.calls _ _ t283 _ _ l2 t286 _ ?side1 ?side2 ?side3 ?side4 A8.out).mono ?_); (case side1 => repeat (first | exact (Kd.R_reads' HO285.out).2.2 | (with_reducible refine Kd.C_alloc ?_ _) | (with_reducible refine Kd.C_drewN ?_ _) | (with_reducible refine Kd.C_drew ?_))); (case side2 => exact (Kd.R_reads' HO285.out).2.1); (case side3 => repeat (first | exact (Kd.C_below HR2.out HB.out) | (with_reducible refine Kd.C_alloc ?_ _) | (with_reducible refine Kd.C_drewN ?_ _) | (with_reducible refine Kd.C_drew ?_))); (case side4 => exact HC2.out); rintro e w17 ⟨v287, rfl, ho0, hb⟩; refine ⟨_, rfl, ?_⟩; have n0_ := Aside0.mk (Kd.S_elder' (by (with_reducible repeat (first | apply Kd.S_alloc | apply Kd.S_drewN | apply Kd.S_drew)); exact HO276.out) (Kd.R_base ho0) hb); have n1_ := Aside0.mk (Kd.R_elder' (by (with_reducible repeat (first | apply Kd.R_alloc | apply Kd.R_drewN | apply Kd.R_drew)); exact HO279.out) (Kd.R_base ho0) hb); have n2_ := Aside0.mk (Kd.R_elder' (by (with_reducible repeat (first | apply Kd.R_alloc | apply Kd.R_drewN | apply Kd.R_drew)); exact HO282.out) (Kd.R_base ho0) hb); have n3_ := Aside0.mk (Kd.R_elder' (by (with_reducible repeat (first | apply Kd.R_alloc | apply Kd.R_drewN | apply Kd.R_drew)); exact HO285.out) (Kd.R_base ho0) hb); have n4_ := Aside0.mk (Kd.R_lower (Kd.R_new' (Kd.R_new' (Kd.R_new' ho0 (Kd.R_lt (by (with_reducible repeat (first | apply Kd.R_alloc | apply Kd.R_drewN | apply Kd.R_drew)); exact HO279.out))) (Kd.R_lt (by (with_reducible repeat (first | apply Kd.R_alloc | apply Kd.R_drewN | apply Kd.R_drew)); exact HO282.out))) (Kd.R_lt (by (with_reducible repeat (first | apply Kd.R_alloc | apply Kd.R_drewN | apply Kd.R_drew)); exact HO285.out))) (below_size (by repeat (first | (with_reducible first | exact HB.out | apply below_alloc | apply pw_below_drewN | apply below_drew1) | exact HB.out)))); have n5_ := Aside0.mk (below_step (by repeat (first | (with_reducible first | exact HB.out | apply below_alloc | apply pw_below_drewN | apply below_drew1) | exact HB.out)) hb); clear HO276; clear HO279; clear HO282; clear HO285; clear HB; have HO276 := n0_; have HO279 := n1_; have HO282 := n2_; have HO285 := n3_; have HO288 := n4_; have HB := n5_; clear n0_ n1_ n2_ n3_ n4_ n5_; (try clear hb); (try clear hb2); (try clear hk); (try clear hi); (try clear ho0)))
  go_ret
  exact ⟨_, by first | rfl | (simp [errW_none, errW_some] <;> rfl) | (simp [*, errW_none, errW_some] <;> rfl), by (with_reducible repeat (first | apply Kd.R_alloc | apply Kd.R_drewN | apply Kd.R_drew)); exact Kd.R_mono HO288.out (fun _ hk => trivial), by repeat (first | (with_reducible first | exact HB.out | apply below_alloc | apply pw_below_drewN | apply below_drew1) | exact HB.out)⟩

/-! ### slices_Compact_int_int: function 115, by hand -/
def slices_Compact_int_int.f (l0 : List Int) : Option (List Int) := some (Lib.compact l0)
theorem slices_Compact_int_int.calls (P0_ : Nat → Prop) (u9000_ : Value) (l0 : List Int) (r : List Int) (w0 w : World) (hB : Below w0.heap.size w0 w) (ho0 : Kd.R (Kd.int .i64) 3 w w0.heap.size P0_ u9000_ l0) (h : slices_Compact_int_int.f l0 = some r) :
    Calls Try.prog 115 #[u9000_] w fun e w' => ∃ v0_ : Value, e = .returned (v0_) ∧ Kd.R (Kd.int .i64) 3 w' w0.heap.size (fun k_ => (P0_ k_ ∨ w.heap.size ≤ k_)) v0_ r ∧ Below w0.heap.size w0 w' ∧ Kept w w' (fun k_ => P0_ k_) := by
  obtain rfl := Option.some.inj h
  have ho1 : Kd.R (Kd.int .i64) 3 w w0.heap.size (fun k_ => (P0_ k_ ∨ w.heap.size ≤ k_)) u9000_ l0 := Kd.R_mono ho0 (fun k_ hk => .inl hk)
  obtain ⟨A, c, rfl, hlc, hC⟩ := Kd.R_reads ho1
  rcases Nat.eq_zero_or_pos l0.length with h0 | h0
  · obtain rfl : l0 = [] := List.eq_nil_of_length_eq_zero h0
    refine (Try.slices_Compact_int_empty A c w).mono ?_
    rintro e w' ⟨rfl, rfl⟩
    exact ⟨_, rfl, ho1, hB, Kept.refl _ _⟩
  · obtain ⟨g, c', eo, hg, hlt, cells, hcells⟩ := Kd.R_form ho1 h0
    injection eo with eA _ ec
    subst eA ec
    refine (Try.slices_Compact_int g 0 c l0 w (h_holds ho1) hC.2.1 hlc).mono ?_
    rintro e w' ⟨rfl, q, rfl⟩
    have hcl : (Lib.compact l0).length ≤ l0.length := Lib.compact_length_le l0
    have h1 := h_put_all (ys := Lib.compact l0 ++ List.replicate (l0.length - (Lib.compact l0).length) 0) ho1 (by simp; omega) q #[]
    rw [Go.Sort.grow_empty] at h1
    obtain ⟨h1, h2, h3⟩ := h1
    have hT := Kd.R_take h1 (m := (Lib.compact l0).length) (by simp)
    rw [List.take_left'] at hT
    · exact ⟨_, rfl, hT, h2 w0 hB hg, h3 _ (ho0.1 g rfl)⟩
    · rfl

/-! ### impl_together: function 91, by hand -/
def impl_together.f (k : Nat) (l0 : List Int) (l1 : List Int) : Option (List Int) := (slices_Concat_int_int.f k [l0, l1]).bind fun t => (slices_Sort_int_int.f t).bind fun t2 => (slices_Compact_int_int.f t2).bind fun t3 => some t3
theorem impl_together.mono : ∀ a0 a1 k, LeO (impl_together.f k a0 a1) (impl_together.f (k + 1) a0 a1) := by
  intro a0 a1 k
  unfold impl_together.f
  repeat' first
      | (with_reducible exact slices_Concat_int_int.mono _ _)
      | (with_reducible exact LeO.refl _)
      | (with_reducible exact LeO.none _)
      | (with_reducible refine LeO.ite ?_ ?_)
      | (with_reducible refine LeO.bind ?_ (fun _ => ?_))
      | exact slices_Concat_int_int.mono _ _
      | exact LeO.none _
      | refine LeO.ite ?_ ?_
      | refine LeO.bind ?_ (fun _ => ?_)
set_option maxHeartbeats 8000000 in
set_option maxRecDepth 100000 in
theorem impl_together.calls (k : Nat) (A0 : Option Addr) (c0 : Nat) (l0 : List Int) (A1 : Option Addr) (c1 : Nat) (l1 : List Int) (r : List Int) (w : World) (hr0 : Kd.C (Kd.int .i64) w A0 l0.length l0) (hc0 : l0.length ≤ c0) (hr1 : Kd.C (Kd.int .i64) w A1 l1.length l1) (hc1 : l1.length ≤ c1) (h : impl_together.f k l0 l1 = some r) :
    Calls Try.prog 91 #[.slice A0 l0.length c0, .slice A1 l1.length c1] w fun e w' => ∃ v0_ : Value, e = .returned (v0_) ∧ Kd.R (Kd.int .i64) 3 w' w.heap.size (fun _ => True) v0_ r ∧ Below w.heap.size w w' := by
  unfold impl_together.f at h
  obtain ⟨t, h1, h⟩ := Option.bind_eq_some_iff.1 h
  obtain ⟨t2, h2, h⟩ := Option.bind_eq_some_iff.1 h
  obtain ⟨t3, h3, h⟩ := Option.bind_eq_some_iff.1 h
  obtain rfl := Option.some.inj h
  have hb0 : Below w.heap.size w (w.alloc (.cells #[.slice A0 l0.length c0, .slice A1 l1.length c1] 24)) := below_alloc (Below.refl _ _) _
  have hC : Kd.C (Kd.slice 3 (Kd.int .i64)) (w.alloc (.cells #[.slice A0 l0.length c0, .slice A1 l1.length c1] 24)) (some ⟨w.heap.size, 0, none⟩) ([l0, l1] : List (List Int)).length [l0, l1] := by
    refine ⟨rfl, by simp, fun _ => ⟨_, rfl, fun j p hp => ?_⟩⟩
    match j, hp with
    | 0, hp =>
      obtain rfl : l0 = p := by simpa using hp
      refine ⟨[.slice A0 l0.length c0], rfl, ⟨A0, c0, rfl, hc0, Kd.C_below hr0 hb0⟩, fun i u hu => ?_⟩
      match i, hu with
      | 0, hu =>
        obtain rfl : Value.slice A0 l0.length c0 = u := by simpa using hu
        simp [Addr.add]
      | i + 1, hu => simp at hu
    | 1, hp =>
      obtain rfl : l1 = p := by simpa using hp
      refine ⟨[.slice A1 l1.length c1], rfl, ⟨A1, c1, rfl, hc1, Kd.C_below hr1 hb0⟩, fun i u hu => ?_⟩
      match i, hu with
      | 0, hu =>
        obtain rfl : Value.slice A1 l1.length c1 = u := by simpa using hu
        simp [Addr.add, show (Kd.slice 3 (Kd.int .i64)).sz = 1 from rfl]
      | i + 1, hu => simp at hu
    | j + 2, hp => simp at hp
  have HC := Lib.hid (slices_Concat_int_int.calls k (some ⟨w.heap.size, 0, none⟩) 2 [l0, l1] t _ hC (Nat.le_refl _) h1)
  have HB0 := Aside0.mk hb0
  have H2 := Aside0.mk h2
  have H3 := Aside0.mk h3
  clear hr0 hr1 hC hb0 h1 h2 h3 h
  go_enter Try.func91, Try.ntmps91
  go_wp2_with (first | (go_at_call 41; refine HC.out.mono ?_; rintro e w1 ⟨v, rfl, hR, hb⟩; have HB1 := Aside0.mk (below_step HB0.out hb); obtain ⟨Ao, co, rfl⟩ := Kd.R_slice hR; have HR1 := Aside0.mk (Kd.R_lower hR (by simp : w.heap.size ≤ _)); clear hR hb) | (go_at_call 109; refine (slices_Sort_int_int.calls (fun k_ => some k_ = (.slice Ao t.length co : Value).ownBlock) (.slice Ao t.length co) t t2 w _ HB1.out (Kd.R_tight rfl HR1.out) H2.out).mono ?_; rintro e w2 ⟨rfl, hR, hb, hk⟩; have HR2 := Aside0.mk hR; have HB2 := Aside0.mk hb; clear hR hb hk) | (go_at_call 115; refine (slices_Compact_int_int.calls _ (.slice Ao t.length co) t2 t3 w _ HB2.out HR2.out H3.out).mono ?_; rintro e w3 ⟨v3, rfl, hR, hb, hk⟩))
  exact bodyPost_ret (v := v3) (by simp [results, go_sem]) rfl ⟨v3, rfl, Kd.R_mono hR (fun _ _ => trivial), hb⟩

end Go.Proofs.Yteokbemieooeaaa.PFnExactDoneBy
