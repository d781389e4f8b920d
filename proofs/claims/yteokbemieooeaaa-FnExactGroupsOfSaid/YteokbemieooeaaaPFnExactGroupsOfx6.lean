-- Written for this claim by the session's own program (drive.py), over the kit's print, with contracts typed by hand.
import Derived.Test.YteokbemieooeaaaPFnExactGroupsOfx0
import Derived.Test.YteokbemieooeaaaPFnExactGroupsOfx2
import Derived.Test.YteokbemieooeaaaPFnExactGroupsOfx3
import Derived.Test.YteokbemieooeaaaPFnExactGroupsOfx4
import Derived.Test.YteokbemieooeaaaPFnExactGroupsOfx5
namespace Go.Proofs.Yteokbemieooeaaa.PFnExactGroupsOf
open Go.RowKit Go.Proofs.YteokbemieooeaaaW.PrintWords Go.Proofs.YteokbemieooeaaaW.PrintLast Go.Proofs.YteokbemieooeaaaW.PrintMore
attribute [local go_sem] max2_int min2_int max_two min_two max_three min_three max_four min_four   -- for this text's walks alone
set_option linter.unusedVariables false
set_option linter.unusedSimpArgs false

/-! ### impl_groups: function 42, by hand -/
theorem h_R_empty {α : Type} (d : Kd α) {e base g : Nat} {ok : Nat → Prop} {w : World} (hh : w.heap[g]? = some (.cells #[] e (0, 0))) (hb : base ≤ g) (hok : ok g) : d.R e w base ok (.slice (some ⟨g, 0, none⟩) 0 0) [] :=
  ⟨fun k hk => by
    have : g = k := by simpa [Value.ownBlock] using hk
    subst this
    exact hok, [], ⟨by simp, .inr ⟨g, 0, #[], rfl, hb, hh, Nat.le_refl _, Nat.zero_le _, by simp, by simp⟩⟩, Reps.none _ _⟩
theorem h_S_empty {α : Type} (d : Kd α) {e base g : Nat} {ok : Nat → Prop} {w : World} (hh : w.heap[g]? = some (.cells #[] e (0, 0))) (hb : base ≤ g) (hok : ok g) : Kd.S d e w base ok (.slice (some ⟨g, 0, none⟩) 0 0) [] :=
  ⟨fun _ => 0, h_R_empty (Kd.tag (fun _ => 0) d) hh hb hok⟩
theorem h_gap_erase {α : Type} {d : Kd α} {e base i : Nat} {f : Nat → Nat} {c : List Value} {ok : Nat → Prop} {w : World} {v : Value} {xs : List α} (h : (Kd.gap f d i c).R e w base ok v (xs.zipIdx.eraseIdx i)) : Kd.S d e w base ok v (xs.eraseIdx i) := by
  refine Kd.S_erase (f := f) (k := i) ?_
  obtain ⟨h0, inner, ho, hr⟩ := h
  refine ⟨h0, inner, ho, hr.1, fun j p hj => ?_⟩
  have hp : p.2 ≠ i := by
    rw [List.getElem?_eraseIdx] at hj
    by_cases hji : j < i
    · rw [if_pos hji, List.getElem?_zipIdx, Nat.zero_add] at hj
      obtain ⟨q, _, rfl⟩ := Option.map_eq_some_iff.1 hj
      show j ≠ i
      omega
    · rw [if_neg hji, List.getElem?_zipIdx, Nat.zero_add] at hj
      obtain ⟨q, _, rfl⟩ := Option.map_eq_some_iff.1 hj
      show j + 1 ≠ i
      omega
  exact (hr.2 j p hj).2 hp
/-- There is room for one more group. -/
def h_fits (told row : List Int) : Bool := decide (told.length + row.length ≤ 1000000)
def impl_groups.left (k : Nat) (l : List (List Int)) : Nat → Nat → List (List Int) → Option (List (List Int))
  | 0, _, left => some left
  | d + 1, i, left => (impl_group.f k l (i : Int)).bind fun own => if 0 < own.length then (if own.getD 0 0 = (i : Int) then impl_groups.left k l d (i + 1) (left ++ [own]) else impl_groups.left k l d (i + 1) left) else none
def impl_groups.ok (k : Nat) (l : List (List Int)) (told own : List Int) : Option Bool := (slices_Concat_int_int.f k [told, own]).bind fun cc => if 0 < own.length then (impl_reach.f k l (own.getD 0 0)).map fun rs => rs.all fun n => cc.contains n else none
def impl_groups.pick (k : Nat) (l : List (List Int)) : Nat → List (List Int) → List (List Int) → List Int → Option (List (List Int))
  | 0, _, out, _ => some out
  | d + 1, left, out, told => if (∀ x ∈ left, (impl_groups.ok k l told x).isSome = true) then ((left.findIdx? fun x => (impl_groups.ok k l told x).getD false).bind fun i => if h_fits told (left.getD i []) = true then impl_groups.pick k l d (left.eraseIdx i) (out ++ [left.getD i []]) (told ++ left.getD i []) else none) else none
def impl_groups.f (k : Nat) (l0 : List (List Int)) : Option (List (List Int)) := if l0.length ≤ 12 then (impl_groups.left k l0 l0.length 0 []).bind fun left => impl_groups.pick k l0 left.length left [] [] else none
theorem impl_groups.left_mono (k : Nat) (l : List (List Int)) : ∀ d i left, LeO (impl_groups.left k l d i left) (impl_groups.left (k + 1) l d i left)
  | 0, i, left => by
    unfold impl_groups.left
    exact LeO.refl _
  | d + 1, i, left => by
    have ih := impl_groups.left_mono k l d (i + 1)
    unfold impl_groups.left
    refine LeO.bind (impl_group.mono _ _ k) fun own => ?_
    refine LeO.ite ?_ (LeO.none _)
    exact LeO.ite (ih _) (ih _)
theorem impl_groups.ok_mono (k : Nat) (l : List (List Int)) (told own : List Int) : LeO (impl_groups.ok k l told own) (impl_groups.ok (k + 1) l told own) :=
  LeO.bind (slices_Concat_int_int.mono _ k) fun _ => LeO.ite (LeO.map _ (impl_reach.mono _ _ k)) (LeO.none _)
theorem h_find_same {α : Type} {p q : α → Bool} : ∀ xs : List α, (∀ x ∈ xs, p x = q x) → xs.findIdx? p = xs.findIdx? q
  | [], _ => rfl
  | x :: xs, h => by
    rw [List.findIdx?_cons, List.findIdx?_cons, h x (by simp), h_find_same xs fun y hy => h y (List.mem_cons_of_mem _ hy)]
theorem impl_groups.pick_mono0 (k : Nat) (l : List (List Int)) (d : Nat) (ih : ∀ left out told, LeO (impl_groups.pick k l d left out told) (impl_groups.pick (k + 1) l d left out told)) (left out : List (List Int)) (told : List Int) : LeO (impl_groups.pick k l (d + 1) left out told) (impl_groups.pick (k + 1) l (d + 1) left out told) := by
  rw [impl_groups.pick, impl_groups.pick]
  by_cases ha : ∀ x ∈ left, (impl_groups.ok k l told x).isSome = true
  · have h1 : ∀ x ∈ left, (impl_groups.ok (k + 1) l told x).isSome = true ∧ (impl_groups.ok (k + 1) l told x).getD false = (impl_groups.ok k l told x).getD false := fun x hx => by
      obtain ⟨b, hb⟩ := Option.isSome_iff_exists.1 (ha x hx)
      rw [impl_groups.ok_mono k l told x b hb, hb]
      exact ⟨rfl, rfl⟩
    rw [if_pos ha, if_pos fun x hx => (h1 x hx).1, h_find_same left fun x hx => (h1 x hx).2]
    refine LeO.bind (LeO.refl _) fun i => ?_
    refine LeO.ite ?_ (LeO.none _)
    exact ih _ _ _
  · rw [if_neg ha]
    exact LeO.none _
theorem impl_groups.pick_mono (k : Nat) (l : List (List Int)) (d : Nat) : ∀ left out told, LeO (impl_groups.pick k l d left out told) (impl_groups.pick (k + 1) l d left out told) := by
  induction d with
  | zero =>
    intro left out told
    rw [impl_groups.pick, impl_groups.pick]
    exact LeO.refl _
  | succ d ih => exact impl_groups.pick_mono0 k l d ih
theorem impl_groups.mono : ∀ a0 k, LeO (impl_groups.f k a0) (impl_groups.f (k + 1) a0) := fun a0 k r hr => by
  unfold impl_groups.f at hr ⊢
  by_cases h : a0.length ≤ 12
  · rw [if_pos h] at hr ⊢
    obtain ⟨left, h1, h2⟩ := Option.bind_eq_some_iff.1 hr
    rw [impl_groups.left_mono k a0 _ _ _ left h1, Option.bind_some]
    exact impl_groups.pick_mono k a0 _ _ _ _ r h2
  · rw [if_neg h] at hr
    cases hr
/-- What is kept while the nodes are gone through. -/
def h_GL (w0 w : World) (c : Value) (left : List (List Int)) (v : Value) : Prop :=
  Kd.S (Kd.slice 3 (Kd.int .i64)) 24 w w0.heap.size (fun k => k ≠ w0.heap.size) v left ∧ w.heap[w0.heap.size]? = some (.cells #[c] 22 (0, 0)) ∧ Below w0.heap.size w0 w
/-- What is kept while groups are told: no two rows share a block. -/
def h_GP (w0 w : World) (Bl Bt : Nat) (c : Value) (left out : List (List Int)) (told : List Int) (vl vo vt : Value) : Prop :=
  ∃ L O T : Nat → Prop, (∀ k, L k → ¬ O k ∧ ¬ T k ∧ k ≠ Bl ∧ k ≠ Bt) ∧ (∀ k, O k → ¬ T k ∧ k ≠ Bl ∧ k ≠ Bt) ∧ (∀ k, T k → k ≠ Bl ∧ k ≠ Bt) ∧ Bl ≠ Bt ∧ w0.heap.size ≤ Bt ∧
    Kd.S (Kd.slice 3 (Kd.int .i64)) 24 w w0.heap.size L vl left ∧ Kd.S (Kd.slice 3 (Kd.int .i64)) 24 w w0.heap.size O vo out ∧ Kd.R (Kd.int .i64) 3 w w0.heap.size T vt told ∧
    w.heap[Bl]? = some (.cells #[c] 22 (0, 0)) ∧ w.heap[Bt]? = some (.cells #[vt] 24 (0, 0)) ∧ Below w0.heap.size w0 w
theorem h_GP_below {w0 w w1 : World} {Bl Bt : Nat} {c : Value} {left out : List (List Int)} {told : List Int} {vl vo vt : Value} (h : h_GP w0 w Bl Bt c left out told vl vo vt) (hb : Below w.heap.size w w1) : h_GP w0 w1 Bl Bt c left out told vl vo vt := by
  obtain ⟨L, O, T, h1, h2, h3, h4, h5, h6, h7, h8, h9, h10, h11⟩ := h
  exact ⟨L, O, T, h1, h2, h3, h4, h5, Kd.S_below h6 hb, Kd.S_below h7 hb, Kd.R_below h8 hb, blk_below h9 hb, blk_below h10 hb, below_step h11 hb⟩
set_option maxHeartbeats 16000000 in
set_option maxRecDepth 100000 in
theorem h_groups (k : Nat) (A0 : Option Addr) (c0 : Nat) (l0 : List (List Int)) (r : List (List Int)) (w : World) (hr0 : Kd.C (Kd.slice 3 (Kd.int .i64)) w A0 l0.length l0) (hc0 : l0.length ≤ c0) (h : impl_groups.f k l0 = some r) :
    Calls Try.prog 42 #[.slice A0 l0.length c0] w fun e w' => ∃ v0_ : Value, e = .returned v0_ ∧ Kd.S (Kd.slice 3 (Kd.int .i64)) 24 w' w.heap.size (fun _ => True) v0_ r ∧ Below w.heap.size w w' := by
  unfold impl_groups.f at h
  by_cases h12 : l0.length ≤ 12
  rotate_left
  · rw [if_neg h12] at h
    cases h
  rw [if_pos h12] at h
  obtain ⟨left0, hL0, hP0⟩ := Option.bind_eq_some_iff.1 h
  clear h
  have HG := Lib.hid (show ∀ (i : Int) (rs : List Int) (W : World), Below w.heap.size w W → impl_group.f k l0 i = some rs → Calls Try.prog 74 #[.slice A0 l0.length c0, .int .i64 i] W _ from fun i rs W hb hi => impl_group.calls k A0 c0 l0 i rs W (Kd.C_below hr0 hb) hc0 hi)
  have HR0 := Aside0.mk hr0
  have HC0 := Aside0.mk hc0
  have HL0 := Aside0.mk hL0
  have HP0 := Aside0.mk hP0
  clear hr0 hc0 hL0 hP0
  go_enter Try.func42, Try.ntmps42
  go_wp2
  go_loopg [3, 4, 5, 12] l0.length (fun gg s3 s4 s5 s12 wr => ∃ (i : Nat) (left : List (List Int)) (v : Value), v = s3 ∧ s12 = .int .i64 i ∧ i ≤ l0.length ∧ l0.length - i ≤ gg ∧ left.length ≤ i ∧ Aside0 (impl_groups.left k l0 (l0.length - i) i left = some left0) ∧ Aside0 (h_GL w wr (.slice A0 l0.length c0) left v))
  case atStart => exact ⟨0, [], _, rfl, rfl, Nat.zero_le _, by omega, Nat.zero_le _, HL0, ⟨h_S_empty _ (g := w.heap.size + 1) (by simpa using heap_alloc_new (w.alloc (.cells #[.slice A0 l0.length c0] 22)) (.cells #[] 24)) (by omega) (by omega), blk_alloc (heap_alloc_new w _) _, below_alloc (below_alloc (Below.refl _ _) _) _⟩⟩
  case round =>
    clear HL0
    obtain ⟨i, left, v, rfl, rfl, hil, hgg, hll, HL, HGL⟩ := hrel
    obtain ⟨hS, hbl, hB⟩ := HGL.out
    have hcl : wr.cell? ⟨w.heap.size, 0, none⟩ = some (.slice A0 l0.length c0) := (blk_cell hbl 0).trans rfl
    by_cases hlt : i < l0.length
    · have hltz : (i : Int) < (l0.length : Int) := by omega
      obtain ⟨d, hd⟩ : ∃ d, l0.length - i = d + 1 := ⟨l0.length - i - 1, by omega⟩
      have hd2 : d = l0.length - (i + 1) := by omega
      have h := HL.out
      rw [hd, impl_groups.left] at h
      obtain ⟨own, hown, h⟩ := Option.bind_eq_some_iff.1 h
      by_cases hpos : 0 < own.length
      rotate_left
      · rw [if_neg hpos] at h
        cases h
      rw [if_pos hpos] at h
      have hposz : (0 : Int) < (own.length : Int) := by omega
      have HCALL := Lib.hid (HG.out (i : Int) own wr hB hown)
      have hlt2 := World.block_lt_of_cell? _ _ hcl
      have HSB := Aside0.mk (Kd.S_bound hS)
      have HBL := Aside0.mk hbl
      have HB := Aside0.mk hB
      clear hS hbl hB HGL HL hown
      have hrd : rdOf 0 own (0 : Int) = own.getD 0 0 := by simp [rdOf]
      generalize own.getD 0 0 = o0 at h hrd
      by_cases he : o0 = (i : Int)
      · rw [if_pos he, hd2] at h
        have H := Aside0.mk h
        have heq : (o0 == (i : Int)) = true := beq_iff_eq.2 he
        clear h he
        go_wp2_with (first | (go_at_call 74; refine HCALL.out.mono ?_; rintro e w2 ⟨v5, rfl, hR, hb⟩; obtain ⟨g5, c5, rfl, hg5, hl5, cells5, hcells5⟩ := Kd.R_form hR hpos; have hx5 := (Kd.R_celln 0 hR (0 : Int) (by omega) (by omega)).1; (rw [show (0 : Int).toNat = 0 from rfl, hrd] at hx5); have HR5 := Aside0.mk hR; have HB5 := Aside0.mk hb; have HG5 := Aside0.mk hg5; clear hR hb hg5 hl5 hcells5) | ((with_reducible refine gate_builtin (b := .append) (xs := #[.tmp 23, .tmp 25]) rfl ?_); at_builtin; refine Kd.S_append (Kd.slice 3 (Kd.int .i64)) (w0 := w) w.heap.size rfl (.tmp 23) (.tmp 25) 22 24 (.slice none 0 0) 24 rfl Try.underlying22 info24 rfl (by decide) (by omega) v left own [.slice (some ⟨g5, 0, none⟩) own.length c5] (fun k_ => k_ ≠ w.heap.size) (fun k_ => some k_ = (.slice (some ⟨g5, 0, none⟩) own.length c5 : Value).ownBlock) rfl rfl ?aP ?aK ?aF ?aO ?aB ?aS ?aL ?_; (case aP => exact Kd.M_row (Kd.R_tight rfl (Kd.R_lower HR5.out (by have := HB.out.size; omega)))); (case aK => (intro k_ hk; have e_ : k_ = g5 := (by simpa [Value.ownBlock] using hk); have h_ := HG5.out; refine ⟨by omega, fun e2_ => ?_⟩; have h2_ := ((Kd.S_R HSB.out).1 k_ e2_.symm).2.2.1; omega)); (case aF => (intro k_ hk; have := HB5.out.size; omega)); (case aO => exact Kd.S_mono (Kd.S_below HSB.out HB5.out) (fun k_ hk => ⟨hk.1, fun e_ => by have e2_ : k_ = g5 := (by simpa [Value.ownBlock] using e_); have := HG5.out; have := hk.2.2.1; omega⟩)); (case aB => exact below_step HB.out HB5.out); (case aS => (have := HB.out.size; have := HB5.out.size; omega)); (case aL => omega); intro v9 w9 hS9 hB9 hg9 hat9; have HS9 := Aside0.mk hS9; have HB9 := Aside0.mk hB9; have HBL9 := Aside0.mk (blk_grown (blk_below HBL.out HB5.out) hg9 (fun e_ => ((Kd.S_R HSB.out).1 _ e_.symm).1 rfl)); clear hS9 hB9 hg9 hat9))
        go_roundg (l0.length - (i + 1))
        case measure => omega
        case rel => exact ⟨i + 1, left ++ [own], v9, rfl, by go_num, by omega, by omega, by rw [List.length_append, List.length_singleton]; omega, H, ⟨HS9.out, HBL9.out, HB9.out⟩⟩
      · rw [if_neg he, hd2] at h
        have H := Aside0.mk h
        have heq : (o0 == (i : Int)) = false := beq_eq_false_iff_ne.2 he
        clear h he
        go_wp2_with (first | (go_at_call 74; refine HCALL.out.mono ?_; rintro e w2 ⟨v5, rfl, hR, hb⟩; obtain ⟨g5, c5, rfl, hg5, hl5, cells5, hcells5⟩ := Kd.R_form hR hpos; have hx5 := (Kd.R_celln 0 hR (0 : Int) (by omega) (by omega)).1; (rw [show (0 : Int).toNat = 0 from rfl, hrd] at hx5); have HB5 := Aside0.mk hb; clear hR hb hg5 hl5 hcells5))
        go_roundg (l0.length - (i + 1))
        case measure => omega
        case rel => exact ⟨i + 1, left, v, rfl, by go_num, by omega, by omega, by omega, H, ⟨Kd.S_mono (Kd.S_below HSB.out HB5.out) (fun k_ hk => hk.1), blk_below HBL.out HB5.out, below_step HB.out HB5.out⟩⟩
    · have hltz : ¬ (i : Int) < (l0.length : Int) := by omega
      obtain rfl : i = l0.length := by omega
      have h := HL.out
      rw [Nat.sub_self, impl_groups.left] at h
      obtain rfl := Option.some.inj h
      have hlt2 : w.heap.size < wr.heap.size := World.block_lt_of_cell? _ _ hcl
      have HSB := Aside0.mk (Kd.S_bound hS)
      have HBL := Aside0.mk hbl
      have HB := Aside0.mk hB
      have hsz := hB.size
      clear hS hbl hB HGL HL h
      have eg : ∀ args w, (callFunc 76 args).run Try.prog w = .ok (.enter 76 args) w := enters_ Try.func76 (by kernel_rfl) rfl
      have hGP : h_GP w (((wr.alloc (.cells #[] 24)).alloc (.cells #[] 3)).alloc (.cells #[.slice (some ⟨wr.heap.size + 1, 0, none⟩) 0 0] 24)) w.heap.size (wr.heap.size + 1 + 1) (.slice A0 l0.length c0) left [] [] v (.slice (some ⟨wr.heap.size, 0, none⟩) 0 0) (.slice (some ⟨wr.heap.size + 1, 0, none⟩) 0 0) := by
        have b1 : (((wr.alloc (.cells #[] 24)).alloc (.cells #[] 3)).alloc (.cells #[.slice (some ⟨wr.heap.size + 1, 0, none⟩) 0 0] 24)).heap[wr.heap.size]? = some (.cells #[] 24 (0, 0)) := blk_alloc (blk_alloc (heap_alloc_new wr _) _) _
        have b2 : (((wr.alloc (.cells #[] 24)).alloc (.cells #[] 3)).alloc (.cells #[.slice (some ⟨wr.heap.size + 1, 0, none⟩) 0 0] 24)).heap[wr.heap.size + 1]? = some (.cells #[] 3 (0, 0)) := by
          have h_ := blk_alloc (heap_alloc_new (wr.alloc (.cells #[] 24)) (.cells #[] 3)) (.cells #[.slice (some ⟨wr.heap.size + 1, 0, none⟩) 0 0] 24)
          simpa using h_
        have b3 : (((wr.alloc (.cells #[] 24)).alloc (.cells #[] 3)).alloc (.cells #[.slice (some ⟨wr.heap.size + 1, 0, none⟩) 0 0] 24)).heap[wr.heap.size + 1 + 1]? = some (.cells #[.slice (some ⟨wr.heap.size + 1, 0, none⟩) 0 0] 24 (0, 0)) := by
          have h_ := heap_alloc_new ((wr.alloc (.cells #[] 24)).alloc (.cells #[] 3)) (.cells #[.slice (some ⟨wr.heap.size + 1, 0, none⟩) 0 0] 24)
          simpa using h_
        exact ⟨fun k_ => k_ ≠ w.heap.size ∧ k_ < wr.heap.size, fun k_ => k_ = wr.heap.size, fun k_ => k_ = wr.heap.size + 1, fun k_ hk => by have h1_ := hk.1; have h2_ := hk.2; refine ⟨?_, ?_, h1_, ?_⟩ <;> omega, fun k_ hk => by subst hk; refine ⟨?_, ?_, ?_⟩ <;> omega, fun k_ hk => by subst hk; refine ⟨?_, ?_⟩ <;> omega, by omega, by omega, Kd.S_alloc (Kd.S_alloc (Kd.S_alloc (Kd.S_mono HSB.out (fun k_ hk => ⟨hk.1, hk.2.2.1⟩)) _) _) _, h_S_empty _ b1 hsz rfl, h_R_empty _ b2 (by omega) rfl, blk_alloc (blk_alloc (blk_alloc HBL.out _) _) _, b3, below_alloc (below_alloc (below_alloc HB.out _) _) _⟩
      have HGP := Aside0.mk hGP
      have hgeB : w.heap.size < wr.heap.size + 1 + 1 := by omega
      clear hGP HSB HBL HB hcl hlt2 hsz hltz hlt hgg HG
      go_wp2
      generalize wr.heap.size + 1 + 1 = Bt at HGP hgeB ⊢
      go_loopg [3, 6, 8] left.length (fun gg s3 s6 s8 wq => ∃ (lf out : List (List Int)) (told : List Int) (vl vo vt : Value), vl = s3 ∧ vo = s6 ∧ lf.length ≤ gg ∧ out.length + lf.length ≤ 12 ∧ Aside0 (impl_groups.pick k l0 lf.length lf out told = some r) ∧ Aside0 (h_GP w wq w.heap.size Bt (.slice A0 l0.length c0) lf out told vl vo vt))
      case atStart => exact ⟨left, [], [], _, _, _, rfl, rfl, Nat.le_refl _, by simp; omega, HP0, HGP⟩
      case round =>
        clear HP0 HGP
        obtain ⟨lf, out, told, vl, vo, vt, rfl, rfl, hgg, hol, HP, HGP⟩ := hrel
        by_cases hpos : 0 < lf.length
        · have hposz : (lf.length : Int) > 0 := by omega
          obtain ⟨d, hd⟩ : ∃ d, lf.length = d + 1 := ⟨lf.length - 1, by omega⟩
          have h := HP.out
          rw [hd, impl_groups.pick] at h
          by_cases hall : ∀ x ∈ lf, (impl_groups.ok k l0 told x).isSome = true
          rotate_left
          · rw [if_neg hall] at h
            cases h
          rw [if_pos hall] at h
          obtain ⟨i, hfi, h⟩ := Option.bind_eq_some_iff.1 h
          by_cases hfit : h_fits told (lf.getD i []) = true
          rotate_left
          · rw [if_neg hfit] at h
            cases h
          rw [if_pos hfit] at h
          have hi : i < lf.length := (List.findIdx?_eq_some_iff_getElem.1 hfi).1
          have hid : d = (lf.eraseIdx i).length := by rw [List.length_eraseIdx, if_pos hi]; omega
          rw [hid] at h
          have hidx : idxF (fun x => (impl_groups.ok k l0 told x).getD false) lf = (i : Int) := by unfold idxF; rw [hfi]
          have hIF : Calls Try.prog 75 #[vl, .func (.func 76) #[] #[.pointer (some ⟨Bt, 0, none⟩), .pointer (some ⟨w.heap.size, 0, none⟩)]] wr fun e w' => e = .returned (.int .i64 (i : Int)) ∧ Below wr.heap.size wr w' := by
            obtain ⟨L, O, T, hLO, hOT, hTB, hne, hge, hSl, hSo, hRt, hbl, hbt, hB⟩ := HGP.out
            obtain ⟨Al, cl, rfl⟩ := Kd.S_slice hSl
            obtain ⟨At, ct, rfl⟩ := Kd.R_slice hRt
            rw [← hidx]
            exact IndexFunc_rows _ _ eg Al cl lf _ wr (h_groups1 k Bt w.heap.size A0 c0 l0 At ct told wr (blk_lt hbt) (blk_lt hbl) ((blk_cell hbt 0).trans rfl) ((blk_cell hbl 0).trans rfl) (Kd.C_below HR0.out hB) HC0.out (Kd.R_reads' hRt).2.2 (Kd.R_reads' hRt).2.1 lf _ (fun x hx => by
              obtain ⟨b, hb⟩ := Option.isSome_iff_exists.1 (hall x hx)
              have hb2 := hb
              unfold impl_groups.ok at hb2
              obtain ⟨cc, q1, q2⟩ := Option.bind_eq_some_iff.1 hb2
              by_cases hx0 : 0 < x.length
              · rw [if_pos hx0] at q2
                obtain ⟨rs, q3, q4⟩ := Option.map_eq_some_iff.1 q2
                exact ⟨cc, rs, q1, hx0, q3, by rw [hb, Option.getD_some, q4]⟩
              · rw [if_neg hx0] at q2
                cases q2)) (Kd.S_reads' hSl).2.2
          have HIF := Lib.hid hIF
          have H := Aside0.mk h
          have HFIT := Aside0.mk (show told.length + (lf.getD i []).length ≤ 1000000 from of_decide_eq_true hfit)
          have HLEN := Aside0.mk (show (out.length + 1) * 24 ≤ 140737488355328 by omega)
          have hi0 : (0 : Int) ≤ (i : Int) := by omega
          have hi1 : (i : Int) < (lf.length : Int) := by omega
          have hi2 : (i : Int) < 12 := by omega
          obtain ⟨gl, cl, rfl⟩ : ∃ gl cl, vl = .slice (some ⟨gl, 0, none⟩) lf.length cl := by
            obtain ⟨L, O, T, hLO, hOT, hTB, hne, hge, hSl, _⟩ := HGP.out
            obtain ⟨gl, cl, e_, _⟩ := Kd.S_form hSl hpos
            exact ⟨gl, cl, e_⟩
          obtain ⟨At, ct, rfl⟩ : ∃ At ct, vt = .slice At told.length ct := by
            obtain ⟨L, O, T, hLO, hOT, hTB, hne, hge, hSl, hSo, hRt, _⟩ := HGP.out
            obtain ⟨At, ct, e_⟩ := Kd.R_slice hRt
            exact ⟨At, ct, e_⟩
          clear hIF h hall hfi hfit hidx HP hid hd
          go_wp2_with (first | (go_at_call 75; refine HIF.out.mono ?_; rintro e w2 ⟨rfl, hb⟩; have HG3 := Aside0.mk (h_GP_below (h_GP_below HGP.out hb) (below_drew (Below.refl _ _))); clear hb HGP HIF))
          obtain ⟨L0, O, T0, hLO0, hOT0, hTB0, hne, hge, hSl0, hSo0, hRt0, hbl, hbt, hB3⟩ := HG3.out
          -- the sets, told to the blocks that are there
          obtain ⟨L, hL_⟩ : ∃ L : Nat → Prop, L = fun k_ => L0 k_ ∧ k_ < w2.drew.heap.size := ⟨_, rfl⟩
          obtain ⟨T, hT_⟩ : ∃ T : Nat → Prop, T = fun k_ => T0 k_ ∧ k_ < w2.drew.heap.size := ⟨_, rfl⟩
          have hLb : ∀ k_, L k_ → k_ < w2.drew.heap.size := fun k_ hk => by rw [hL_] at hk; exact hk.2
          have hTb : ∀ k_, T k_ → k_ < w2.drew.heap.size := fun k_ hk => by rw [hT_] at hk; exact hk.2
          have hLO : ∀ k_, L k_ → ¬ O k_ ∧ ¬ T k_ ∧ k_ ≠ w.heap.size ∧ k_ ≠ Bt := fun k_ hk => by
            rw [hL_] at hk
            obtain ⟨q1, q2, q3, q4⟩ := hLO0 k_ hk.1
            exact ⟨q1, fun h_ => by rw [hT_] at h_; exact q2 h_.1, q3, q4⟩
          have hOT : ∀ k_, O k_ → ¬ T k_ ∧ k_ ≠ w.heap.size ∧ k_ ≠ Bt := fun k_ hk => by
            obtain ⟨q2, q3, q4⟩ := hOT0 k_ hk
            exact ⟨fun h_ => by rw [hT_] at h_; exact q2 h_.1, q3, q4⟩
          have hTB : ∀ k_, T k_ → k_ ≠ w.heap.size ∧ k_ ≠ Bt := fun k_ hk => by
            rw [hT_] at hk
            exact hTB0 k_ hk.1
          have hSl : Kd.S (Kd.slice 3 (Kd.int .i64)) 24 w2.drew w.heap.size L (.slice (some ⟨gl, 0, none⟩) lf.length cl) lf := Kd.S_mono (Kd.S_bound hSl0) (fun k_ hk => by rw [hL_]; exact ⟨hk.1, hk.2.2.1⟩)
          have hRt : Kd.R (Kd.int .i64) 3 w2.drew w.heap.size T (.slice At told.length ct) told := Kd.R_mono (Kd.R_bound hRt0) (fun k_ hk => by rw [hT_]; exact ⟨hk.1, hk.2.2.1⟩)
          have hLgl : L gl := (Kd.S_R hSl).1 gl (by simp [Value.ownBlock])
          obtain ⟨oki, cc, hcl, hM, hcc, hoki, hH⟩ := Kd.S_lend hSl [] (i : Int) hi0 hi1
          obtain ⟨vi, rfl, hRi⟩ := hM
          have hxi := hcc 0 vi rfl
          simp only [Int.toNat_natCast, show (Kd.slice 3 (Kd.int .i64)).sz = 1 from rfl, Nat.mul_one, Nat.add_zero] at hxi hRi
          generalize lf.getD i [] = row at hRi hxi HFIT H
          obtain ⟨Ai, ci, rfl⟩ := Kd.R_slice hRi
          have hxt : w2.drew.cell? ⟨Bt, 0, none⟩ = some (.slice At told.length ct) := (blk_cell hbt 0).trans rfl
          have HSO := Aside0.mk hSo0
          have HT := Aside0.mk hRt
          have HH := Aside0.mk hH
          have HRI := Aside0.mk hRi
          have HOKI := Aside0.mk hoki
          have HBL := Aside0.mk hbl
          have HBT := Aside0.mk hbt
          have HB3 := Aside0.mk hB3
          have hj1 := eq_true hi0
          have hj2 := eq_true hi1
          clear hL_ hT_ hLO0 hOT0 hTB0 hSl0 hSo0 hRt0 hbl hbt hB3 hSl hRt hH hRi hoki hcc hcl HG3
          refine start_ (n := 15) (S := fun w' => w'.cell? ⟨gl, i, none⟩ = some (.slice Ai row.length ci) ∧ w'.cell? ⟨Bt, 0, none⟩ = some (.slice At told.length ct)) (ds := [14]) #[false, false, false, false, false, false, false, false, false, false, false, false, false, false, false] (by kernel_rfl) rfl rfl ⟨hxi, hxt⟩ (fun hHeld => ?_)
          generalize w2.drew = w3 at HSO HT HH HRI HBL HBT HB3 hHeld hLb hTb ⊢
          clear hxi hxt
          refine pure_ (i := 0) (N := some 36) (v := ?_) (a' := ?_) #[true, false, false, false, false, false, false, false, false, false, false, false, false, false, false] rfl rfl (by kernel_rfl) (fun _ _ _ h => h) (Or.inl ⟨by rfl, ?_⟩) ?_ ?_
          rotate_left
          · intro w'
            go_simp
            with_reducible rfl
          rotate_left
          · simp only [Act.put, List.setIfInBounds_toArray, List.set_cons_zero, List.set_cons_succ, i64_w, i32_w]
            rfl
          refine pure_ (i := 1) (N := some 37) (v := ?_) (a' := ?_) #[true, true, false, false, false, false, false, false, false, false, false, false, false, false, false] rfl rfl (by kernel_rfl) (fun _ _ _ h => h) (Or.inl ⟨by rfl, ?_⟩) ?_ ?_
          rotate_left
          · intro w'
            go_simp
            with_reducible rfl
          rotate_left
          · simp only [Act.put, List.setIfInBounds_toArray, List.set_cons_zero, List.set_cons_succ, i64_w, i32_w]
            rfl
          refine pure_ (i := 2) (N := some 38) (v := ?_) (a' := ?_) #[true, true, true, false, false, false, false, false, false, false, false, false, false, false, false] rfl rfl (by kernel_rfl) (fun _ _ _ h => h) (Or.inl ⟨by rfl, ?_⟩) ?_ ?_
          rotate_left
          · intro w'
            go_simp
            with_reducible rfl
          rotate_left
          · simp only [Act.put, List.setIfInBounds_toArray, List.set_cons_zero, List.set_cons_succ, i64_w, i32_w]
            rfl
          refine pure_ (i := 3) (N := some 39) (v := ?_) (a' := ?_) #[true, true, true, true, false, false, false, false, false, false, false, false, false, false, false] rfl rfl (by kernel_rfl) (fun _ _ _ h => h) (Or.inl ⟨by rfl, ?_⟩) ?_ ?_
          rotate_left
          · intro w'
            go_simp
            with_reducible rfl
          rotate_left
          · simp only [Act.put, List.setIfInBounds_toArray, List.set_cons_zero, List.set_cons_succ, i64_w, i32_w]
            rfl
          refine pure_ (i := 8) (N := some 44) (v := ?_) (a' := ?_) #[true, true, true, true, false, false, false, false, true, false, false, false, false, false, false] rfl rfl (by kernel_rfl) (fun _ _ _ h => h) (Or.inl ⟨by rfl, ?_⟩) ?_ ?_
          rotate_left
          · intro w'
            go_simp
            with_reducible rfl
          rotate_left
          · simp only [Act.put, List.setIfInBounds_toArray, List.set_cons_zero, List.set_cons_succ, i64_w, i32_w]
            rfl
          refine pure_ (i := 9) (N := some 45) (v := ?_) (a' := ?_) #[true, true, true, true, false, false, false, false, true, true, false, false, false, false, false] rfl rfl (by kernel_rfl) (fun _ _ _ h => h) (Or.inl ⟨by rfl, ?_⟩) ?_ ?_
          rotate_left
          · intro w'
            go_simp
            with_reducible rfl
          rotate_left
          · simp only [Act.put, List.setIfInBounds_toArray, List.set_cons_zero, List.set_cons_succ, i64_w, i32_w]
            rfl
          refine pure_ (i := 10) (N := some 46) (v := ?_) (a' := ?_) #[true, true, true, true, false, false, false, false, true, true, true, false, false, false, false] rfl rfl (by kernel_rfl) (fun _ _ _ h => h) (Or.inl ⟨by rfl, ?_⟩) ?_ ?_
          rotate_left
          · intro w'
            go_simp
            with_reducible rfl
          rotate_left
          · simp only [Act.put, List.setIfInBounds_toArray, List.set_cons_zero, List.set_cons_succ, i64_w, i32_w]
            rfl
          refine take_ (i := 4) (N := some 40) (v := ?_) (a' := ?_) #[true, true, true, true, true, false, false, false, true, true, true, false, false, false, false] rfl rfl (by kernel_rfl) (fun _ _ _ h => h) (Or.inl ⟨by rfl, ?_⟩) hHeld ?_ ?_
          rotate_left
          · rintro w' ⟨s0, s1⟩
            go_simp
            with_reducible rfl
          rotate_left
          · simp only [Act.put, List.setIfInBounds_toArray, List.set_cons_zero, List.set_cons_succ, i64_w, i32_w]
            rfl
          refine take_ (i := 7) (N := some 43) (v := ?_) (a' := ?_) #[true, true, true, true, true, false, false, true, true, true, true, false, false, false, false] rfl rfl (by kernel_rfl) (fun _ _ _ h => h) (Or.inl ⟨by rfl, ?_⟩) hHeld ?_ ?_
          rotate_left
          · rintro w' ⟨s0, s1⟩
            go_simp
            with_reducible rfl
          rotate_left
          · simp only [Act.put, List.setIfInBounds_toArray, List.set_cons_zero, List.set_cons_succ, i64_w, i32_w]
            rfl
          refine take_ (i := 11) (N := some 47) (v := ?_) (a' := ?_) #[true, true, true, true, true, false, false, true, true, true, true, true, false, false, false] rfl rfl (by kernel_rfl) (fun _ _ _ h => h) (Or.inl ⟨by rfl, ?_⟩) hHeld ?_ ?_
          rotate_left
          · rintro w' ⟨s0, s1⟩
            go_simp
            with_reducible rfl
          rotate_left
          · simp only [Act.put, List.setIfInBounds_toArray, List.set_cons_zero, List.set_cons_succ, i64_w, i32_w]
            rfl
          refine one_ (i := 5) (N := some 41) #[true, true, true, true, true, true, false, true, true, true, true, true, false, false, false] rfl rfl (by kernel_rfl) (by decide) (fun K hK => ?_)
          refine value_ (w1 := ?_) (v := ?_) (by rfl) rfl ?_ ?_
          rotate_left 2
          · go_simp
            constructor
            · rfl
            · rfl
          refine hK.out _ _ ⟨(World.cell?_alloc_lt _ _ _ (World.block_lt_of_cell? _ _ hHeld.1)).trans hHeld.1, (World.cell?_alloc_lt _ _ _ (World.block_lt_of_cell? _ _ hHeld.2)).trans hHeld.2⟩ (fun hHeld2 => ?_)
          clear hK K
          refine norm_ (a' := ?_) ?_ ?_
          rotate_left
          · show Act.put _ (some 41) _ = _
            simp only [Act.put, List.setIfInBounds_toArray, List.set_cons_zero, List.set_cons_succ, i64_w, i32_w]
            rfl
          refine one_ (i := 6) (N := some 42) #[true, true, true, true, true, true, true, true, true, true, true, true, false, false, false] rfl rfl (by kernel_rfl) (by decide) (fun K hK => ?_)
          refine Kd.S_append_step (Kd.slice 3 (Kd.int .i64)) (w0 := w) w.heap.size (by rfl) (.tmp 36) (.tmp 41) 22 24 (.slice none 0 0) 24 rfl Try.underlying22 info24 rfl (by decide) (by omega) vo out row [.slice Ai row.length ci] (fun k_ => O k_ ∨ oki k_ ∨ w3.heap.size ≤ k_) oki rfl rfl ⟨_, rfl, HRI.out⟩ (fun k_ hk => ⟨.inr (.inl hk), fun e_ => (hLO k_ (HOKI.out k_ hk).1).1 ((Kd.S_R HSO.out).1 k_ e_.symm)⟩) (fun k_ hk => .inr (.inr hk)) (Kd.S_mono HSO.out (fun k_ hk => ⟨.inl hk, fun h_ => (hLO k_ (HOKI.out k_ h_).1).1 hk⟩)) HB3.out HB3.out.size (by have := HLEN.out; omega) ?_
          intro v1 w4 hS4 hB4 hg4 hat4
          have hne4 : ∀ k_, L k_ ∨ T k_ ∨ oki k_ → some k_ ≠ vo.ownBlock := fun k_ hk e_ => by
            have hO_ := (Kd.S_R HSO.out).1 k_ e_.symm
            rcases hk with hk | hk | hk
            · exact (hLO k_ hk).1 hO_
            · exact (hOT k_ hO_).1 hk
            · exact (hLO k_ (HOKI.out k_ hk).1).1 hO_
          have HH4 := Aside0.mk (Kd.H_other HH.out hg4 (fun k_ hk => hne4 k_ (.inl hk)))
          have HT4 := Aside0.mk (Kd.R_grown HT.out hg4 (fun k_ hk => hne4 k_ (.inr (.inl hk))))
          have HRI4 := Aside0.mk (Kd.R_grown HRI.out hg4 (fun k_ hk => hne4 k_ (.inr (.inr hk))))
          have hbo4 : some w.heap.size ≠ vo.ownBlock ∧ some Bt ≠ vo.ownBlock := ⟨fun e_ => (hOT w.heap.size ((Kd.S_R HSO.out).1 w.heap.size e_.symm)).2.1 rfl, fun e_ => (hOT Bt ((Kd.S_R HSO.out).1 Bt e_.symm)).2.2 rfl⟩
          have HBL4 := Aside0.mk (blk_grown HBL.out hg4 hbo4.1)
          have HBT4 := Aside0.mk (blk_grown HBT.out hg4 hbo4.2)
          have hc4 := cell_grown hg4 hHeld.1 (hne4 gl (.inl hLgl))
          have hd4 := cell_grown hg4 hHeld.2 hbo4.2
          have HS4 := Aside0.mk (Kd.S_mono (ok' := fun k_ => (O k_ ∨ oki k_ ∨ w3.heap.size ≤ k_) ∧ k_ < w4.heap.size) (Kd.S_bound hS4) (fun k_ hk => ⟨hk.1, hk.2.2.1⟩))
          have HB4 := Aside0.mk hB4
          have hsz4 : w3.heap.size ≤ w4.heap.size := hg4.size
          refine hK.out _ _ ⟨hc4, hd4⟩ (fun hHeld3 => ?_)
          clear hK K
          refine norm_ (a' := ?_) ?_ ?_
          rotate_left
          · show Act.put _ (some 42) _ = _
            simp only [Act.put, List.setIfInBounds_toArray, List.set_cons_zero, List.set_cons_succ, i64_w, i32_w]
            rfl
          refine one_ (i := 12) (N := some 48) #[true, true, true, true, true, true, true, true, true, true, true, true, true, false, false] rfl rfl (by kernel_rfl) (by decide) (fun K hK => ?_)
          refine Kd.R_append_rows_step (Kd.int .i64) (w0 := w) w.heap.size (by rfl) (.tmp 43) (.tmp 47) 24 3 (.int .i64 0) 8 rfl Try.underlying24 info3 rfl (by decide) (by omega) (.slice At told.length ct) told row _ _ _ (fun k_ => T k_ ∨ w4.heap.size ≤ k_) (fun _ => False) rfl rfl (Kd.R_mono HT4.out (fun _ hk => .inl hk)) (Kd.R_reads' HRI4.out).2.2 (fun _ _ h => h) (fun _ h => h.elim) (fun k_ hk => .inr hk) HB4.out HB4.out.size (by have := HFIT.out; omega) ?_
          intro v2 w5 hT5 hB5 hg5 hat5
          have hT_ : ∀ k_, some k_ = (.slice At told.length ct : Value).ownBlock → T k_ := fun k_ e_ => HT.out.1 k_ e_.symm
          have hTlt : ∀ k_, T k_ → k_ < w3.heap.size := hTb
          have HS5 := Aside0.mk (Kd.S_grown HS4.out hg5 (fun k_ hk e_ => by
            have h_ := hT_ k_ e_
            rcases hk.1 with hk | hk | hk
            · exact (hOT k_ hk).1 h_
            · exact (hLO k_ (HOKI.out k_ hk).1).2.1 h_
            · have := hTlt k_ h_
              omega))
          have HH5 := Aside0.mk (Kd.H_other HH4.out hg5 (fun k_ hk e_ => (hLO k_ hk).2.1 (hT_ k_ e_)))
          have hbt5 : some w.heap.size ≠ (.slice At told.length ct : Value).ownBlock ∧ some Bt ≠ (.slice At told.length ct : Value).ownBlock := ⟨fun e_ => (hTB w.heap.size (hT_ w.heap.size e_)).1 rfl, fun e_ => (hTB Bt (hT_ Bt e_)).2 rfl⟩
          have HBL5 := Aside0.mk (blk_grown HBL4.out hg5 hbt5.1)
          have HBT5 := Aside0.mk (blk_grown HBT4.out hg5 hbt5.2)
          have hc5 := cell_grown hg5 hHeld3.1 (fun e_ => (hLO gl hLgl).2.1 (hT_ gl e_))
          have hd5 := cell_grown hg5 hHeld3.2 hbt5.2
          have hf5 : w5.frozen? ⟨Bt, 0, none⟩ = false := blk_frozen HBT5.out 0
          have HT5 := Aside0.mk hT5
          have HB5 := Aside0.mk hB5
          obtain ⟨A9, c9, rfl⟩ := Kd.R_slice hT5
          refine hK.out _ _ ⟨hc5, hd5⟩ (fun hHeld4 => ?_)
          clear hK K
          refine norm_ (a' := ?_) ?_ ?_
          rotate_left
          · show Act.put _ (some 48) _ = _
            simp only [Act.put, List.setIfInBounds_toArray, List.set_cons_zero, List.set_cons_succ, i64_w, i32_w]
            rfl
          refine pure_ (i := 13) (N := some 6) (v := ?_) (a' := ?_) #[true, true, true, true, true, true, true, true, true, true, true, true, true, true, false] rfl rfl (by kernel_rfl) (fun _ _ _ h => h) (Or.inl ⟨by rfl, ?_⟩) ?_ ?_
          rotate_left
          · intro w'
            go_simp
            with_reducible rfl
          rotate_left
          · simp only [Act.put, List.setIfInBounds_toArray, List.set_cons_zero, List.set_cons_succ, i64_w, i32_w]
            rfl
          refine last_ (i := 14) (N := none) #[true, true, true, true, true, true, true, true, true, true, true, true, true, true, true] rfl rfl (by kernel_rfl) (by decide) (fun K hK => ?_)
          refine skip_ (w1 := ?_) (by rfl) rfl ?_ ?_
          rotate_left
          · go_simp
            rfl
          refine hK.out _ _ ?_
          clear hK K
          refine done_ (by kernel_rfl) ?_
          rw [List.length_append] at hT5
          have e9 : (.slice A9 (told.length + row.length) c9 : Value) = .slice A9 (told ++ row).length c9 := by rw [List.length_append]
          have hO6 : ∀ k_, ((O k_ ∨ oki k_ ∨ w3.heap.size ≤ k_) ∧ k_ < w4.heap.size) → k_ ≠ w.heap.size ∧ k_ ≠ Bt ∧ k_ ≠ gl := fun k_ hk => by
            have hglt := hLb gl hLgl
            have hbtl := blk_lt HBT.out
            have hbll := blk_lt HBL.out
            rcases hk.1 with h_ | h_ | h_
            · exact ⟨(hOT k_ h_).2.1, (hOT k_ h_).2.2, fun e_ => (hLO gl hLgl).1 (e_ ▸ h_)⟩
            · exact ⟨(hLO k_ (HOKI.out k_ h_).1).2.2.1, (hLO k_ (HOKI.out k_ h_).1).2.2.2, (HOKI.out k_ h_).2⟩
            · refine ⟨?_, ?_, ?_⟩ <;> omega
          have hT6 : ∀ k_, (T k_ ∨ w4.heap.size ≤ k_) → k_ ≠ w.heap.size ∧ k_ ≠ Bt := fun k_ hk => by
            have hbtl := blk_lt HBT4.out
            have hbll := blk_lt HBL4.out
            rcases hk with h_ | h_
            · exact hTB k_ h_
            · refine ⟨?_, ?_⟩ <;> omega
          have HS6 := Aside0.mk (Kd.S_far (p := ⟨Bt, 0, none⟩) HS5.out (fun k_ hk => (hO6 k_ hk).2.1) (.slice A9 (told.length + row.length) c9))
          have HH6 := Aside0.mk (Kd.H_far (p := ⟨Bt, 0, none⟩) HH5.out (fun k_ hk => (hLO k_ hk).2.2.2) (.slice A9 (told.length + row.length) c9))
          have HT6 := Aside0.mk (Kd.R_far (p := ⟨Bt, 0, none⟩) hT5 (fun k_ hk => (hT6 k_ hk).2) (.slice A9 (told.length + row.length) c9))
          have HBL6 := Aside0.mk (blk_far (p := ⟨Bt, 0, none⟩) HBL5.out hne (.slice A9 (told.length + row.length) c9))
          have HBT6 := Aside0.mk (show (w5.setCell ⟨Bt, 0, none⟩ (.slice A9 (told.length + row.length) c9)).heap[Bt]? = some (.cells #[.slice A9 (told.length + row.length) c9] 24 (0, 0)) from blk_set HBT5.out 0 (.slice A9 (told.length + row.length) c9))
          have HB6 := Aside0.mk (HB5.out.setCell (p := ⟨Bt, 0, none⟩) hge (.slice A9 (told.length + row.length) c9))
          have hbnd : ∀ k_, L k_ → ¬ w3.heap.size ≤ k_ := fun k_ hk => by have := hLb k_ hk; omega
          clear hc5 hd5 hf5 hbt5 hc4 hd4 hbo4 hne4 hHeld hHeld2 hHeld3 hHeld4 HS5 HH5 HT5 HBL5 HBT5 HB5 HS4 HH4 HT4 HRI4 HBL4 HBT4 HB4 HSO HT HH HRI HBL HBT HB3 hT5 hT_ hTlt hS4 hB4 hg4 hat4 hB5 hg5 hat5
          generalize w5.setCell ⟨Bt, 0, none⟩ (.slice A9 (told.length + row.length) c9) = w6 at HS6 HH6 HT6 HBL6 HBT6 HB6 ⊢
          obtain ⟨_, f, hgR⟩ := HH6.out
          rw [Int.toNat_natCast] at hgR
          have HDEL := Lib.hid (Delete_rows (Kd.gap f (Kd.slice 3 (Kd.int .i64)) i [.slice Ai row.length ci]) rfl gl lf.length cl i (fun k_ => L k_ ∧ ¬ oki k_) lf.zipIdx w w6 HB6.out hgR hi (by omega))
          clear hgR HH6
          go_wp2_with (first | (go_at_call 78; refine HDEL.out.mono ?_; rintro e w7 ⟨rfl, hR7, hB7, hK7⟩; have HL7 := Aside0.mk (h_gap_erase hR7); have HB7 := Aside0.mk hB7; have HK7 := Aside0.mk hK7; clear hR7 hB7 hK7 HDEL))
          go_roundg (lf.length - 1)
          case measure => omega
          case rel =>
            have hle : (lf.eraseIdx i).length = lf.length - 1 := by rw [List.length_eraseIdx, if_pos hi]
            refine ⟨lf.eraseIdx i, out ++ [row], told ++ row, .slice (some ⟨gl, 0, none⟩) (lf.length - 1) cl, v1, .slice A9 (told.length + row.length) c9, by first | rfl | simp, rfl, by omega, by rw [hle, List.length_append, List.length_singleton]; omega, H, ⟨fun k_ => L k_ ∧ ¬ oki k_, fun k_ => (O k_ ∨ oki k_ ∨ w3.heap.size ≤ k_) ∧ k_ < w4.heap.size, fun k_ => T k_ ∨ w4.heap.size ≤ k_, ?_, ?_, ?_, hne, hge, HL7.out, Kd.S_kept HS6.out HK7.out (fun k_ hk => (hO6 k_ hk).2.2), Kd.R_kept HT6.out HK7.out ?_, blk_kept HBL6.out HK7.out (fun e_ => (hLO gl hLgl).2.2.1 e_.symm), blk_kept HBT6.out HK7.out (fun e_ => (hLO gl hLgl).2.2.2 e_.symm), HB7.out⟩⟩
            · intro k_ hk
              obtain ⟨q1, q2, q3, q4⟩ := hLO k_ hk.1
              refine ⟨fun h_ => ?_, fun h_ => ?_, q3, q4⟩
              · rcases h_.1 with h_ | h_ | h_
                · exact q1 h_
                · exact hk.2 h_
                · exact hbnd k_ hk.1 h_
              · rcases h_ with h_ | h_
                · exact q2 h_
                · exact hbnd k_ hk.1 (by omega)
            · intro k_ hk
              refine ⟨fun h_ => ?_, (hO6 k_ hk).1, (hO6 k_ hk).2.1⟩
              rcases h_ with h_ | h_
              · rcases hk.1 with hk | hk | hk
                · exact (hOT k_ hk).1 h_
                · exact (hLO k_ (HOKI.out k_ hk).1).2.1 h_
                · have := hTb k_ h_
                  omega
              · have := hk.2
                omega
            · exact hT6
            · intro k_ hk e_
              subst e_
              rcases hk with h_ | h_
              · exact (hLO _ hLgl).2.1 h_
              · exact hbnd _ hLgl (by omega)
        · have hposz : ¬ (lf.length : Int) > 0 := by omega
          have h := HP.out
          rw [show lf.length = 0 by omega, impl_groups.pick] at h
          obtain rfl := Option.some.inj h
          obtain ⟨L, O, T, hLO, hOT, hTB, hne, hge, hSl, hSo, hRt, hbl, hbt, hB⟩ := HGP.out
          obtain ⟨Al, cl, rfl⟩ := Kd.S_slice hSl
          have HSO := Aside0.mk hSo
          have HB := Aside0.mk hB
          clear hLO hOT hTB hSl hSo hRt hbl hbt hB HGP h HP
          go_wp2
          go_ret
          exact ⟨vo, by first | rfl | simp, Kd.S_mono HSO.out (fun _ _ => trivial), HB.out⟩
-- (told above)
set_option maxHeartbeats 8000000 in
set_option maxRecDepth 100000 in
theorem impl_groups.calls (k : Nat) (A0 : Option Addr) (c0 : Nat) (l0 : List (List Int)) (r : List (List Int)) (w : World) (hr0 : Kd.C (Kd.slice 3 (Kd.int .i64)) w A0 l0.length l0) (hc0 : l0.length ≤ c0) (h : impl_groups.f k l0 = some r) :
    Calls Try.prog 42 #[.slice A0 l0.length c0] w fun e w' => ∃ v0_ : Value, e = .returned (v0_) ∧ Kd.S (Kd.slice 3 (Kd.int .i64)) 24 w' w.heap.size (fun _ => True) v0_ r ∧ Below w.heap.size w w' := by
  exact h_groups k A0 c0 l0 r w hr0 hc0 h

/-! ### impl_GroupsOf: function 22 -/
def impl_GroupsOf.f (k : Nat) (l0 : List (List Int)) : Option ((List (List Int)) × Bool) := (impl_GoodLinks.f l0).bind fun t232 => (if t232 = true then ((impl_groups.f k l0).bind fun t233 => (some (t233, true))) else (some (([] : List (List Int)), false)))
theorem impl_GroupsOf.mono : ∀ a0 k, LeO (impl_GroupsOf.f k a0) (impl_GroupsOf.f (k + 1) a0) := by
  intro a0 k
  unfold impl_GroupsOf.f
  repeat' first
      | (with_reducible exact impl_groups.mono _ _)
      | (with_reducible exact LeO.refl _)
      | (with_reducible exact LeO.none _)
      | (with_reducible refine LeO.ite ?_ ?_)
      | (with_reducible refine LeO.bind ?_ (fun _ => ?_))
      | exact impl_groups.mono _ _
      | exact LeO.none _
      | refine LeO.ite ?_ ?_
      | refine LeO.bind ?_ (fun _ => ?_)
set_option maxHeartbeats 8000000 in
set_option maxRecDepth 100000 in
theorem impl_GroupsOf.calls (k : Nat) (A0 : Option Addr) (c0 : Nat) (l0 : List (List Int)) (r1 : List (List Int)) (r2 : Bool) (w : World) (hr0 : Kd.C (Kd.slice 3 (Kd.int .i64)) w A0 l0.length l0) (hc0 : l0.length ≤ c0) (h : impl_GroupsOf.f k l0 = some (r1, r2)) :
    Calls Try.prog 22 #[.slice A0 l0.length c0] w fun e w' => ∃ v0_ : Value, e = .returned (.tuple #[v0_, .bool r2]) ∧ Kd.S (Kd.slice 3 (Kd.int .i64)) 24 w' w.heap.size (fun _ => True) v0_ r1 ∧ Below w.heap.size w w' := by
  have HR0 := Aside0.mk hr0
  have HC0 := Aside0.mk hc0
  clear hr0 hc0
  have HB := Aside0.mk (Below.refl w.heap.size w)
  have H : ((impl_GoodLinks.f l0).bind fun t232 => (if t232 = true then ((impl_groups.f k l0).bind fun t233 => (some (t233, true))) else (some (([] : List (List Int)), false)))) = some (r1, r2) := h
  clear h
  replace H := Option.bind_eq_some_iff.mp H
  obtain ⟨t232, A20, H⟩ := H
  replace H : (if t232 = true then ((impl_groups.f k l0).bind fun t233 => (some (t233, true))) else (some (([] : List (List Int)), false))) = some (r1, r2) := H
  have A2 := Aside0.mk A20
  clear A20
  by_cases c3 : t232 = true
  · subst c3
    have H1 : ((impl_groups.f k l0).bind fun t233 => (some (t233, true))) = some (r1, r2) := by rw [if_pos rfl] at H; exact H
    clear H
    have H := H1
    clear H1
    replace H := Option.bind_eq_some_iff.mp H
    obtain ⟨t233, A40, H⟩ := H
    replace H : (some (t233, true)) = some (r1, r2) := H
    have A4 := Aside0.mk A40
    clear A40
    simp only [Option.some.injEq, Prod.mk.injEq] at H
    obtain ⟨rfl, rfl⟩ := H
    go_enter Try.func22, Try.ntmps22
    go_wp2_with (first | ((with_reducible refine gate_callee (f := 40) rfl ?_); refine goesL_ (some 5) rfl rfl Try.func40 (by kernel_rfl) rfl #[.slice A0 l0.length c0] rfl (by (try simp only [List.map_toArray, List.map_cons, List.map_nil]); first | done | rfl | (simp only [List.length_drop, List.length_take]; rfl)) ?_; (with_reducible refine (impl_GoodLinks.calls _ _ l0 true _ ?side1 ?side2 A2.out).mono ?_); (case side1 => repeat (first | exact HR0.out | (with_reducible refine Kd.C_alloc ?_ _) | (with_reducible refine Kd.C_drewN ?_ _) | (with_reducible refine Kd.C_drew ?_))); (case side2 => exact HC0.out); rintro e w5 ⟨rfl, hb⟩; refine ⟨_, rfl, ?_⟩; have n0_ := Aside0.mk (below_step (by repeat (first | (with_reducible first | exact HB.out | apply below_alloc | apply pw_below_drewN | apply below_drew1) | exact HB.out)) hb); clear HB; have HB := n0_; clear n0_; (try clear hb); (try clear hb2); (try clear hk); (try clear hi)) | ((with_reducible refine gate_callee (f := 42) rfl ?_); refine goesL_ (some 8) rfl rfl Try.func42 (by kernel_rfl) rfl #[.slice A0 l0.length c0] rfl (by (try simp only [List.map_toArray, List.map_cons, List.map_nil]); first | done | rfl | (simp only [List.length_drop, List.length_take]; rfl)) ?_; (with_reducible refine (impl_groups.calls k _ _ l0 t233 _ ?side1 ?side2 A4.out).mono ?_); (case side1 => repeat (first | exact (Kd.C_below HR0.out HB.out) | (with_reducible refine Kd.C_alloc ?_ _) | (with_reducible refine Kd.C_drewN ?_ _) | (with_reducible refine Kd.C_drew ?_))); (case side2 => exact HC0.out); rintro e w6 ⟨v234, rfl, ho0, hb⟩; refine ⟨_, rfl, ?_⟩; have n0_ := Aside0.mk (Kd.S_lower ho0 (below_size (by repeat (first | (with_reducible first | exact HB.out | apply below_alloc | apply pw_below_drewN | apply below_drew1) | exact HB.out)))); have n1_ := Aside0.mk (below_step (by repeat (first | (with_reducible first | exact HB.out | apply below_alloc | apply pw_below_drewN | apply below_drew1) | exact HB.out)) hb); clear HB; have HO235 := n0_; have HB := n1_; clear n0_ n1_; (try clear hb); (try clear hb2); (try clear hk); (try clear hi); (try clear ho0)))
    go_ret2
    exact ⟨_, by first | rfl | (simp [errW_none, errW_some] <;> rfl) | (simp [*, errW_none, errW_some] <;> rfl), by (with_reducible repeat (first | apply Kd.S_alloc | apply Kd.S_drewN | apply Kd.S_drew)); exact HO235.out, by repeat (first | (with_reducible first | exact HB.out | apply below_alloc | apply pw_below_drewN | apply below_drew1) | exact HB.out)⟩
  · replace c3 := Bool.eq_false_iff.mpr c3
    subst c3
    have H1 : (some (([] : List (List Int)), false)) = some (r1, r2) := by rw [if_neg (show ¬ (false = true) by decide)] at H; exact H
    clear H
    have H := H1
    clear H1
    simp only [Option.some.injEq, Prod.mk.injEq] at H
    obtain ⟨rfl, rfl⟩ := H
    go_enter Try.func22, Try.ntmps22
    go_wp2_with (first | ((with_reducible refine gate_callee (f := 40) rfl ?_); refine goesL_ (some 5) rfl rfl Try.func40 (by kernel_rfl) rfl #[.slice A0 l0.length c0] rfl (by (try simp only [List.map_toArray, List.map_cons, List.map_nil]); first | done | rfl | (simp only [List.length_drop, List.length_take]; rfl)) ?_; (with_reducible refine (impl_GoodLinks.calls _ _ l0 false _ ?side1 ?side2 A2.out).mono ?_); (case side1 => repeat (first | exact HR0.out | (with_reducible refine Kd.C_alloc ?_ _) | (with_reducible refine Kd.C_drewN ?_ _) | (with_reducible refine Kd.C_drew ?_))); (case side2 => exact HC0.out); rintro e w7 ⟨rfl, hb⟩; refine ⟨_, rfl, ?_⟩; have n0_ := Aside0.mk (below_step (by repeat (first | (with_reducible first | exact HB.out | apply below_alloc | apply pw_below_drewN | apply below_drew1) | exact HB.out)) hb); clear HB; have HB := n0_; clear n0_; (try clear hb); (try clear hb2); (try clear hk); (try clear hi)))
    go_ret2
    exact ⟨_, by first | rfl | (simp [errW_none, errW_some] <;> rfl) | (simp [*, errW_none, errW_some] <;> rfl), by first | exact Kd.S_nil _ _ _ _ _ | exact Kd.N_nil _ _ _ _ _ | exact Kd.V_nil _ _ _ _ _ | exact Kd.Q_nil _ _ _ _ _ | exact Kd.R_nil _ _ _ _ _, by repeat (first | (with_reducible first | exact HB.out | apply below_alloc | apply pw_below_drewN | apply below_drew1) | exact HB.out)⟩

/-! ### laws_heldIntS: function 18 -/
def laws_heldIntS.l0 : Nat → List Int → Int → Int → Option (Int)
  | 0, _, _, _ => none
  | k + 1, x0, x1, x5 => if x5 < (x0.length : Int) then (if 0 ≤ x5 then (if (rd x0 x5) = x1 then (laws_heldIntS.l0 k x0 (wrap64 (x1 + 1)) (wrap64 (x5 + 1))) else (some (-1))) else (none)) else (some x1)
def laws_heldIntS.f (k : Nat) (l0 : List Int) (a1 : Int) : Option (Int) := laws_heldIntS.l0 k l0 a1 0
theorem laws_heldIntS.mono_l : ∀ k, (∀ y0 y1 y2, LeO (laws_heldIntS.l0 k y0 y1 y2) (laws_heldIntS.l0 (k + 1) y0 y1 y2))
  | 0 => fun _ _ _ r h => by simp [laws_heldIntS.l0] at h
  | k + 1 => by
    have ih0 := laws_heldIntS.mono_l k
    · intro y0 y1 y2
      unfold laws_heldIntS.l0
      repeat' first
      | (with_reducible exact ih0 _ _ _)
      | (with_reducible exact LeO.refl _)
      | (with_reducible exact LeO.none _)
      | (with_reducible refine LeO.ite ?_ ?_)
      | (with_reducible refine LeO.bind ?_ (fun _ => ?_))
      | exact ih0 _ _ _
      | exact LeO.none _
      | refine LeO.ite ?_ ?_
      | refine LeO.bind ?_ (fun _ => ?_)
theorem laws_heldIntS.mono : ∀ a0 a1 k, LeO (laws_heldIntS.f k a0 a1) (laws_heldIntS.f (k + 1) a0 a1) := by
  intro a0 a1 k
  have ih0 := laws_heldIntS.mono_l k
  unfold laws_heldIntS.f
  repeat' first
      | (with_reducible exact ih0 _ _ _)
      | (with_reducible exact LeO.refl _)
      | (with_reducible exact LeO.none _)
      | (with_reducible refine LeO.ite ?_ ?_)
      | (with_reducible refine LeO.bind ?_ (fun _ => ?_))
      | exact ih0 _ _ _
      | exact LeO.none _
      | refine LeO.ite ?_ ?_
      | refine LeO.bind ?_ (fun _ => ?_)
set_option maxHeartbeats 8000000 in
set_option maxRecDepth 100000 in
theorem laws_heldIntS.calls (k : Nat) (A0 : Option Addr) (c0 : Nat) (l0 : List Int) (a1 : Int) (r : Int) (w : World) (hr0 : Kd.C (Kd.int .i64) w A0 l0.length l0) (hc0 : l0.length ≤ c0) (h : laws_heldIntS.f k l0 a1 = some r) :
    Calls Try.prog 18 #[.slice A0 l0.length c0, .int .i64 a1] w fun e w' => e = .returned (.int .i64 r) ∧ Drawn0 w w' := by
  have HR0 := Aside0.mk hr0
  have HC0 := Aside0.mk hc0
  clear hr0 hc0
  have H : (laws_heldIntS.l0 k l0 a1 0) = some r := h
  clear h
  have H' := Aside0.mk H
  clear H
  go_enter Try.func18, Try.ntmps18
  go_wp2
  go_loopg [1, 5] k (fun kq v1 v5 w' => ∃ (x1_1 : Int) (x5_1 : Int), v1 = .int .i64 x1_1 ∧ v5 = .int .i64 x5_1 ∧ Aside0 (laws_heldIntS.l0 kq l0 x1_1 x5_1 = some r) ∧ Aside0 (kq ≤ k) ∧ Drawn0 w w')
  case atStart => exact ⟨(a1), (0), (by first | rfl | (simp; done) | (simp [*]; done)), (by first | rfl | (simp; done) | (simp [*]; done)), H', ⟨Nat.le_refl _⟩, by repeat (first | exact Drawn0.refl _ | apply Drawn0.step)⟩
  case round =>
    clear H'
    try clear c1
    try clear p2
    obtain ⟨x1_1, x5_1, rfl, rfl, HA, HK1, ⟨m1, rfl⟩⟩ := hrel
    cases gk with
    | zero => exact absurd HA.out (by simp [laws_heldIntS.l0])
    | succ k1 =>
      have H := HA.out
      clear HA
      simp only [laws_heldIntS.l0] at H
      by_cases c3 : x5_1 < (l0.length : Int)
      · rw [if_pos c3] at H
        have c3b0 : decide (x5_1 < (l0.length : Int)) = true := decide_eq_true c3
        clear c3
        by_cases c4 : 0 ≤ x5_1
        · rw [if_pos c4] at H
          have c4b0 : decide (0 ≤ x5_1) = true := decide_eq_true c4
          clear c4
          by_cases c5 : (rd l0 x5_1) = x1_1
          · rw [if_pos c5] at H
            have c5b0 : ((rd l0 x5_1) == x1_1) = true := beq_iff_eq.mpr c5
            have c5b1 : ((rd l0 x5_1) != x1_1) = false := bne_eq_false_iff_eq.mpr c5
            clear c5
            have H' := Aside0.mk H
            clear H
            have p236 : 0 ≤ (x5_1 : Int) := of_decide_eq_true (by first | (with_reducible assumption) | assumption)
            have q236 : x5_1 < (l0.length : Int) := of_decide_eq_true (by first | (with_reducible assumption) | assumption)
            obtain ⟨ad236, e236, hx236_0⟩ := Kd.at_int HR0.out x5_1 p236 q236
            cases e236
            replace p236 := eq_true p236
            replace q236 := eq_true q236
            go_wp2
            go_roundg k1
            case measure => have := HK1.out; omega
            case rel => exact ⟨(wrap64 (x1_1 + 1)), (wrap64 (x5_1 + 1)), (by first | rfl | (simp; done) | (simp [*]; done)), (by first | rfl | (simp; done) | (simp [*]; done)), H', ⟨by have := HK1.out; omega⟩, by repeat (first | exact Drawn0.refl _ | apply Drawn0.step)⟩
          · rw [if_neg c5] at H
            have c5b0 : ((rd l0 x5_1) == x1_1) = false := beq_eq_false_iff_ne.mpr c5
            have c5b1 : ((rd l0 x5_1) != x1_1) = true := bne_iff_ne.mpr c5
            obtain rfl := Option.some.inj H
            have p236 : 0 ≤ (x5_1 : Int) := of_decide_eq_true (by first | (with_reducible assumption) | assumption)
            have q236 : x5_1 < (l0.length : Int) := of_decide_eq_true (by first | (with_reducible assumption) | assumption)
            obtain ⟨ad236, e236, hx236_0⟩ := Kd.at_int HR0.out x5_1 p236 q236
            cases e236
            replace p236 := eq_true p236
            replace q236 := eq_true q236
            go_wp2
            go_ret
            exact ⟨by first | rfl | (simp; done) | (simp [*]; done), by repeat (first | exact Drawn0.refl _ | apply Drawn0.step)⟩
        · rw [if_neg c4] at H
          exact absurd H (by simp)
      · rw [if_neg c3] at H
        have c3b0 : decide (x5_1 < (l0.length : Int)) = false := decide_eq_false c3
        clear c3
        obtain rfl := Option.some.inj H
        go_wp2
        go_ret
        exact ⟨by first | rfl | (simp; done) | (simp [*]; done), by repeat (first | exact Drawn0.refl _ | apply Drawn0.step)⟩

/-! ### laws_heldIntSS: function 23 -/
def laws_heldIntSS.l0 : Nat → List (List Int) → Int → Int → Option (Int)
  | 0, _, _, _ => none
  | k + 1, x0, x1, x5 => if x5 < (x0.length : Int) then (if 0 ≤ x5 then ((laws_heldIntS.f k (rd_L1 x0 x5) x1).bind fun t238 => (if t238 < 0 then (some (-1)) else (laws_heldIntSS.l0 k x0 t238 (wrap64 (x5 + 1))))) else (none)) else (some x1)
def laws_heldIntSS.f (k : Nat) (l0 : List (List Int)) (a1 : Int) : Option (Int) := laws_heldIntSS.l0 k l0 a1 0
theorem laws_heldIntSS.mono_l : ∀ k, (∀ y0 y1 y2, LeO (laws_heldIntSS.l0 k y0 y1 y2) (laws_heldIntSS.l0 (k + 1) y0 y1 y2))
  | 0 => fun _ _ _ r h => by simp [laws_heldIntSS.l0] at h
  | k + 1 => by
    have ih0 := laws_heldIntSS.mono_l k
    · intro y0 y1 y2
      unfold laws_heldIntSS.l0
      repeat' first
      | (with_reducible exact ih0 _ _ _)
      | (with_reducible exact laws_heldIntS.mono _ _ _)
      | (with_reducible exact LeO.refl _)
      | (with_reducible exact LeO.none _)
      | (with_reducible refine LeO.ite ?_ ?_)
      | (with_reducible refine LeO.bind ?_ (fun _ => ?_))
      | exact ih0 _ _ _
      | exact laws_heldIntS.mono _ _ _
      | exact LeO.none _
      | refine LeO.ite ?_ ?_
      | refine LeO.bind ?_ (fun _ => ?_)
theorem laws_heldIntSS.mono : ∀ a0 a1 k, LeO (laws_heldIntSS.f k a0 a1) (laws_heldIntSS.f (k + 1) a0 a1) := by
  intro a0 a1 k
  have ih0 := laws_heldIntSS.mono_l k
  unfold laws_heldIntSS.f
  repeat' first
      | (with_reducible exact ih0 _ _ _)
      | (with_reducible exact laws_heldIntS.mono _ _ _)
      | (with_reducible exact LeO.refl _)
      | (with_reducible exact LeO.none _)
      | (with_reducible refine LeO.ite ?_ ?_)
      | (with_reducible refine LeO.bind ?_ (fun _ => ?_))
      | exact ih0 _ _ _
      | exact laws_heldIntS.mono _ _ _
      | exact LeO.none _
      | refine LeO.ite ?_ ?_
      | refine LeO.bind ?_ (fun _ => ?_)
set_option maxHeartbeats 8000000 in
set_option maxRecDepth 100000 in
theorem laws_heldIntSS.calls (k : Nat) (A0 : Option Addr) (c0 : Nat) (l0 : List (List Int)) (a1 : Int) (r : Int) (w : World) (hr0 : Kd.C (Kd.slice 3 (Kd.int .i64)) w A0 l0.length l0) (hc0 : l0.length ≤ c0) (h : laws_heldIntSS.f k l0 a1 = some r) :
    Calls Try.prog 23 #[.slice A0 l0.length c0, .int .i64 a1] w fun e w' => e = .returned (.int .i64 r) ∧ Drawn0 w w' := by
  have HR0 := Aside0.mk hr0
  have HC0 := Aside0.mk hc0
  clear hr0 hc0
  have H : (laws_heldIntSS.l0 k l0 a1 0) = some r := h
  clear h
  have H' := Aside0.mk H
  clear H
  go_enter Try.func23, Try.ntmps23
  go_wp2
  go_loopg [1, 5] k (fun kq v1 v5 w' => ∃ (x1_1 : Int) (x5_1 : Int), v1 = .int .i64 x1_1 ∧ v5 = .int .i64 x5_1 ∧ Aside0 (laws_heldIntSS.l0 kq l0 x1_1 x5_1 = some r) ∧ Aside0 (kq ≤ k) ∧ Drawn0 w w')
  case atStart => exact ⟨(a1), (0), (by first | rfl | (simp; done) | (simp [*]; done)), (by first | rfl | (simp; done) | (simp [*]; done)), H', ⟨Nat.le_refl _⟩, by repeat (first | exact Drawn0.refl _ | apply Drawn0.step)⟩
  case round =>
    clear H'
    try clear c2
    try clear p2
    obtain ⟨x1_1, x5_1, rfl, rfl, HA, HK1, ⟨m1, rfl⟩⟩ := hrel
    cases gk with
    | zero => exact absurd HA.out (by simp [laws_heldIntSS.l0])
    | succ k1 =>
      have H := HA.out
      clear HA
      simp only [laws_heldIntSS.l0] at H
      by_cases c3 : x5_1 < (l0.length : Int)
      · rw [if_pos c3] at H
        have c3b0 : decide (x5_1 < (l0.length : Int)) = true := decide_eq_true c3
        clear c3
        by_cases c4 : 0 ≤ x5_1
        · rw [if_pos c4] at H
          have c4b0 : decide (0 ≤ x5_1) = true := decide_eq_true c4
          clear c4
          replace H := Option.bind_eq_some_iff.mp H
          obtain ⟨t238, A50, H⟩ := H
          replace H : (if t238 < 0 then (some (-1)) else (laws_heldIntSS.l0 k1 l0 t238 (wrap64 (x5_1 + 1)))) = some r := H
          have A5 := Aside0.mk A50
          clear A50
          by_cases c6 : t238 < 0
          · rw [if_pos c6] at H
            have c6b0 : decide (t238 < 0) = true := decide_eq_true c6
            clear c6
            obtain rfl := Option.some.inj H
            have p237 : 0 ≤ (x5_1 : Int) := of_decide_eq_true (by first | (with_reducible assumption) | assumption)
            have q237 : x5_1 < (l0.length : Int) := of_decide_eq_true (by first | (with_reducible assumption) | assumption)
            obtain ⟨ad237, A237_0, c237_0, e237, hx237_0, hl237_0, hi237_0⟩ := at_L1 HR0.out x5_1 p237 q237
            cases e237
            have HR237_0 := Aside0.mk hi237_0
            have HC237_0 := Aside0.mk hl237_0
            clear hi237_0 hl237_0
            replace p237 := eq_true p237
            replace q237 := eq_true q237
            go_wp2_with (first | ((with_reducible refine gate_callee (f := 18) rfl ?_); refine goesL_ (some 17) rfl rfl Try.func18 (by kernel_rfl) rfl #[.slice A237_0 (rd_L1 l0 x5_1).length c237_0, .int .i64 x1_1] rfl (by (try simp only [List.map_toArray, List.map_cons, List.map_nil]); first | done | rfl | (simp only [List.length_drop, List.length_take]; rfl)) ?_; (with_reducible refine (laws_heldIntS.calls k1 _ _ (rd_L1 l0 x5_1) x1_1 t238 _ ?side1 ?side2 A5.out).mono ?_); (case side1 => repeat (first | exact HR237_0.out | (with_reducible refine Kd.C_alloc ?_ _) | (with_reducible refine Kd.C_drewN ?_ _) | (with_reducible refine Kd.C_drew ?_))); (case side2 => exact HC237_0.out); rintro e w' ⟨rfl, ⟨nd, rfl⟩⟩; refine ⟨_, rfl, ?_⟩))
            go_ret
            exact ⟨by first | rfl | (simp; done) | (simp [*]; done), by repeat (first | exact Drawn0.refl _ | apply Drawn0.step)⟩
          · rw [if_neg c6] at H
            have c6b0 : decide (t238 < 0) = false := decide_eq_false c6
            clear c6
            have H' := Aside0.mk H
            clear H
            have p237 : 0 ≤ (x5_1 : Int) := of_decide_eq_true (by first | (with_reducible assumption) | assumption)
            have q237 : x5_1 < (l0.length : Int) := of_decide_eq_true (by first | (with_reducible assumption) | assumption)
            obtain ⟨ad237, A237_0, c237_0, e237, hx237_0, hl237_0, hi237_0⟩ := at_L1 HR0.out x5_1 p237 q237
            cases e237
            have HR237_0 := Aside0.mk hi237_0
            have HC237_0 := Aside0.mk hl237_0
            clear hi237_0 hl237_0
            replace p237 := eq_true p237
            replace q237 := eq_true q237
            go_wp2_with (first | ((with_reducible refine gate_callee (f := 18) rfl ?_); refine goesL_ (some 17) rfl rfl Try.func18 (by kernel_rfl) rfl #[.slice A237_0 (rd_L1 l0 x5_1).length c237_0, .int .i64 x1_1] rfl (by (try simp only [List.map_toArray, List.map_cons, List.map_nil]); first | done | rfl | (simp only [List.length_drop, List.length_take]; rfl)) ?_; (with_reducible refine (laws_heldIntS.calls k1 _ _ (rd_L1 l0 x5_1) x1_1 t238 _ ?side1 ?side2 A5.out).mono ?_); (case side1 => repeat (first | exact HR237_0.out | (with_reducible refine Kd.C_alloc ?_ _) | (with_reducible refine Kd.C_drewN ?_ _) | (with_reducible refine Kd.C_drew ?_))); (case side2 => exact HC237_0.out); rintro e w' ⟨rfl, ⟨nd, rfl⟩⟩; refine ⟨_, rfl, ?_⟩))
            go_roundg k1
            case measure => have := HK1.out; omega
            case rel => exact ⟨(t238), (wrap64 (x5_1 + 1)), (by first | rfl | (simp; done) | (simp [*]; done)), (by first | rfl | (simp; done) | (simp [*]; done)), H', ⟨by have := HK1.out; omega⟩, by repeat (first | exact Drawn0.refl _ | apply Drawn0.step)⟩
        · rw [if_neg c4] at H
          exact absurd H (by simp)
      · rw [if_neg c3] at H
        have c3b0 : decide (x5_1 < (l0.length : Int)) = false := decide_eq_false c3
        clear c3
        obtain rfl := Option.some.inj H
        go_wp2
        go_ret
        exact ⟨by first | rfl | (simp; done) | (simp [*]; done), by repeat (first | exact Drawn0.refl _ | apply Drawn0.step)⟩

-- NOT PRINTED: function 5 (laws_FnExactGroupsOf)

end Go.Proofs.Yteokbemieooeaaa.PFnExactGroupsOf
