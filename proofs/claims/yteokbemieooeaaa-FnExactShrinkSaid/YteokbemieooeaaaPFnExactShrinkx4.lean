-- Written for this claim by the session's own program (drive.py), over the kit's print, with contracts typed by hand.
import Derived.Test.YteokbemieooeaaaPFnExactShrinkx0
import Derived.Test.YteokbemieooeaaaPFnExactShrinkx2
import Derived.Test.YteokbemieooeaaaPFnExactShrinkx3
namespace Go.Proofs.Yteokbemieooeaaa.PFnExactShrink
open Go.RowKit Go.Proofs.YteokbemieooeaaaW.PrintWords Go.Proofs.YteokbemieooeaaaW.PrintLast Go.Proofs.YteokbemieooeaaaW.PrintMore
attribute [local go_sem] max2_int min2_int max_two min_two max_three min_three max_four min_four   -- for this text's walks alone
set_option linter.unusedVariables false
set_option linter.unusedSimpArgs false

/-! ### spec_l9Groups: function 39, by hand -/
def spec_l9Groups.ready (k : Nat) (done g : List Int) : List Int → Bool → Option Bool
  | [], b => some b
  | x :: xs, b => if b = true then ((spec_l1Has.f k done x).bind fun t => if t = true then spec_l9Groups.ready k done g xs true else (spec_l1Has.f k g x).bind fun u => spec_l9Groups.ready k done g xs u) else spec_l9Groups.ready k done g xs false
def spec_l9Groups.put (k : Nat) : List Int → List Int → Option (List Int)
  | [], done => some done
  | x :: xs, done => (spec_l1Put.f k done x).bind fun d => spec_l9Groups.put k xs d
def spec_l9Groups.find (k : Nat) (l : List (List Int)) (done : List Int) : Nat → Nat → Option (Option (List Int))
  | 0, _ => some none
  | d + 1, i => (spec_l1Has.f k done (i : Int)).bind fun t => if t = true then spec_l9Groups.find k l done d (i + 1) else (spec_l9Group.f k l (i : Int)).bind fun g => (spec_l9Reach.f k l (i : Int)).bind fun xs => (spec_l9Groups.ready k done g xs true).bind fun b => if b = true then some (some g) else spec_l9Groups.find k l done d (i + 1)
def spec_l9Groups.go (k : Nat) (l : List (List Int)) : Nat → List (List Int) → List Int → Option (List (List Int))
  | 0, out, done => if done.length < l.length then none else some out
  | d + 1, out, done => if done.length < l.length then (spec_l9Groups.find k l done l.length 0).bind fun og => og.bind fun g => (spec_l9Groups.put k g done).bind fun done' => spec_l9Groups.go k l d (out ++ [g]) done' else some out
def spec_l9Groups.f (k : Nat) (l0 : List (List Int)) : Option (List (List Int)) := if l0.length ≤ 12 then spec_l9Groups.go k l0 12 [] [] else none
theorem spec_l9Groups.ready_mono (k : Nat) (done g : List Int) : ∀ xs b, LeO (spec_l9Groups.ready k done g xs b) (spec_l9Groups.ready (k + 1) done g xs b)
  | [], b => by
    rw [spec_l9Groups.ready, spec_l9Groups.ready]
    exact LeO.refl _
  | x :: xs, b => by
    have ih := spec_l9Groups.ready_mono k done g xs
    rw [spec_l9Groups.ready, spec_l9Groups.ready]
    refine LeO.ite (LeO.bind (spec_l1Has.mono _ _ k) fun t => ?_) (ih _)
    exact LeO.ite (ih _) (LeO.bind (spec_l1Has.mono _ _ k) fun u => ih u)
theorem spec_l9Groups.put_mono (k : Nat) : ∀ xs done, LeO (spec_l9Groups.put k xs done) (spec_l9Groups.put (k + 1) xs done)
  | [], done => by
    rw [spec_l9Groups.put, spec_l9Groups.put]
    exact LeO.refl _
  | x :: xs, done => by
    have ih := spec_l9Groups.put_mono k xs
    rw [spec_l9Groups.put, spec_l9Groups.put]
    exact LeO.bind (spec_l1Put.mono _ _ k) fun d => ih d
theorem spec_l9Groups.find_mono (k : Nat) (l : List (List Int)) (done : List Int) : ∀ d i, LeO (spec_l9Groups.find k l done d i) (spec_l9Groups.find (k + 1) l done d i)
  | 0, i => by
    rw [spec_l9Groups.find, spec_l9Groups.find]
    exact LeO.refl _
  | d + 1, i => by
    have ih := spec_l9Groups.find_mono k l done d (i + 1)
    rw [spec_l9Groups.find, spec_l9Groups.find]
    refine LeO.bind (spec_l1Has.mono _ _ k) fun t => LeO.ite ih ?_
    refine LeO.bind (spec_l9Group.mono _ _ k) fun g => LeO.bind (spec_l9Reach.mono _ _ k) fun xs => LeO.bind (spec_l9Groups.ready_mono k done g xs true) fun b => ?_
    exact LeO.ite (LeO.refl _) ih
theorem spec_l9Groups.go_mono (k : Nat) (l : List (List Int)) : ∀ d out done, LeO (spec_l9Groups.go k l d out done) (spec_l9Groups.go (k + 1) l d out done)
  | 0, out, done => by
    rw [spec_l9Groups.go, spec_l9Groups.go]
    exact LeO.refl _
  | d + 1, out, done => by
    have ih := spec_l9Groups.go_mono k l d
    rw [spec_l9Groups.go, spec_l9Groups.go]
    refine LeO.ite (LeO.bind (spec_l9Groups.find_mono k l done _ _) fun og => LeO.bind (LeO.refl _) fun g => LeO.bind (spec_l9Groups.put_mono k g done) fun done' => ih _ _) (LeO.refl _)
theorem spec_l9Groups.mono : ∀ a0 k, LeO (spec_l9Groups.f k a0) (spec_l9Groups.f (k + 1) a0) := fun a0 k => by
  unfold spec_l9Groups.f
  exact LeO.ite (spec_l9Groups.go_mono k a0 12 [] []) (LeO.none _)
/-- What is kept while groups are told by the reference: nobody writes into what is told done. -/
def h_SG (w0 w : World) (out : List (List Int)) (done : List Int) (vo vd : Value) : Prop :=
  ∃ O P : Nat → Prop, (∀ k, O k → ¬ P k) ∧ Kd.S (Kd.slice 3 (Kd.int .i64)) 24 w w0.heap.size O vo out ∧ Kd.V (Kd.int .i64) 3 w w0.heap.size P vd done ∧ Below w0.heap.size w0 w
theorem h_at {w : World} {A : Option Addr} {xs : List Int} (h : Kd.C (Kd.int .i64) w A xs.length xs) (j : Nat) (hj : j < xs.length) : ∃ ad, A = some ad ∧ w.cell? (ad.add j) = some (.int .i64 (xs.getD j 0)) := by
  obtain ⟨ad, e, hc⟩ := Kd.at_int h (j : Int) (by omega) (by omega)
  rw [Int.toNat_natCast] at hc
  exact ⟨ad, e, by simpa [rd] using hc⟩
theorem h_drop (xs : List Int) (j : Nat) (hj : j < xs.length) : xs.drop j = xs.getD j 0 :: xs.drop (j + 1) := by
  rw [List.drop_eq_getElem_cons hj]
  simp [List.getD, List.getElem?_eq_getElem hj]
set_option maxHeartbeats 16000000 in
set_option maxRecDepth 100000 in
theorem h_sgroups (k : Nat) (A0 : Option Addr) (c0 : Nat) (l0 : List (List Int)) (r : List (List Int)) (w : World) (hr0 : Kd.C (Kd.slice 3 (Kd.int .i64)) w A0 l0.length l0) (hc0 : l0.length ≤ c0) (h : spec_l9Groups.f k l0 = some r) :
    Calls Try.prog 39 #[.slice A0 l0.length c0] w fun e w' => ∃ v0_ : Value, e = .returned v0_ ∧ Kd.S (Kd.slice 3 (Kd.int .i64)) 24 w' w.heap.size (fun _ => True) v0_ r ∧ Below w.heap.size w w' := by
  unfold spec_l9Groups.f at h
  by_cases h12 : l0.length ≤ 12
  rotate_left
  · rw [if_neg h12] at h
    cases h
  rw [if_pos h12] at h
  have HG := Lib.hid (show ∀ (i : Int) (rs : List Int) (W : World), Below w.heap.size w W → spec_l9Group.f k l0 i = some rs → Calls Try.prog 68 #[.slice A0 l0.length c0, .int .i64 i] W _ from fun i rs W hb hi => spec_l9Group.calls k A0 c0 l0 i rs W (Kd.C_below hr0 hb) hc0 hi)
  have HX := Lib.hid (show ∀ (i : Int) (rs : List Int) (W : World), Below w.heap.size w W → spec_l9Reach.f k l0 i = some rs → Calls Try.prog 69 #[.slice A0 l0.length c0, .int .i64 i] W _ from fun i rs W hb hi => spec_l9Reach.calls k A0 c0 l0 i rs W (Kd.C_below hr0 hb) hc0 hi)
  have H0 := Aside0.mk h
  clear hr0 hc0 h
  go_enter Try.func39, Try.ntmps39
  go_wp2
  go_loopg [3, 4] 12 (fun gg s3 s4 wr => ∃ (out : List (List Int)) (done : List Int) (vo vd : Value), vo = s3 ∧ vd = s4 ∧ out.length + gg ≤ 12 ∧ Aside0 (spec_l9Groups.go k l0 gg out done = some r) ∧ Aside0 (h_SG w wr out done vo vd))
  case atStart => exact ⟨[], [], _, _, rfl, rfl, by simp, H0, ⟨fun _ => False, fun _ => False, fun _ h_ => h_.elim, Kd.S_nil _ _ _ _ _, Kd.V_nil _ _ _ _ _, Below.refl _ _⟩⟩
  case round =>
    clear H0
    obtain ⟨out, done, vo, vd, rfl, rfl, hol, HGO, HSG⟩ := hrel
    obtain ⟨Ad, cd, rfl⟩ : ∃ Ad cd, vd = .slice Ad done.length cd := by
      obtain ⟨O, P, _, _, hV, _⟩ := HSG.out
      exact Kd.V_slice hV
    by_cases hdl : done.length < l0.length
    · have hdlz : (done.length : Int) < (l0.length : Int) := by omega
      have h := HGO.out
      obtain ⟨d, rfl⟩ : ∃ d, gk = d + 1 := by
        cases gk with
        | zero => rw [spec_l9Groups.go, if_pos hdl] at h; cases h
        | succ d => exact ⟨d, rfl⟩
      rw [spec_l9Groups.go, if_pos hdl] at h
      obtain ⟨og, hfind, h⟩ := Option.bind_eq_some_iff.1 h
      obtain ⟨g, hog, h2⟩ := Option.bind_eq_some_iff.1 h
      subst hog
      obtain ⟨doneF, hput, h3⟩ := Option.bind_eq_some_iff.1 h2
      have HF := Aside0.mk hfind
      have HPUT := Aside0.mk hput
      have HGN := Aside0.mk h3
      clear HGO hfind hput h h2 h3
      go_wp2
      go_loopg [3, 4, 19] l0.length (fun gg s3 s4 s19 wr => ∃ (i : Nat), vo = s3 ∧ s4 = .slice Ad done.length cd ∧ s19 = .int .i64 i ∧ i ≤ l0.length ∧ l0.length - i ≤ gg ∧ Aside0 (spec_l9Groups.find k l0 done (l0.length - i) i = some (some g)) ∧ Aside0 (h_SG w wr out done vo (.slice Ad done.length cd)))
      case atStart => exact ⟨0, rfl, rfl, rfl, Nat.zero_le _, by omega, HF, HSG⟩
      case round =>
        clear HF HSG
        obtain ⟨i, rfl, rfl, rfl, hil, hgg, HF, HSG⟩ := hrel
        have hlt : i < l0.length := by
          rcases Nat.lt_or_ge i l0.length with h_ | h_
          · exact h_
          · have h := HF.out
            rw [show l0.length - i = 0 by omega, spec_l9Groups.find] at h
            cases h
        have hltz : (i : Int) < (l0.length : Int) := by omega
        have h := HF.out
        rw [show l0.length - i = (l0.length - (i + 1)) + 1 by omega, spec_l9Groups.find] at h
        obtain ⟨t, ht, h⟩ := Option.bind_eq_some_iff.1 h
        obtain ⟨O, P, hOP, hS, hV, hB⟩ := HSG.out
        have hVC := Kd.V_reads' hV
        have HAS := Lib.hid (spec_l1Has.calls k Ad cd done (i : Int) t wr hVC.2.2 hVC.2.1 ht)
        cases t with
        | true =>
          rw [if_pos rfl] at h
          have HF2 := Aside0.mk h
          clear h ht hVC hS hV hB HF
          go_wp2_with (go_at_call 44; refine HAS.out.mono ?_; rintro e w2 ⟨rfl, hd⟩; have hb2 := hd.below; clear hd)
          go_roundg (l0.length - (i + 1))
          case measure => omega
          case rel =>
            obtain ⟨O, P, hOP, hS, hV, hB⟩ := HSG.out
            exact ⟨i + 1, rfl, rfl, by go_num, by omega, by omega, HF2, ⟨O, P, hOP, Kd.S_below hS hb2, ⟨Ad, cd, rfl, (Kd.V_reads' hV).2.1, Kd.F_below (Kd.V_F hV) hb2⟩, below_step hB hb2⟩⟩
        | false =>
          rw [if_neg (by simp)] at h
          obtain ⟨g2, hg2, h⟩ := Option.bind_eq_some_iff.1 h
          obtain ⟨xs, hxs, h⟩ := Option.bind_eq_some_iff.1 h
          obtain ⟨bf, hbf, h⟩ := Option.bind_eq_some_iff.1 h
          have HBo := Aside0.mk hB
          have HSo := Aside0.mk (Kd.S_bound hS)
          have HVo := Aside0.mk (Kd.F_bound (Kd.V_F hV))
          have HCl := Aside0.mk hVC.2.1
          have HGC := Lib.hid (fun (W : World) (hb : Below wr.heap.size wr W) => HG.out (i : Int) g2 W (below_step hB hb) hg2)
          have HXC := Lib.hid (fun (W : World) (hb : Below wr.heap.size wr W) => HX.out (i : Int) xs W (below_step hB hb) hxs)
          have HBF := Aside0.mk hbf
          have HNX := Aside0.mk h
          have HOP := Aside0.mk hOP
          clear hB hS hV hVC hg2 hxs hbf h hOP HSG HF ht
          go_wp2_with (first | (go_at_call 44; refine HAS.out.mono ?_; rintro e w2 ⟨rfl, hd⟩; have HB2 := Aside0.mk (show Below wr.heap.size wr w2 from hd.below); clear hd HAS) | (go_at_call 68; refine (HGC.out w2 HB2.out).mono ?_; rintro e w3 ⟨v5, rfl, hR, hb⟩; obtain ⟨Ag, cg, rfl⟩ := Kd.R_slice hR; have HRg := Aside0.mk hR; have HB3 := Aside0.mk hb; clear hR hb HGC) | (go_at_call 69; refine (HXC.out w3 (below_step HB2.out HB3.out)).mono ?_; rintro e w4 ⟨v6, rfl, hV6, hb⟩; obtain ⟨Ax, cx, rfl⟩ := Kd.V_slice hV6; have HVx := Aside0.mk hV6; have HB4 := Aside0.mk hb; clear hV6 hb HXC))
          -- all at w4
          have HB24 : Below wr.heap.size wr w4 := below_step (below_step HB2.out HB3.out) HB4.out
          have hsz2 : wr.heap.size ≤ w2.heap.size := HB2.out.size
          have HS4 := Aside0.mk (Kd.S_below HSo.out HB24)
          have HV4 := Aside0.mk (Kd.F_below HVo.out HB24)
          have HR4 := Aside0.mk (Kd.R_below HRg.out HB4.out)
          have HCx := Aside0.mk (Kd.V_reads' HVx.out).2.2
          have HBw := Aside0.mk (below_step HBo.out HB24)
          have hszw : w.heap.size ≤ wr.heap.size := HBo.out.size
          have hg5 : ∀ k_, some k_ = (.slice Ag g2.length cg : Value).ownBlock → wr.heap.size ≤ k_ ∧ k_ < w4.heap.size := fun k_ e_ => ⟨by have h_ := Kd.R_base HRg.out k_ e_.symm; omega, Kd.R_lt HR4.out k_ e_.symm⟩
          have hN4 : wr.heap.size ≤ w4.heap.size := HB24.size
          have hlow : w.heap.size ≤ w2.heap.size := by omega
          clear HSo HVo HB2 HB3 HB4 HRg HVx HBo HB24 hsz2
          generalize wr.heap.size = N at HS4 HV4 hszw hg5 hN4
          have hxl : xs.length ≤ 9223372036854775807 := HCx.out.2.1
          go_loopg [7, 32] xs.length (fun gg s7 s32 w5 => ∃ (j : Nat) (b : Bool), s7 = .bool b ∧ s32 = .int .i64 j ∧ j ≤ xs.length ∧ xs.length - j ≤ gg ∧ Aside0 (spec_l9Groups.ready k done g2 (xs.drop j) b = some bf) ∧ Aside0 (Below w4.heap.size w4 w5))
          case atStart => exact ⟨0, true, rfl, rfl, Nat.zero_le _, by omega, ⟨by rw [List.drop_zero]; exact HBF.out⟩, ⟨Below.refl _ _⟩⟩
          case round =>
            clear HBF
            obtain ⟨j, b, rfl, rfl, hjl, hgj, HRY, HB5⟩ := hrel
            by_cases hjt : j < xs.length
            · have hjz : (j : Int) < (xs.length : Int) := by omega
              have hj0 : (0 : Int) ≤ (j : Int) := by omega
              have h := HRY.out
              rw [h_drop xs j hjt, spec_l9Groups.ready] at h
              obtain ⟨ad, rfl, hx0⟩ := h_at (Kd.C_below HCx.out HB5.out) j hjt
              generalize xs.getD j 0 = x at h hx0
              cases b with
              | false =>
                rw [if_neg (by simp)] at h
                have HRN := Aside0.mk h
                clear h HRY
                go_wp2
                go_roundg (xs.length - (j + 1))
                case measure => omega
                case rel => exact ⟨j + 1, false, rfl, by go_num, by omega, by omega, HRN, HB5⟩
              | true =>
                rw [if_pos rfl] at h
                obtain ⟨t, ht, h⟩ := Option.bind_eq_some_iff.1 h
                have HA1 := Lib.hid (fun (W : World) (hb : Below w4.heap.size w4 W) => spec_l1Has.calls k Ad cd done x t W (Kd.F_now (Kd.F_below HV4.out hb)) HCl.out ht)
                cases t with
                | true =>
                  rw [if_pos rfl] at h
                  have HRN := Aside0.mk h
                  clear h HRY ht
                  go_wp2_with (first | (go_at_call 44; with_reducible refine (HA1.out _ HB5.out).mono ?_; rintro e w6 ⟨rfl, hd⟩; have HB6 := Aside0.mk (below_step HB5.out hd.below); clear hd))
                  go_roundg (xs.length - (j + 1))
                  case measure => omega
                  case rel => exact ⟨j + 1, true, rfl, by go_num, by omega, by omega, HRN, HB6⟩
                | false =>
                  rw [if_neg (by simp)] at h
                  obtain ⟨u, hu, h⟩ := Option.bind_eq_some_iff.1 h
                  have HA2 := Lib.hid (fun (W : World) (hb : Below w4.heap.size w4 W) => spec_l1Has.calls k Ag cg g2 x u W (Kd.C_below (Kd.R_reads' HR4.out).2.2 hb) (Kd.R_reads' HR4.out).2.1 hu)
                  have HRN := Aside0.mk h
                  clear h HRY ht hu
                  go_wp2_with (first | (go_at_call 44; with_reducible refine (HA1.out _ HB5.out).mono ?_; rintro e w6 ⟨rfl, hd⟩; have HB6 := Aside0.mk (below_step HB5.out hd.below); clear hd) | (go_at_call 44; with_reducible refine (HA2.out _ HB6.out).mono ?_; rintro e w7 ⟨rfl, hd⟩; have HB7 := Aside0.mk (below_step HB6.out hd.below); clear hd))
                  go_roundg (xs.length - (j + 1))
                  case measure => omega
                  case rel => exact ⟨j + 1, u, rfl, by go_num, by omega, by omega, HRN, HB7⟩
            · have hjz : ¬ (j : Int) < (xs.length : Int) := by omega
              have h := HRY.out
              rw [List.drop_of_length_le (by omega), spec_l9Groups.ready] at h
              obtain rfl := Option.some.inj h
              have hn := HNX.out
              clear h HRY HNX
              cases b with
              | false =>
                rw [if_neg (by simp)] at hn
                have HF2 := Aside0.mk hn
                clear hn
                go_wp2
                go_roundg (l0.length - (i + 1))
                case measure => omega
                case rel => exact ⟨i + 1, rfl, rfl, by go_num, by omega, by omega, HF2, ⟨O, fun k_ => P k_ ∧ k_ < N, fun k_ hk hp => HOP.out k_ hk hp.1, Kd.S_mono (Kd.S_below HS4.out HB5.out) (fun _ hk => hk.1), ⟨Ad, cd, rfl, HCl.out, Kd.F_below HV4.out HB5.out⟩, below_step HBw.out HB5.out⟩⟩
              | true =>
                rw [if_pos rfl] at hn
                obtain rfl : g2 = g := by simpa using hn
                clear hn
                have HS5 := Aside0.mk (Kd.S_below HS4.out HB5.out)
                have HV5 := Aside0.mk (Kd.F_below HV4.out HB5.out)
                have HR5 := Aside0.mk (Kd.R_tight rfl (Kd.R_lower (Kd.R_below HR4.out HB5.out) hlow))
                have HBw5 := Aside0.mk (below_step HBw.out HB5.out)
                have hsz5 : w4.heap.size ≤ wr.heap.size := HB5.out.size
                have hovo : ∀ k_, some k_ = vo.ownBlock → O k_ ∧ k_ < N := fun k_ e_ => by
                  have h_ := (Kd.S_R HS5.out).1 k_ e_.symm
                  exact ⟨h_.1, h_.2.2.1⟩
                clear HS4 HV4 HR4 HBw HB5 HCx
                go_wp2_with (first | ((with_reducible refine gate_builtin (b := .append) (xs := #[.tmp 49, .tmp 51]) rfl ?_); at_builtin; refine Kd.S_append (Kd.slice 3 (Kd.int .i64)) (w0 := w) w.heap.size rfl (.tmp 49) (.tmp 51) 22 24 (.slice none 0 0) 24 rfl Try.underlying22 info24 rfl (by decide) (by omega) vo out g2 [.slice Ag g2.length cg] (fun k_ => (O k_ ∧ k_ < N) ∨ some k_ = (.slice Ag g2.length cg : Value).ownBlock ∨ wr.heap.size ≤ k_) (fun k_ => some k_ = (.slice Ag g2.length cg : Value).ownBlock) rfl rfl ?aP ?aK ?aF ?aO ?aB ?aS ?aL ?_; (case aP => exact Kd.M_row HR5.out); (case aK => (intro k_ hk; refine ⟨.inr (.inl hk), fun e_ => ?_⟩; have h1_ := (hovo k_ e_).2; have h2_ := (hg5 k_ hk).1; omega)); (case aF => exact fun k_ hk => .inr (.inr hk)); (case aO => exact Kd.S_mono HS5.out (fun k_ hk => ⟨.inl ⟨hk.1, hk.2.2.1⟩, fun e_ => by have h1_ := (hg5 k_ e_).1; have h2_ := hk.2.2.1; omega⟩)); (case aB => exact HBw5.out); (case aS => exact HBw5.out.size); (case aL => omega); intro v9 w9 hS9 hB9 hg9 hat9; have HS9 := Aside0.mk (Kd.S_mono (ok' := fun k_ => ((O k_ ∧ k_ < N) ∨ some k_ = (.slice Ag g2.length cg : Value).ownBlock ∨ wr.heap.size ≤ k_) ∧ k_ < w9.heap.size) (Kd.S_bound hS9) (fun k_ hk => ⟨hk.1, hk.2.2.1⟩)); have HV9 := Aside0.mk (Kd.F_grown HV5.out hg9 (fun k_ hk e_ => HOP.out k_ (hovo k_ e_).1 hk.1)); have HR9 := Aside0.mk (Kd.R_reads' (Kd.R_grown HR5.out hg9 (fun k_ hk e_ => by have h1_ := (hovo k_ e_).2; have h2_ := (hg5 k_ hk).1; omega))).2.2; have HB9 := Aside0.mk hB9; have hsz9 : wr.heap.size ≤ w9.heap.size := hg9.size; clear hS9 hB9 hg9 hat9))
                clear HS5 HV5 HR5 HBw5
                have hgl : g2.length ≤ 9223372036854775807 := HR9.out.2.1
                generalize wr.heap.size = M at HS9 hsz5 hsz9
                go_loopg [4, 55] g2.length (fun gg s4 s55 w10 => ∃ (j : Nat) (dn : List Int) (vd : Value), vd = s4 ∧ s55 = .int .i64 j ∧ j ≤ g2.length ∧ g2.length - j ≤ gg ∧ Aside0 (spec_l9Groups.put k (g2.drop j) dn = some doneF) ∧ Aside0 (Kd.V (Kd.int .i64) 3 w10 w.heap.size (fun k_ => (P k_ ∧ k_ < N) ∨ w9.heap.size ≤ k_) vd dn) ∧ Aside0 (Below w9.heap.size w9 w10))
                case atStart => exact ⟨0, done, _, rfl, rfl, Nat.zero_le _, by omega, ⟨by rw [List.drop_zero]; exact HPUT.out⟩, ⟨Ad, cd, rfl, HCl.out, Kd.F_mono HV9.out (fun _ hk => .inl hk)⟩, ⟨Below.refl _ _⟩⟩
                case round =>
                  clear HPUT HV9
                  obtain ⟨j2, dn, vd, rfl, rfl, hj2, hgj2, HPT, HV10, HB10⟩ := hrel
                  obtain ⟨Adn, cdn, rfl⟩ := Kd.V_slice HV10.out
                  by_cases hjt : j2 < g2.length
                  · have hjz2 : (j2 : Int) < (g2.length : Int) := by omega
                    have hj02 : (0 : Int) ≤ (j2 : Int) := by omega
                    have h := HPT.out
                    rw [h_drop g2 j2 hjt, spec_l9Groups.put] at h
                    obtain ⟨d2, hd2, h⟩ := Option.bind_eq_some_iff.1 h
                    obtain ⟨ad2, e2_, hx2⟩ := h_at (Kd.C_below HR9.out HB10.out) j2 hjt
                    generalize g2.getD j2 0 = x2 at h hx2 hd2
                    have HPC := Lib.hid (spec_l1Put.calls k (fun k_ => (P k_ ∧ k_ < N) ∨ w9.heap.size ≤ k_) Adn cdn dn x2 d2 wr HV10.out hd2)
                    have HPN := Aside0.mk h
                    have hszr : w9.heap.size ≤ wr.heap.size := HB10.out.size
                    subst e2_
                    clear h HPT hd2
                    go_wp2_with (first | (go_at_call 45; refine HPC.out.mono ?_; rintro e w11 ⟨v11, rfl, hV11, hb⟩; have HV11 := Aside0.mk hV11; have HB11 := Aside0.mk hb; clear hV11 hb HPC))
                    go_roundg (g2.length - (j2 + 1))
                    case measure => omega
                    case rel => exact ⟨j2 + 1, d2, v11, rfl, by go_num, by omega, by omega, HPN, ⟨Kd.V_mono (base := wr.heap.size) HV11.out (fun k_ hk => hk.elim id (fun h_ => .inr (Nat.le_trans hszr h_)))⟩, ⟨below_step HB10.out HB11.out⟩⟩
                  · have hjz2 : ¬ (j2 : Int) < (g2.length : Int) := by omega
                    have h := HPT.out
                    rw [List.drop_of_length_le (by omega), spec_l9Groups.put] at h
                    obtain rfl := Option.some.inj h
                    clear h HPT
                    go_wp2
                    go_roundg d
                    case measure => omega
                    case rel =>
                      refine ⟨out ++ [g2], dn, v9, _, rfl, rfl, by rw [List.length_append, List.length_singleton]; omega, HGN, ⟨_, _, ?_, Kd.S_below HS9.out HB10.out, HV10.out, below_step HB9.out HB10.out⟩⟩
                      intro k_ hk hp
                      rcases hp with hp | hp
                      · rcases hk.1 with hq | hq | hq
                        · exact HOP.out k_ hq.1 hp.1
                        · have := (hg5 k_ hq).1
                          have := hp.2
                          omega
                        · have := hp.2
                          omega
                      · have := hk.2
                        omega
    · have hdlz : ¬ (done.length : Int) < (l0.length : Int) := by omega
      have h := HGO.out
      have e_ : out = r := by
        cases gk with
        | zero => rw [spec_l9Groups.go, if_neg hdl] at h; exact Option.some.inj h
        | succ d => rw [spec_l9Groups.go, if_neg hdl] at h; exact Option.some.inj h
      subst e_
      obtain ⟨O, P, _, hS, _, hB⟩ := HSG.out
      have HS := Aside0.mk hS
      have HB := Aside0.mk hB
      clear hS hB HSG HGO h
      go_wp2
      go_ret
      exact ⟨vo, by first | rfl | simp, Kd.S_mono HS.out (fun _ _ => trivial), HB.out⟩
-- (told above)
set_option maxHeartbeats 8000000 in
set_option maxRecDepth 100000 in
theorem spec_l9Groups.calls (k : Nat) (A0 : Option Addr) (c0 : Nat) (l0 : List (List Int)) (r : List (List Int)) (w : World) (hr0 : Kd.C (Kd.slice 3 (Kd.int .i64)) w A0 l0.length l0) (hc0 : l0.length ≤ c0) (h : spec_l9Groups.f k l0 = some r) :
    Calls Try.prog 39 #[.slice A0 l0.length c0] w fun e w' => ∃ v0_ : Value, e = .returned (v0_) ∧ Kd.S (Kd.slice 3 (Kd.int .i64)) 24 w' w.heap.size (fun _ => True) v0_ r ∧ Below w.heap.size w w' := by
  exact h_sgroups k A0 c0 l0 r w hr0 hc0 h

/-! ### spec_Shrink: function 24 -/
mutual
def spec_Shrink.l0 : Nat → List (List Int) → List (List Int) → List (List Int) → List (List Int) → Int → Int → Option ((List (List Int)) × Bool)
  | 0, _, _, _, _, _, _ => none
  | k + 1, x0, x4, x5, x20, x21, x22 => if x22 < x21 then (if 0 ≤ x22 then (if x22 < (x20.length : Int) then (spec_Shrink.l1 k x0 x4 x5 x22 (rd_L1 x20 x22) ([] : List Int) x20 x21 x22 x4 (x4.length : Int) 0) else (none)) else (none)) else (some (x5, true))
def spec_Shrink.l1 : Nat → List (List Int) → List (List Int) → List (List Int) → Int → List Int → List Int → List (List Int) → Int → Int → List (List Int) → Int → Int → Option ((List (List Int)) × Bool)
  | 0, _, _, _, _, _, _, _, _, _, _, _, _ => none
  | k + 1, x0, x4, x5, x6, x7, x8, x20, x21, x22, x27, x28, x29 => if x29 < x28 then (if 0 ≤ x29 then (if x29 < (x27.length : Int) then (spec_Shrink.l2 k x0 x4 x5 x6 x7 x8 x29 (rd_L1 x27 x29) x20 x21 x22 x27 x28 x29 x7 (x7.length : Int) 0) else (none)) else (none)) else (if x5.length < 5864062014805 then (spec_Shrink.l0 k x0 x4 (x5 ++ [x8]) x20 x21 (wrap64 (x22 + 1))) else (none))
def spec_Shrink.l2 : Nat → List (List Int) → List (List Int) → List (List Int) → Int → List Int → List Int → Int → List Int → List (List Int) → Int → Int → List (List Int) → Int → Int → List Int → Int → Int → Option ((List (List Int)) × Bool)
  | 0, _, _, _, _, _, _, _, _, _, _, _, _, _, _, _, _, _ => none
  | k + 1, x0, x4, x5, x6, x7, x8, x9, x10, x20, x21, x22, x27, x28, x29, x34, x35, x36 => if x36 < x35 then (if 0 ≤ x36 then (if x36 < (x34.length : Int) then (if 0 ≤ (rd x34 x36) then (if (rd x34 x36) < (x0.length : Int) then (spec_Shrink.l3 k x0 x4 x5 x6 x7 x8 x9 x10 x20 x21 x22 x27 x28 x29 x34 x35 x36 (rd_L1 x0 (rd x34 x36)) ((rd_L1 x0 (rd x34 x36)).length : Int) 0) else (none)) else (none)) else (none)) else (none)) else (spec_Shrink.l1 k x0 x4 x5 x6 x7 x8 x20 x21 x22 x27 x28 (wrap64 (x29 + 1)))
def spec_Shrink.l3 : Nat → List (List Int) → List (List Int) → List (List Int) → Int → List Int → List Int → Int → List Int → List (List Int) → Int → Int → List (List Int) → Int → Int → List Int → Int → Int → List Int → Int → Int → Option ((List (List Int)) × Bool)
  | 0, _, _, _, _, _, _, _, _, _, _, _, _, _, _, _, _, _, _, _, _ => none
  | k + 1, x0, x4, x5, x6, x7, x8, x9, x10, x20, x21, x22, x27, x28, x29, x34, x35, x36, x43, x44, x45 => if x45 < x44 then (if 0 ≤ x45 then (if x45 < (x43.length : Int) then (if x9 = x6 then (spec_Shrink.l3 k x0 x4 x5 x6 x7 x8 x9 x10 x20 x21 x22 x27 x28 x29 x34 x35 x36 x43 x44 (wrap64 (x45 + 1))) else ((spec_l1Has.f k x10 (rd x43 x45)).bind fun t219 => (if t219 = true then ((spec_l1Put.f k x8 x9).bind fun t220 => (spec_Shrink.l3 k x0 x4 x5 x6 x7 t220 x9 x10 x20 x21 x22 x27 x28 x29 x34 x35 x36 x43 x44 (wrap64 (x45 + 1)))) else (spec_Shrink.l3 k x0 x4 x5 x6 x7 x8 x9 x10 x20 x21 x22 x27 x28 x29 x34 x35 x36 x43 x44 (wrap64 (x45 + 1)))))) else (none)) else (none)) else (spec_Shrink.l2 k x0 x4 x5 x6 x7 x8 x9 x10 x20 x21 x22 x27 x28 x29 x34 x35 (wrap64 (x36 + 1)))
end
def spec_Shrink.f (k : Nat) (l0 : List (List Int)) : Option ((List (List Int)) × Bool) := (spec_GoodLinks.f k l0).bind fun t207 => (if t207 = true then ((spec_l9Groups.f k l0).bind fun t208 => (spec_Shrink.l0 k l0 t208 ([] : List (List Int)) t208 (t208.length : Int) 0)) else (some (([] : List (List Int)), false)))
theorem spec_Shrink.mono_l : ∀ k, (∀ y0 y1 y2 y3 y4 y5, LeO (spec_Shrink.l0 k y0 y1 y2 y3 y4 y5) (spec_Shrink.l0 (k + 1) y0 y1 y2 y3 y4 y5)) ∧ (∀ y0 y1 y2 y3 y4 y5 y6 y7 y8 y9 y10 y11, LeO (spec_Shrink.l1 k y0 y1 y2 y3 y4 y5 y6 y7 y8 y9 y10 y11) (spec_Shrink.l1 (k + 1) y0 y1 y2 y3 y4 y5 y6 y7 y8 y9 y10 y11)) ∧ (∀ y0 y1 y2 y3 y4 y5 y6 y7 y8 y9 y10 y11 y12 y13 y14 y15 y16, LeO (spec_Shrink.l2 k y0 y1 y2 y3 y4 y5 y6 y7 y8 y9 y10 y11 y12 y13 y14 y15 y16) (spec_Shrink.l2 (k + 1) y0 y1 y2 y3 y4 y5 y6 y7 y8 y9 y10 y11 y12 y13 y14 y15 y16)) ∧ (∀ y0 y1 y2 y3 y4 y5 y6 y7 y8 y9 y10 y11 y12 y13 y14 y15 y16 y17 y18 y19, LeO (spec_Shrink.l3 k y0 y1 y2 y3 y4 y5 y6 y7 y8 y9 y10 y11 y12 y13 y14 y15 y16 y17 y18 y19) (spec_Shrink.l3 (k + 1) y0 y1 y2 y3 y4 y5 y6 y7 y8 y9 y10 y11 y12 y13 y14 y15 y16 y17 y18 y19))
  | 0 => ⟨fun _ _ _ _ _ _ r h => by simp [spec_Shrink.l0] at h, fun _ _ _ _ _ _ _ _ _ _ _ _ r h => by simp [spec_Shrink.l1] at h, fun _ _ _ _ _ _ _ _ _ _ _ _ _ _ _ _ _ r h => by simp [spec_Shrink.l2] at h, fun _ _ _ _ _ _ _ _ _ _ _ _ _ _ _ _ _ _ _ _ r h => by simp [spec_Shrink.l3] at h⟩
  | k + 1 => by
    obtain ⟨ih0, ih1, ih2, ih3⟩ := spec_Shrink.mono_l k
    refine ⟨?_, ?_, ?_, ?_⟩
    · intro y0 y1 y2 y3 y4 y5
      unfold spec_Shrink.l0
      repeat' first
      | (with_reducible exact ih0 _ _ _ _ _ _)
      | (with_reducible exact ih1 _ _ _ _ _ _ _ _ _ _ _ _)
      | (with_reducible exact ih2 _ _ _ _ _ _ _ _ _ _ _ _ _ _ _ _ _)
      | (with_reducible exact ih3 _ _ _ _ _ _ _ _ _ _ _ _ _ _ _ _ _ _ _ _)
      | (with_reducible exact spec_GoodLinks.mono _ _)
      | (with_reducible exact spec_l1Has.mono _ _ _)
      | (with_reducible exact spec_l1Put.mono _ _ _)
      | (with_reducible exact spec_l9Groups.mono _ _)
      | (with_reducible exact LeO.refl _)
      | (with_reducible exact LeO.none _)
      | (with_reducible refine LeO.ite ?_ ?_)
      | (with_reducible refine LeO.bind ?_ (fun _ => ?_))
      | exact ih0 _ _ _ _ _ _
      | exact ih1 _ _ _ _ _ _ _ _ _ _ _ _
      | exact ih2 _ _ _ _ _ _ _ _ _ _ _ _ _ _ _ _ _
      | exact ih3 _ _ _ _ _ _ _ _ _ _ _ _ _ _ _ _ _ _ _ _
      | exact spec_GoodLinks.mono _ _
      | exact spec_l1Has.mono _ _ _
      | exact spec_l1Put.mono _ _ _
      | exact spec_l9Groups.mono _ _
      | exact LeO.none _
      | refine LeO.ite ?_ ?_
      | refine LeO.bind ?_ (fun _ => ?_)
    · intro y0 y1 y2 y3 y4 y5 y6 y7 y8 y9 y10 y11
      unfold spec_Shrink.l1
      repeat' first
      | (with_reducible exact ih0 _ _ _ _ _ _)
      | (with_reducible exact ih1 _ _ _ _ _ _ _ _ _ _ _ _)
      | (with_reducible exact ih2 _ _ _ _ _ _ _ _ _ _ _ _ _ _ _ _ _)
      | (with_reducible exact ih3 _ _ _ _ _ _ _ _ _ _ _ _ _ _ _ _ _ _ _ _)
      | (with_reducible exact spec_GoodLinks.mono _ _)
      | (with_reducible exact spec_l1Has.mono _ _ _)
      | (with_reducible exact spec_l1Put.mono _ _ _)
      | (with_reducible exact spec_l9Groups.mono _ _)
      | (with_reducible exact LeO.refl _)
      | (with_reducible exact LeO.none _)
      | (with_reducible refine LeO.ite ?_ ?_)
      | (with_reducible refine LeO.bind ?_ (fun _ => ?_))
      | exact ih0 _ _ _ _ _ _
      | exact ih1 _ _ _ _ _ _ _ _ _ _ _ _
      | exact ih2 _ _ _ _ _ _ _ _ _ _ _ _ _ _ _ _ _
      | exact ih3 _ _ _ _ _ _ _ _ _ _ _ _ _ _ _ _ _ _ _ _
      | exact spec_GoodLinks.mono _ _
      | exact spec_l1Has.mono _ _ _
      | exact spec_l1Put.mono _ _ _
      | exact spec_l9Groups.mono _ _
      | exact LeO.none _
      | refine LeO.ite ?_ ?_
      | refine LeO.bind ?_ (fun _ => ?_)
    · intro y0 y1 y2 y3 y4 y5 y6 y7 y8 y9 y10 y11 y12 y13 y14 y15 y16
      unfold spec_Shrink.l2
      repeat' first
      | (with_reducible exact ih0 _ _ _ _ _ _)
      | (with_reducible exact ih1 _ _ _ _ _ _ _ _ _ _ _ _)
      | (with_reducible exact ih2 _ _ _ _ _ _ _ _ _ _ _ _ _ _ _ _ _)
      | (with_reducible exact ih3 _ _ _ _ _ _ _ _ _ _ _ _ _ _ _ _ _ _ _ _)
      | (with_reducible exact spec_GoodLinks.mono _ _)
      | (with_reducible exact spec_l1Has.mono _ _ _)
      | (with_reducible exact spec_l1Put.mono _ _ _)
      | (with_reducible exact spec_l9Groups.mono _ _)
      | (with_reducible exact LeO.refl _)
      | (with_reducible exact LeO.none _)
      | (with_reducible refine LeO.ite ?_ ?_)
      | (with_reducible refine LeO.bind ?_ (fun _ => ?_))
      | exact ih0 _ _ _ _ _ _
      | exact ih1 _ _ _ _ _ _ _ _ _ _ _ _
      | exact ih2 _ _ _ _ _ _ _ _ _ _ _ _ _ _ _ _ _
      | exact ih3 _ _ _ _ _ _ _ _ _ _ _ _ _ _ _ _ _ _ _ _
      | exact spec_GoodLinks.mono _ _
      | exact spec_l1Has.mono _ _ _
      | exact spec_l1Put.mono _ _ _
      | exact spec_l9Groups.mono _ _
      | exact LeO.none _
      | refine LeO.ite ?_ ?_
      | refine LeO.bind ?_ (fun _ => ?_)
    · intro y0 y1 y2 y3 y4 y5 y6 y7 y8 y9 y10 y11 y12 y13 y14 y15 y16 y17 y18 y19
      unfold spec_Shrink.l3
      repeat' first
      | (with_reducible exact ih0 _ _ _ _ _ _)
      | (with_reducible exact ih1 _ _ _ _ _ _ _ _ _ _ _ _)
      | (with_reducible exact ih2 _ _ _ _ _ _ _ _ _ _ _ _ _ _ _ _ _)
      | (with_reducible exact ih3 _ _ _ _ _ _ _ _ _ _ _ _ _ _ _ _ _ _ _ _)
      | (with_reducible exact spec_GoodLinks.mono _ _)
      | (with_reducible exact spec_l1Has.mono _ _ _)
      | (with_reducible exact spec_l1Put.mono _ _ _)
      | (with_reducible exact spec_l9Groups.mono _ _)
      | (with_reducible exact LeO.refl _)
      | (with_reducible exact LeO.none _)
      | (with_reducible refine LeO.ite ?_ ?_)
      | (with_reducible refine LeO.bind ?_ (fun _ => ?_))
      | exact ih0 _ _ _ _ _ _
      | exact ih1 _ _ _ _ _ _ _ _ _ _ _ _
      | exact ih2 _ _ _ _ _ _ _ _ _ _ _ _ _ _ _ _ _
      | exact ih3 _ _ _ _ _ _ _ _ _ _ _ _ _ _ _ _ _ _ _ _
      | exact spec_GoodLinks.mono _ _
      | exact spec_l1Has.mono _ _ _
      | exact spec_l1Put.mono _ _ _
      | exact spec_l9Groups.mono _ _
      | exact LeO.none _
      | refine LeO.ite ?_ ?_
      | refine LeO.bind ?_ (fun _ => ?_)
theorem spec_Shrink.mono : ∀ a0 k, LeO (spec_Shrink.f k a0) (spec_Shrink.f (k + 1) a0) := by
  intro a0 k
  obtain ⟨ih0, ih1, ih2, ih3⟩ := spec_Shrink.mono_l k
  unfold spec_Shrink.f
  repeat' first
      | (with_reducible exact ih0 _ _ _ _ _ _)
      | (with_reducible exact ih1 _ _ _ _ _ _ _ _ _ _ _ _)
      | (with_reducible exact ih2 _ _ _ _ _ _ _ _ _ _ _ _ _ _ _ _ _)
      | (with_reducible exact ih3 _ _ _ _ _ _ _ _ _ _ _ _ _ _ _ _ _ _ _ _)
      | (with_reducible exact spec_GoodLinks.mono _ _)
      | (with_reducible exact spec_l1Has.mono _ _ _)
      | (with_reducible exact spec_l1Put.mono _ _ _)
      | (with_reducible exact spec_l9Groups.mono _ _)
      | (with_reducible exact LeO.refl _)
      | (with_reducible exact LeO.none _)
      | (with_reducible refine LeO.ite ?_ ?_)
      | (with_reducible refine LeO.bind ?_ (fun _ => ?_))
      | exact ih0 _ _ _ _ _ _
      | exact ih1 _ _ _ _ _ _ _ _ _ _ _ _
      | exact ih2 _ _ _ _ _ _ _ _ _ _ _ _ _ _ _ _ _
      | exact ih3 _ _ _ _ _ _ _ _ _ _ _ _ _ _ _ _ _ _ _ _
      | exact spec_GoodLinks.mono _ _
      | exact spec_l1Has.mono _ _ _
      | exact spec_l1Put.mono _ _ _
      | exact spec_l9Groups.mono _ _
      | exact LeO.none _
      | refine LeO.ite ?_ ?_
      | refine LeO.bind ?_ (fun _ => ?_)
set_option maxHeartbeats 8000000 in
set_option maxRecDepth 100000 in
theorem spec_Shrink.calls (k : Nat) (A0 : Option Addr) (c0 : Nat) (l0 : List (List Int)) (r1 : List (List Int)) (r2 : Bool) (w : World) (hr0 : Kd.C (Kd.slice 3 (Kd.int .i64)) w A0 l0.length l0) (hc0 : l0.length ≤ c0) (h : spec_Shrink.f k l0 = some (r1, r2)) :
    Calls Try.prog 24 #[.slice A0 l0.length c0] w fun e w' => ∃ v0_ : Value, e = .returned (.tuple #[v0_, .bool r2]) ∧ Kd.N (Kd.slice 3 (Kd.int .i64)) 24 w' w.heap.size (fun k_ => (w.heap.size ≤ k_)) v0_ r1 ∧ Below w.heap.size w w' := by
  have HR0 := Aside0.mk hr0
  have HC0 := Aside0.mk hc0
  clear hr0 hc0
  have HB := Aside0.mk (Below.refl w.heap.size w)
  have H : ((spec_GoodLinks.f k l0).bind fun t207 => (if t207 = true then ((spec_l9Groups.f k l0).bind fun t208 => (spec_Shrink.l0 k l0 t208 ([] : List (List Int)) t208 (t208.length : Int) 0)) else (some (([] : List (List Int)), false)))) = some (r1, r2) := h
  clear h
  replace H := Option.bind_eq_some_iff.mp H
  obtain ⟨t207, A20, H⟩ := H
  replace H : (if t207 = true then ((spec_l9Groups.f k l0).bind fun t208 => (spec_Shrink.l0 k l0 t208 ([] : List (List Int)) t208 (t208.length : Int) 0)) else (some (([] : List (List Int)), false))) = some (r1, r2) := H
  have A2 := Aside0.mk A20
  clear A20
  by_cases c3 : t207 = true
  · subst c3
    have H1 : ((spec_l9Groups.f k l0).bind fun t208 => (spec_Shrink.l0 k l0 t208 ([] : List (List Int)) t208 (t208.length : Int) 0)) = some (r1, r2) := by rw [if_pos rfl] at H; exact H
    clear H
    have H := H1
    clear H1
    replace H := Option.bind_eq_some_iff.mp H
    obtain ⟨t208, A40, H⟩ := H
    replace H : (spec_Shrink.l0 k l0 t208 ([] : List (List Int)) t208 (t208.length : Int) 0) = some (r1, r2) := H
    have A4 := Aside0.mk A40
    clear A40
    have H' := Aside0.mk H
    clear H
    go_enter Try.func24, Try.ntmps24
    go_wp2_with (first | ((with_reducible refine gate_callee (f := 38) rfl ?_); refine goesL_ (some 16) rfl rfl Try.func38 (by kernel_rfl) rfl #[.slice A0 l0.length c0] rfl (by (try simp only [List.map_toArray, List.map_cons, List.map_nil]); first | done | rfl | (simp only [List.length_drop, List.length_take]; rfl)) ?_; (with_reducible refine (spec_GoodLinks.calls k _ _ l0 true _ ?side1 ?side2 A2.out).mono ?_); (case side1 => repeat (first | exact HR0.out | (with_reducible refine Kd.C_alloc ?_ _) | (with_reducible refine Kd.C_drewN ?_ _) | (with_reducible refine Kd.C_drew ?_))); (case side2 => exact HC0.out); rintro e w' ⟨rfl, ⟨nd, rfl⟩⟩; refine ⟨_, rfl, ?_⟩) | ((with_reducible refine gate_callee (f := 39) rfl ?_); refine goesL_ (some 19) rfl rfl Try.func39 (by kernel_rfl) rfl #[.slice A0 l0.length c0] rfl (by (try simp only [List.map_toArray, List.map_cons, List.map_nil]); first | done | rfl | (simp only [List.length_drop, List.length_take]; rfl)) ?_; (with_reducible refine (spec_l9Groups.calls k _ _ l0 t208 _ ?side1 ?side2 A4.out).mono ?_); (case side1 => repeat (first | exact HR0.out | (with_reducible refine Kd.C_alloc ?_ _) | (with_reducible refine Kd.C_drewN ?_ _) | (with_reducible refine Kd.C_drew ?_))); (case side2 => exact HC0.out); rintro e w5 ⟨v209, rfl, ho0, hb⟩; refine ⟨_, rfl, ?_⟩; have n0_ := Aside0.mk (Kd.N_lower (Kd.N_mono (ok' := fun k_ => (w.heap.size ≤ k_)) (Kd.S_N (Kd.S_bound ho0)) (fun k_ hk_ => (Nat.le_trans (below_size (by repeat (first | (with_reducible first | exact HB.out | apply below_alloc | apply pw_below_drewN | apply below_drew1) | exact HB.out))) hk_.2.1))) (below_size (by repeat (first | (with_reducible first | exact HB.out | apply below_alloc | apply pw_below_drewN | apply below_drew1) | exact HB.out)))); have n1_ := Aside0.mk (below_step (by repeat (first | (with_reducible first | exact HB.out | apply below_alloc | apply pw_below_drewN | apply below_drew1) | exact HB.out)) hb); clear HB; have HO210 := n0_; have HB := n1_; clear n0_ n1_; (try clear hb); (try clear hb2); (try clear hk); (try clear hi); (try clear ho0); obtain ⟨Ao6, co6, eo6⟩ := Kd.N_slice HO210.out; subst eo6))
    go_loopg [5, 22] k (fun kq v5 v22 w' => ∃ (x5_1 : List (List Int)) (x22_1 : Int), v22 = .int .i64 x22_1 ∧ Aside0 (spec_Shrink.l0 kq l0 t208 x5_1 t208 (t208.length : Int) x22_1 = some (r1, r2)) ∧ Aside0 (kq ≤ k) ∧ Aside0 (Kd.N (Kd.slice 3 (Kd.int .i64)) 24 w' w.heap.size (fun k_ => (w.heap.size ≤ k_) ∧ some k_ ≠ (v5 : Value).ownBlock) (.slice Ao6 t208.length co6) t208) ∧ Aside0 (Kd.N (Kd.slice 3 (Kd.int .i64)) 24 w' w.heap.size (fun k_ => (w.heap.size ≤ k_) ∧ some k_ ≠ ((.slice Ao6 t208.length co6) : Value).ownBlock ∧ some k_ ≠ ((.slice Ao6 t208.length co6) : Value).ownBlock) v5 x5_1) ∧ Aside0 (Kd.N (Kd.slice 3 (Kd.int .i64)) 24 w' w.heap.size (fun k_ => (w.heap.size ≤ k_) ∧ some k_ ≠ (v5 : Value).ownBlock) (.slice Ao6 t208.length co6) t208) ∧ Aside0 (Below w.heap.size w w'))
    case atStart => exact ⟨(([] : List (List Int))), (0), (by first | rfl | (simp; done) | (simp [*]; done)), H', ⟨Nat.le_refl _⟩, ⟨by (with_reducible repeat (first | apply Kd.N_alloc | apply Kd.N_drewN | apply Kd.N_drew)); exact Kd.N_mono HO210.out (fun _ hk => ⟨hk, (by simp [Value.ownBlock])⟩)⟩, ⟨by first | exact Kd.S_nil _ _ _ _ _ | exact Kd.N_nil _ _ _ _ _ | exact Kd.V_nil _ _ _ _ _ | exact Kd.Q_nil _ _ _ _ _ | exact Kd.R_nil _ _ _ _ _⟩, ⟨by (with_reducible repeat (first | apply Kd.N_alloc | apply Kd.N_drewN | apply Kd.N_drew)); exact Kd.N_mono HO210.out (fun _ hk => ⟨hk, (by simp [Value.ownBlock])⟩)⟩, ⟨by repeat (first | (with_reducible first | exact HB.out | apply below_alloc | apply pw_below_drewN | apply below_drew1) | exact HB.out)⟩⟩
    case round =>
      clear H'
      try clear c2
      try clear p2
      try clear c3
      obtain ⟨x5_1, x22_1, rfl, HA, HK1, HO_4, HO_5, HO_20, HB⟩ := hrel
      cases gk with
      | zero => exact absurd HA.out (by simp [spec_Shrink.l0])
      | succ k1 =>
        have H := HA.out
        clear HA
        simp only [spec_Shrink.l0] at H
        by_cases c7 : x22_1 < (t208.length : Int)
        · rw [if_pos c7] at H
          have c7b0 : decide (x22_1 < (t208.length : Int)) = true := decide_eq_true c7
          clear c7
          by_cases c8 : 0 ≤ x22_1
          · rw [if_pos c8] at H
            have c8b0 : decide (0 ≤ x22_1) = true := decide_eq_true c8
            clear c8
            by_cases c9 : x22_1 < (t208.length : Int)
            · rw [if_pos c9] at H
              have c9b0 : decide (x22_1 < (t208.length : Int)) = true := decide_eq_true c9
              clear c9
              have H' := Aside0.mk H
              clear H
              have p211 : 0 ≤ (x22_1 : Int) := of_decide_eq_true (by first | (with_reducible assumption) | assumption)
              have q211 : x22_1 < (t208.length : Int) := of_decide_eq_true (by first | (with_reducible assumption) | assumption)
              obtain ⟨ad211, A211_0, c211_0, e211, hx211_0, hl211_0, hi211_0⟩ := at_L1 (Kd.N_reads' HO_20.out).2.2 x22_1 p211 q211
              cases e211
              obtain ⟨ce211, hce211, hMe211, hcc211⟩ := Kd.N_get HO_20.out [] x22_1 p211 (by first | exact q211 | exact of_decide_eq_true (by first | (with_reducible assumption) | assumption) | (have e_ := (Kd.N_reads' HO_20.out).1; omega))
              obtain ⟨ua211_0, uc211_0, rfl, ul211_0, ge211_0⟩ := Kd.FK_slice_open hMe211
              have hv211_0 := hcc211 0 _ rfl
              rw [Nat.add_zero, show ((Kd.slice 3 (Kd.int .i64))).sz = 1 from rfl, Nat.mul_one] at hv211_0
              replace hv211_0 := Option.some.inj (hv211_0.symm.trans hx211_0)
              injection hv211_0 with hva_ hvn_ hvc_
              rw [hva_] at ge211_0
              rw [hvc_] at ul211_0
              have HL211_0 := Aside0.mk (show Kd.V (Kd.int .i64) 3 _ w.heap.size _ _ (rd_L1 t208 x22_1) from Kd.V_mk ul211_0 ge211_0)
              clear hva_ hvn_ hvc_ ge211_0 ul211_0
              clear hcc211 hce211
              have HR211_0 := Aside0.mk hi211_0
              have HC211_0 := Aside0.mk hl211_0
              clear hi211_0 hl211_0
              replace p211 := eq_true p211
              replace q211 := eq_true q211
              go_wp2
              go_loopg [8, 29] k1 (fun kq v8 v29 w' => ∃ (x8_2 : List Int) (x29_2 : Int), v29 = .int .i64 x29_2 ∧ Aside0 (spec_Shrink.l1 kq l0 t208 x5_1 x22_1 (rd_L1 t208 x22_1) x8_2 t208 (t208.length : Int) x22_1 t208 (t208.length : Int) x29_2 = some (r1, r2)) ∧ Aside0 (kq ≤ k1) ∧ Aside0 (Kd.N (Kd.slice 3 (Kd.int .i64)) 24 w' w.heap.size (fun k_ => (w.heap.size ≤ k_) ∧ some k_ ≠ (u5 : Value).ownBlock) (.slice (some ad211) t208.length co6) t208) ∧ Aside0 (Kd.N (Kd.slice 3 (Kd.int .i64)) 24 w' w.heap.size (fun k_ => (w.heap.size ≤ k_) ∧ some k_ ≠ ((.slice (some ad211) t208.length co6) : Value).ownBlock ∧ some k_ ≠ ((.slice (some ad211) t208.length co6) : Value).ownBlock ∧ some k_ ≠ ((.slice (some ad211) t208.length co6) : Value).ownBlock) u5 x5_1) ∧ Aside0 (Kd.V (Kd.int .i64) 3 w' w.heap.size (fun k_ => (w.heap.size ≤ k_) ∧ some k_ ≠ ((.slice (some ad211) t208.length co6) : Value).ownBlock ∧ some k_ ≠ (u5 : Value).ownBlock ∧ some k_ ≠ ((.slice (some ad211) t208.length co6) : Value).ownBlock ∧ some k_ ≠ ((.slice (some ad211) t208.length co6) : Value).ownBlock) v8 x8_2) ∧ Aside0 (Kd.N (Kd.slice 3 (Kd.int .i64)) 24 w' w.heap.size (fun k_ => (w.heap.size ≤ k_) ∧ some k_ ≠ (u5 : Value).ownBlock) (.slice (some ad211) t208.length co6) t208) ∧ Aside0 (Kd.N (Kd.slice 3 (Kd.int .i64)) 24 w' w.heap.size (fun k_ => (w.heap.size ≤ k_) ∧ some k_ ≠ (u5 : Value).ownBlock) (.slice (some ad211) t208.length co6) t208) ∧ Aside0 (Kd.C (Kd.int .i64) w' A211_0 (rd_L1 t208 x22_1).length (rd_L1 t208 x22_1)) ∧ Aside0 (Below w.heap.size w w'))
              case atStart => exact ⟨(([] : List Int)), (0), (by first | rfl | (simp; done) | (simp [*]; done)), H', ⟨Nat.le_refl _⟩, ⟨by (with_reducible repeat (first | apply Kd.N_alloc | apply Kd.N_drewN | apply Kd.N_drew)); exact HO_4.out⟩, ⟨by (with_reducible repeat (first | apply Kd.N_alloc | apply Kd.N_drewN | apply Kd.N_drew)); exact Kd.N_mono HO_5.out (fun _ hk => ⟨hk.1, ⟨hk.2.1, ⟨hk.2.2, hk.2.1⟩⟩⟩)⟩, ⟨Kd.R_V (base := 0) (by first | exact Kd.R_nil _ _ _ _ _ | exact Kd.N_nil _ _ _ _ _ | exact Kd.V_nil _ _ _ _ _ | exact Kd.Q_nil _ _ _ _ _ | exact Kd.S_nil _ _ _ _ _)⟩, ⟨by (with_reducible repeat (first | apply Kd.N_alloc | apply Kd.N_drewN | apply Kd.N_drew)); exact HO_20.out⟩, ⟨by (with_reducible repeat (first | apply Kd.N_alloc | apply Kd.N_drewN | apply Kd.N_drew)); exact HO_4.out⟩, ⟨by repeat (first | (with_reducible exact HR211_0.out) | (with_reducible refine Kd.C_alloc ?_ _) | (with_reducible refine Kd.C_drewN ?_ _) | (with_reducible refine Kd.C_drew ?_) | exact HR211_0.out)⟩, ⟨by repeat (first | (with_reducible first | exact HB.out | apply below_alloc | apply pw_below_drewN | apply below_drew1) | exact HB.out)⟩⟩
              case round =>
                clear H'
                try clear c2
                try clear p2
                try clear q2
                try clear hx2
                try clear c3
                try clear c7
                try clear c7b0
                try clear c8
                try clear c8b0
                try clear c9
                try clear c9b0
                try clear hx211_0
                try clear p2
                try clear p211
                try clear q211
                obtain ⟨x8_2, x29_2, rfl, HA, HK2, HO_4, HO_5, HO_8, HO_20, HO_27, HR211_0, HB⟩ := hrel
                cases gk with
                | zero => exact absurd HA.out (by simp [spec_Shrink.l1])
                | succ k2 =>
                  have H := HA.out
                  clear HA
                  simp only [spec_Shrink.l1] at H
                  by_cases c10 : x29_2 < (t208.length : Int)
                  · rw [if_pos c10] at H
                    have c10b0 : decide (x29_2 < (t208.length : Int)) = true := decide_eq_true c10
                    clear c10
                    by_cases c11 : 0 ≤ x29_2
                    · rw [if_pos c11] at H
                      have c11b0 : decide (0 ≤ x29_2) = true := decide_eq_true c11
                      clear c11
                      by_cases c12 : x29_2 < (t208.length : Int)
                      · rw [if_pos c12] at H
                        have c12b0 : decide (x29_2 < (t208.length : Int)) = true := decide_eq_true c12
                        clear c12
                        have H' := Aside0.mk H
                        clear H
                        have p215 : 0 ≤ (x29_2 : Int) := of_decide_eq_true (by first | (with_reducible assumption) | assumption)
                        have q215 : x29_2 < (t208.length : Int) := of_decide_eq_true (by first | (with_reducible assumption) | assumption)
                        obtain ⟨ad215, A215_0, c215_0, e215, hx215_0, hl215_0, hi215_0⟩ := at_L1 (Kd.N_reads' HO_27.out).2.2 x29_2 p215 q215
                        obtain rfl : ad211 = ad215 := (by injection e215)
                        obtain ⟨ce215, hce215, hMe215, hcc215⟩ := Kd.N_get HO_27.out [] x29_2 p215 (by first | exact q215 | exact of_decide_eq_true (by first | (with_reducible assumption) | assumption) | (have e_ := (Kd.N_reads' HO_27.out).1; omega))
                        obtain ⟨ua215_0, uc215_0, rfl, ul215_0, ge215_0⟩ := Kd.FK_slice_open hMe215
                        have hv215_0 := hcc215 0 _ rfl
                        rw [Nat.add_zero, show ((Kd.slice 3 (Kd.int .i64))).sz = 1 from rfl, Nat.mul_one] at hv215_0
                        replace hv215_0 := Option.some.inj (hv215_0.symm.trans hx215_0)
                        injection hv215_0 with hva_ hvn_ hvc_
                        rw [hva_] at ge215_0
                        rw [hvc_] at ul215_0
                        have HL215_0 := Aside0.mk (show Kd.V (Kd.int .i64) 3 _ w.heap.size _ _ (rd_L1 t208 x29_2) from Kd.V_mk ul215_0 ge215_0)
                        clear hva_ hvn_ hvc_ ge215_0 ul215_0
                        clear hcc215 hce215
                        have HR215_0 := Aside0.mk hi215_0
                        have HC215_0 := Aside0.mk hl215_0
                        clear hi215_0 hl215_0
                        replace p215 := eq_true p215
                        replace q215 := eq_true q215
                        go_wp2
                        go_loopg [8, 36] k2 (fun kq v8 v36 w' => ∃ (x8_3 : List Int) (x36_3 : Int), v36 = .int .i64 x36_3 ∧ Aside0 (spec_Shrink.l2 kq l0 t208 x5_1 x22_1 (rd_L1 t208 x22_1) x8_3 x29_2 (rd_L1 t208 x29_2) t208 (t208.length : Int) x22_1 t208 (t208.length : Int) x29_2 (rd_L1 t208 x22_1) ((rd_L1 t208 x22_1).length : Int) x36_3 = some (r1, r2)) ∧ Aside0 (kq ≤ k2) ∧ Aside0 (Kd.N (Kd.slice 3 (Kd.int .i64)) 24 w' w.heap.size (fun k_ => (w.heap.size ≤ k_) ∧ some k_ ≠ (u5 : Value).ownBlock) (.slice (some ad211) t208.length co6) t208) ∧ Aside0 (Kd.N (Kd.slice 3 (Kd.int .i64)) 24 w' w.heap.size (fun k_ => (w.heap.size ≤ k_) ∧ some k_ ≠ ((.slice (some ad211) t208.length co6) : Value).ownBlock ∧ some k_ ≠ ((.slice (some ad211) t208.length co6) : Value).ownBlock ∧ some k_ ≠ ((.slice (some ad211) t208.length co6) : Value).ownBlock) u5 x5_1) ∧ Aside0 (Kd.V (Kd.int .i64) 3 w' w.heap.size (fun k_ => (w.heap.size ≤ k_) ∧ some k_ ≠ ((.slice (some ad211) t208.length co6) : Value).ownBlock ∧ some k_ ≠ (u5 : Value).ownBlock ∧ some k_ ≠ ((.slice (some ad211) t208.length co6) : Value).ownBlock ∧ some k_ ≠ ((.slice (some ad211) t208.length co6) : Value).ownBlock) v8 x8_3) ∧ Aside0 (Kd.N (Kd.slice 3 (Kd.int .i64)) 24 w' w.heap.size (fun k_ => (w.heap.size ≤ k_) ∧ some k_ ≠ (u5 : Value).ownBlock) (.slice (some ad211) t208.length co6) t208) ∧ Aside0 (Kd.N (Kd.slice 3 (Kd.int .i64)) 24 w' w.heap.size (fun k_ => (w.heap.size ≤ k_) ∧ some k_ ≠ (u5 : Value).ownBlock) (.slice (some ad211) t208.length co6) t208) ∧ Aside0 (Kd.C (Kd.int .i64) w' A211_0 (rd_L1 t208 x22_1).length (rd_L1 t208 x22_1)) ∧ Aside0 (Kd.C (Kd.int .i64) w' A215_0 (rd_L1 t208 x29_2).length (rd_L1 t208 x29_2)) ∧ Aside0 (Below w.heap.size w w'))
                        case atStart => exact ⟨(x8_2), (0), (by first | rfl | (simp; done) | (simp [*]; done)), H', ⟨Nat.le_refl _⟩, ⟨by (with_reducible repeat (first | apply Kd.N_alloc | apply Kd.N_drewN | apply Kd.N_drew)); exact HO_4.out⟩, ⟨by (with_reducible repeat (first | apply Kd.N_alloc | apply Kd.N_drewN | apply Kd.N_drew)); exact HO_5.out⟩, ⟨by (with_reducible repeat (first | apply Kd.V_alloc | apply Kd.V_drewN | apply Kd.V_drew)); exact HO_8.out⟩, ⟨by (with_reducible repeat (first | apply Kd.N_alloc | apply Kd.N_drewN | apply Kd.N_drew)); exact HO_20.out⟩, ⟨by (with_reducible repeat (first | apply Kd.N_alloc | apply Kd.N_drewN | apply Kd.N_drew)); exact HO_27.out⟩, ⟨by repeat (first | (with_reducible exact HR211_0.out) | (with_reducible refine Kd.C_alloc ?_ _) | (with_reducible refine Kd.C_drewN ?_ _) | (with_reducible refine Kd.C_drew ?_) | exact HR211_0.out)⟩, ⟨by repeat (first | (with_reducible exact HR215_0.out) | (with_reducible refine Kd.C_alloc ?_ _) | (with_reducible refine Kd.C_drewN ?_ _) | (with_reducible refine Kd.C_drew ?_) | exact HR215_0.out)⟩, ⟨by repeat (first | (with_reducible first | exact HB.out | apply below_alloc | apply pw_below_drewN | apply below_drew1) | exact HB.out)⟩⟩
                        case round =>
                          clear H'
                          try clear c1
                          try clear c2
                          try clear p2
                          try clear q2
                          try clear hx2
                          try clear c3
                          try clear c7
                          try clear c7b0
                          try clear c8
                          try clear c8b0
                          try clear c9
                          try clear c9b0
                          try clear c10
                          try clear c10b0
                          try clear c11
                          try clear c11b0
                          try clear c12
                          try clear c12b0
                          try clear hx211_0
                          try clear hx215_0
                          try clear p2
                          try clear p211
                          try clear p215
                          try clear q2
                          try clear q211
                          try clear q215
                          obtain ⟨x8_3, x36_3, rfl, HA, HK3, HO_4, HO_5, HO_8, HO_20, HO_27, HR211_0, HR215_0, HB⟩ := hrel
                          cases gk with
                          | zero => exact absurd HA.out (by simp [spec_Shrink.l2])
                          | succ k3 =>
                            have H := HA.out
                            clear HA
                            simp only [spec_Shrink.l2] at H
                            by_cases c13 : x36_3 < ((rd_L1 t208 x22_1).length : Int)
                            · rw [if_pos c13] at H
                              have c13b0 : decide (x36_3 < ((rd_L1 t208 x22_1).length : Int)) = true := decide_eq_true c13
                              clear c13
                              by_cases c14 : 0 ≤ x36_3
                              · rw [if_pos c14] at H
                                have c14b0 : decide (0 ≤ x36_3) = true := decide_eq_true c14
                                clear c14
                                by_cases c15 : x36_3 < ((rd_L1 t208 x22_1).length : Int)
                                · rw [if_pos c15] at H
                                  have c15b0 : decide (x36_3 < ((rd_L1 t208 x22_1).length : Int)) = true := decide_eq_true c15
                                  clear c15
                                  by_cases c16 : 0 ≤ (rd (rd_L1 t208 x22_1) x36_3)
                                  · rw [if_pos c16] at H
                                    have c16b0 : decide (0 ≤ (rd (rd_L1 t208 x22_1) x36_3)) = true := decide_eq_true c16
                                    clear c16
                                    by_cases c17 : (rd (rd_L1 t208 x22_1) x36_3) < (l0.length : Int)
                                    · rw [if_pos c17] at H
                                      have c17b0 : decide ((rd (rd_L1 t208 x22_1) x36_3) < (l0.length : Int)) = true := decide_eq_true c17
                                      clear c17
                                      have H' := Aside0.mk H
                                      clear H
                                      have p216 : 0 ≤ (x36_3 : Int) := of_decide_eq_true (by first | (with_reducible assumption) | assumption)
                                      have q216 : x36_3 < ((rd_L1 t208 x22_1).length : Int) := of_decide_eq_true (by first | (with_reducible assumption) | assumption)
                                      obtain ⟨ad216, e216, hx216_0⟩ := Kd.at_int HR211_0.out x36_3 p216 q216
                                      cases e216
                                      try replace hx216_0 := (HB.out.cell (World.block_lt_of_cell? w _ hx216_0)).trans hx216_0
                                      replace p216 := eq_true p216
                                      replace q216 := eq_true q216
                                      have p217 : 0 ≤ ((rd (rd_L1 t208 x22_1) x36_3) : Int) := of_decide_eq_true (by first | (with_reducible assumption) | assumption)
                                      have q217 : (rd (rd_L1 t208 x22_1) x36_3) < (l0.length : Int) := of_decide_eq_true (by first | (with_reducible assumption) | assumption)
                                      obtain ⟨ad217, A217_0, c217_0, e217, hx217_0, hl217_0, hi217_0⟩ := at_L1 HR0.out (rd (rd_L1 t208 x22_1) x36_3) p217 q217
                                      cases e217
                                      try replace hx217_0 := (HB.out.cell (World.block_lt_of_cell? w _ hx217_0)).trans hx217_0
                                      have HR217_0 := Aside0.mk hi217_0
                                      have HC217_0 := Aside0.mk hl217_0
                                      clear hi217_0 hl217_0
                                      replace p217 := eq_true p217
                                      replace q217 := eq_true q217
                                      go_wp2
                                      go_loopg [8, 45] k3 (fun kq v8 v45 w' => ∃ (x8_4 : List Int) (x45_4 : Int), v45 = .int .i64 x45_4 ∧ Aside0 (spec_Shrink.l3 kq l0 t208 x5_1 x22_1 (rd_L1 t208 x22_1) x8_4 x29_2 (rd_L1 t208 x29_2) t208 (t208.length : Int) x22_1 t208 (t208.length : Int) x29_2 (rd_L1 t208 x22_1) ((rd_L1 t208 x22_1).length : Int) x36_3 (rd_L1 l0 (rd (rd_L1 t208 x22_1) x36_3)) ((rd_L1 l0 (rd (rd_L1 t208 x22_1) x36_3)).length : Int) x45_4 = some (r1, r2)) ∧ Aside0 (kq ≤ k3) ∧ Aside0 (Kd.N (Kd.slice 3 (Kd.int .i64)) 24 w' w.heap.size (fun k_ => (w.heap.size ≤ k_) ∧ some k_ ≠ (u5 : Value).ownBlock) (.slice (some ad211) t208.length co6) t208) ∧ Aside0 (Kd.N (Kd.slice 3 (Kd.int .i64)) 24 w' w.heap.size (fun k_ => (w.heap.size ≤ k_) ∧ some k_ ≠ ((.slice (some ad211) t208.length co6) : Value).ownBlock ∧ some k_ ≠ ((.slice (some ad211) t208.length co6) : Value).ownBlock ∧ some k_ ≠ ((.slice (some ad211) t208.length co6) : Value).ownBlock) u5 x5_1) ∧ Aside0 (Kd.V (Kd.int .i64) 3 w' w.heap.size (fun k_ => (w.heap.size ≤ k_) ∧ some k_ ≠ ((.slice (some ad211) t208.length co6) : Value).ownBlock ∧ some k_ ≠ (u5 : Value).ownBlock ∧ some k_ ≠ ((.slice (some ad211) t208.length co6) : Value).ownBlock ∧ some k_ ≠ ((.slice (some ad211) t208.length co6) : Value).ownBlock) v8 x8_4) ∧ Aside0 (Kd.N (Kd.slice 3 (Kd.int .i64)) 24 w' w.heap.size (fun k_ => (w.heap.size ≤ k_) ∧ some k_ ≠ (u5 : Value).ownBlock) (.slice (some ad211) t208.length co6) t208) ∧ Aside0 (Kd.N (Kd.slice 3 (Kd.int .i64)) 24 w' w.heap.size (fun k_ => (w.heap.size ≤ k_) ∧ some k_ ≠ (u5 : Value).ownBlock) (.slice (some ad211) t208.length co6) t208) ∧ Aside0 (Kd.C (Kd.int .i64) w' (some ad216) (rd_L1 t208 x22_1).length (rd_L1 t208 x22_1)) ∧ Aside0 (Kd.C (Kd.int .i64) w' A215_0 (rd_L1 t208 x29_2).length (rd_L1 t208 x29_2)) ∧ Aside0 (Below w.heap.size w w'))
                                      case atStart => exact ⟨(x8_3), (0), (by first | rfl | (simp; done) | (simp [*]; done)), H', ⟨Nat.le_refl _⟩, ⟨by (with_reducible repeat (first | apply Kd.N_alloc | apply Kd.N_drewN | apply Kd.N_drew)); exact HO_4.out⟩, ⟨by (with_reducible repeat (first | apply Kd.N_alloc | apply Kd.N_drewN | apply Kd.N_drew)); exact HO_5.out⟩, ⟨by (with_reducible repeat (first | apply Kd.V_alloc | apply Kd.V_drewN | apply Kd.V_drew)); exact HO_8.out⟩, ⟨by (with_reducible repeat (first | apply Kd.N_alloc | apply Kd.N_drewN | apply Kd.N_drew)); exact HO_20.out⟩, ⟨by (with_reducible repeat (first | apply Kd.N_alloc | apply Kd.N_drewN | apply Kd.N_drew)); exact HO_27.out⟩, ⟨by repeat (first | (with_reducible exact HR211_0.out) | (with_reducible refine Kd.C_alloc ?_ _) | (with_reducible refine Kd.C_drewN ?_ _) | (with_reducible refine Kd.C_drew ?_) | exact HR211_0.out)⟩, ⟨by repeat (first | (with_reducible exact HR215_0.out) | (with_reducible refine Kd.C_alloc ?_ _) | (with_reducible refine Kd.C_drewN ?_ _) | (with_reducible refine Kd.C_drew ?_) | exact HR215_0.out)⟩, ⟨by repeat (first | (with_reducible first | exact HB.out | apply below_alloc | apply pw_below_drewN | apply below_drew1) | exact HB.out)⟩⟩
                                      case round =>
                                        clear H'
                                        try clear c1
                                        try clear c2
                                        try clear p2
                                        try clear q2
                                        try clear hx2
                                        try clear c3
                                        try clear c7
                                        try clear c7b0
                                        try clear c8
                                        try clear c8b0
                                        try clear c9
                                        try clear c9b0
                                        try clear c10
                                        try clear c10b0
                                        try clear c11
                                        try clear c11b0
                                        try clear c12
                                        try clear c12b0
                                        try clear c13
                                        try clear c13b0
                                        try clear c14
                                        try clear c14b0
                                        try clear c15
                                        try clear c15b0
                                        try clear c16
                                        try clear c16b0
                                        try clear c17
                                        try clear c17b0
                                        try clear hx211_0
                                        try clear hx215_0
                                        try clear hx216_0
                                        try clear hx217_0
                                        try clear p2
                                        try clear p211
                                        try clear p215
                                        try clear p216
                                        try clear p217
                                        try clear q2
                                        try clear q211
                                        try clear q215
                                        try clear q216
                                        try clear q217
                                        obtain ⟨x8_4, x45_4, rfl, HA, HK4, HO_4, HO_5, HO_8, HO_20, HO_27, HR211_0, HR215_0, HB⟩ := hrel
                                        cases gk with
                                        | zero => exact absurd HA.out (by simp [spec_Shrink.l3])
                                        | succ k4 =>
                                          have H := HA.out
                                          clear HA
                                          simp only [spec_Shrink.l3] at H
                                          by_cases c18 : x45_4 < ((rd_L1 l0 (rd (rd_L1 t208 x22_1) x36_3)).length : Int)
                                          · rw [if_pos c18] at H
                                            have c18b0 : decide (x45_4 < ((rd_L1 l0 (rd (rd_L1 t208 x22_1) x36_3)).length : Int)) = true := decide_eq_true c18
                                            clear c18
                                            by_cases c19 : 0 ≤ x45_4
                                            · rw [if_pos c19] at H
                                              have c19b0 : decide (0 ≤ x45_4) = true := decide_eq_true c19
                                              clear c19
                                              by_cases c20 : x45_4 < ((rd_L1 l0 (rd (rd_L1 t208 x22_1) x36_3)).length : Int)
                                              · rw [if_pos c20] at H
                                                have c20b0 : decide (x45_4 < ((rd_L1 l0 (rd (rd_L1 t208 x22_1) x36_3)).length : Int)) = true := decide_eq_true c20
                                                clear c20
                                                by_cases c21 : x29_2 = x22_1
                                                · rw [if_pos c21] at H
                                                  have c21b0 : (x29_2 == x22_1) = true := beq_iff_eq.mpr c21
                                                  have c21b1 : (x29_2 != x22_1) = false := bne_eq_false_iff_eq.mpr c21
                                                  clear c21
                                                  have H' := Aside0.mk H
                                                  clear H
                                                  have p218 : 0 ≤ (x45_4 : Int) := of_decide_eq_true (by first | (with_reducible assumption) | assumption)
                                                  have q218 : x45_4 < ((rd_L1 l0 (rd (rd_L1 t208 x22_1) x36_3)).length : Int) := of_decide_eq_true (by first | (with_reducible assumption) | assumption)
                                                  obtain ⟨ad218, e218, hx218_0⟩ := Kd.at_int HR217_0.out x45_4 p218 q218
                                                  cases e218
                                                  try replace hx218_0 := (HB.out.cell (World.block_lt_of_cell? w _ hx218_0)).trans hx218_0
                                                  replace p218 := eq_true p218
                                                  replace q218 := eq_true q218
                                                  go_wp2
                                                  go_roundg k4
                                                  case measure => have := HK1.out; have := HK2.out; have := HK3.out; have := HK4.out; omega
                                                  case rel => exact ⟨(x8_4), (wrap64 (x45_4 + 1)), (by first | rfl | (simp; done) | (simp [*]; done)), H', ⟨by have := HK1.out; have := HK2.out; have := HK3.out; have := HK4.out; omega⟩, ⟨by (with_reducible repeat (first | apply Kd.N_alloc | apply Kd.N_drewN | apply Kd.N_drew)); exact HO_4.out⟩, ⟨by (with_reducible repeat (first | apply Kd.N_alloc | apply Kd.N_drewN | apply Kd.N_drew)); exact HO_5.out⟩, ⟨by (with_reducible repeat (first | apply Kd.V_alloc | apply Kd.V_drewN | apply Kd.V_drew)); exact HO_8.out⟩, ⟨by (with_reducible repeat (first | apply Kd.N_alloc | apply Kd.N_drewN | apply Kd.N_drew)); exact HO_20.out⟩, ⟨by (with_reducible repeat (first | apply Kd.N_alloc | apply Kd.N_drewN | apply Kd.N_drew)); exact HO_27.out⟩, ⟨by repeat (first | (with_reducible exact HR211_0.out) | (with_reducible refine Kd.C_alloc ?_ _) | (with_reducible refine Kd.C_drewN ?_ _) | (with_reducible refine Kd.C_drew ?_) | exact HR211_0.out)⟩, ⟨by repeat (first | (with_reducible exact HR215_0.out) | (with_reducible refine Kd.C_alloc ?_ _) | (with_reducible refine Kd.C_drewN ?_ _) | (with_reducible refine Kd.C_drew ?_) | exact HR215_0.out)⟩, ⟨by repeat (first | (with_reducible first | exact HB.out | apply below_alloc | apply pw_below_drewN | apply below_drew1) | exact HB.out)⟩⟩
                                                · rw [if_neg c21] at H
                                                  have c21b0 : (x29_2 == x22_1) = false := beq_eq_false_iff_ne.mpr c21
                                                  have c21b1 : (x29_2 != x22_1) = true := bne_iff_ne.mpr c21
                                                  replace H := Option.bind_eq_some_iff.mp H
                                                  obtain ⟨t219, A220, H⟩ := H
                                                  replace H : (if t219 = true then ((spec_l1Put.f k4 x8_4 x29_2).bind fun t220 => (spec_Shrink.l3 k4 l0 t208 x5_1 x22_1 (rd_L1 t208 x22_1) t220 x29_2 (rd_L1 t208 x29_2) t208 (t208.length : Int) x22_1 t208 (t208.length : Int) x29_2 (rd_L1 t208 x22_1) ((rd_L1 t208 x22_1).length : Int) x36_3 (rd_L1 l0 (rd (rd_L1 t208 x22_1) x36_3)) ((rd_L1 l0 (rd (rd_L1 t208 x22_1) x36_3)).length : Int) (wrap64 (x45_4 + 1)))) else (spec_Shrink.l3 k4 l0 t208 x5_1 x22_1 (rd_L1 t208 x22_1) x8_4 x29_2 (rd_L1 t208 x29_2) t208 (t208.length : Int) x22_1 t208 (t208.length : Int) x29_2 (rd_L1 t208 x22_1) ((rd_L1 t208 x22_1).length : Int) x36_3 (rd_L1 l0 (rd (rd_L1 t208 x22_1) x36_3)) ((rd_L1 l0 (rd (rd_L1 t208 x22_1) x36_3)).length : Int) (wrap64 (x45_4 + 1)))) = some (r1, r2) := H
                                                  have A22 := Aside0.mk A220
                                                  clear A220
                                                  by_cases c23 : t219 = true
                                                  · subst c23
                                                    have H1 : ((spec_l1Put.f k4 x8_4 x29_2).bind fun t220 => (spec_Shrink.l3 k4 l0 t208 x5_1 x22_1 (rd_L1 t208 x22_1) t220 x29_2 (rd_L1 t208 x29_2) t208 (t208.length : Int) x22_1 t208 (t208.length : Int) x29_2 (rd_L1 t208 x22_1) ((rd_L1 t208 x22_1).length : Int) x36_3 (rd_L1 l0 (rd (rd_L1 t208 x22_1) x36_3)) ((rd_L1 l0 (rd (rd_L1 t208 x22_1) x36_3)).length : Int) (wrap64 (x45_4 + 1)))) = some (r1, r2) := by rw [if_pos rfl] at H; exact H
                                                    clear H
                                                    have H := H1
                                                    clear H1
                                                    replace H := Option.bind_eq_some_iff.mp H
                                                    obtain ⟨t220, A240, H⟩ := H
                                                    replace H : (spec_Shrink.l3 k4 l0 t208 x5_1 x22_1 (rd_L1 t208 x22_1) t220 x29_2 (rd_L1 t208 x29_2) t208 (t208.length : Int) x22_1 t208 (t208.length : Int) x29_2 (rd_L1 t208 x22_1) ((rd_L1 t208 x22_1).length : Int) x36_3 (rd_L1 l0 (rd (rd_L1 t208 x22_1) x36_3)) ((rd_L1 l0 (rd (rd_L1 t208 x22_1) x36_3)).length : Int) (wrap64 (x45_4 + 1))) = some (r1, r2) := H
                                                    have A24 := Aside0.mk A240
                                                    clear A240
                                                    have H' := Aside0.mk H
                                                    clear H
                                                    have p218 : 0 ≤ (x45_4 : Int) := of_decide_eq_true (by first | (with_reducible assumption) | assumption)
                                                    have q218 : x45_4 < ((rd_L1 l0 (rd (rd_L1 t208 x22_1) x36_3)).length : Int) := of_decide_eq_true (by first | (with_reducible assumption) | assumption)
                                                    obtain ⟨ad218, e218, hx218_0⟩ := Kd.at_int HR217_0.out x45_4 p218 q218
                                                    cases e218
                                                    try replace hx218_0 := (HB.out.cell (World.block_lt_of_cell? w _ hx218_0)).trans hx218_0
                                                    replace p218 := eq_true p218
                                                    replace q218 := eq_true q218
                                                    go_wp2_with (first | (go_at_call 44; (with_reducible refine (spec_l1Has.calls k4 _ _ (rd_L1 t208 x29_2) (rd (rd_L1 l0 (rd (rd_L1 t208 x22_1) x36_3)) x45_4) true _ ?side1 ?side2 A22.out).mono ?_); (case side1 => repeat (first | exact (Kd.C_below HR215_0.out HB.out) | exact HR215_0.out | (with_reducible refine Kd.C_alloc ?_ _) | (with_reducible refine Kd.C_drewN ?_ _) | (with_reducible refine Kd.C_drew ?_))); (case side2 => exact HC215_0.out); rintro e w' ⟨rfl, ⟨nd, rfl⟩⟩; obtain ⟨Ao25, co25, eo25⟩ := Kd.V_slice HO_8.out; subst eo25) | ((with_reducible refine gate_callee (f := 45) rfl ?_); refine goesL_ (some 59) rfl rfl Try.func45 (by kernel_rfl) rfl #[.slice Ao25 x8_4.length co25, .int .i64 x29_2] rfl (by (try simp only [List.map_toArray, List.map_cons, List.map_nil]); first | done | rfl | (simp only [List.length_drop, List.length_take]; rfl)) ?_; (with_reducible refine (spec_l1Put.calls k4 (fun k_ => ((w.heap.size ≤ k_) ∧ (some k_ ≠ (.slice (some ad211) t208.length co6 : Value).ownBlock ∧ (some k_ ≠ (u5 : Value).ownBlock ∧ (some k_ ≠ (.slice (some ad211) t208.length co6 : Value).ownBlock ∧ some k_ ≠ (.slice (some ad211) t208.length co6 : Value).ownBlock))))) _ _ x8_4 x29_2 t220 _ ?side1 A24.out).mono ?_); (case side1 => exact HO_8.out); rintro e w26 ⟨v221, rfl, ho0, hb⟩; refine ⟨_, rfl, ?_⟩; have n0_ := Aside0.mk (Kd.N_below (by (with_reducible repeat (first | apply Kd.N_alloc | apply Kd.N_drewN | apply Kd.N_drew)); exact HO_4.out) hb); have n1_ := Aside0.mk (Kd.N_below (by (with_reducible repeat (first | apply Kd.N_alloc | apply Kd.N_drewN | apply Kd.N_drew)); exact HO_5.out) hb); have n2_ := Aside0.mk (Kd.V_below (by (with_reducible repeat (first | apply Kd.V_alloc | apply Kd.V_drewN | apply Kd.V_drew)); exact HO_8.out) hb); have n3_ := Aside0.mk (Kd.N_below (by (with_reducible repeat (first | apply Kd.N_alloc | apply Kd.N_drewN | apply Kd.N_drew)); exact HO_20.out) hb); have n4_ := Aside0.mk (Kd.N_below (by (with_reducible repeat (first | apply Kd.N_alloc | apply Kd.N_drewN | apply Kd.N_drew)); exact HO_27.out) hb); have n5_ := Aside0.mk (Kd.V_lower (Kd.V_mono (ok' := fun k_ => (w.heap.size ≤ k_) ∧ some k_ ≠ (.slice (some ad211) t208.length co6 : Value).ownBlock ∧ some k_ ≠ (u5 : Value).ownBlock ∧ some k_ ≠ (.slice (some ad211) t208.length co6 : Value).ownBlock ∧ some k_ ≠ (.slice (some ad211) t208.length co6 : Value).ownBlock) ho0 (fun k_ hk_ => ⟨Or.elim hk_ (fun hs_ => hs_.1) (fun hn_ => (Nat.le_trans (below_size (by repeat (first | (with_reducible first | exact HB.out | apply below_alloc | apply pw_below_drewN | apply below_drew1) | exact HB.out))) hn_)), Or.elim hk_ (fun hs_ => hs_.2.1) (fun hn_ => (Kd.fresh' (Kd.N_lt (by (with_reducible repeat (first | apply Kd.N_alloc | apply Kd.N_drewN | apply Kd.N_drew)); exact HO_4.out)) k_ hn_)), Or.elim hk_ (fun hs_ => hs_.2.2.1) (fun hn_ => (Kd.fresh' (Kd.N_lt (by (with_reducible repeat (first | apply Kd.N_alloc | apply Kd.N_drewN | apply Kd.N_drew)); exact HO_5.out)) k_ hn_)), Or.elim hk_ (fun hs_ => hs_.2.2.2.1) (fun hn_ => (Kd.fresh' (Kd.N_lt (by (with_reducible repeat (first | apply Kd.N_alloc | apply Kd.N_drewN | apply Kd.N_drew)); exact HO_20.out)) k_ hn_)), Or.elim hk_ (fun hs_ => hs_.2.2.2.2) (fun hn_ => (Kd.fresh' (Kd.N_lt (by (with_reducible repeat (first | apply Kd.N_alloc | apply Kd.N_drewN | apply Kd.N_drew)); exact HO_27.out)) k_ hn_))⟩)) (below_size (by repeat (first | (with_reducible first | exact HB.out | apply below_alloc | apply pw_below_drewN | apply below_drew1) | exact HB.out)))); have n6_ := Aside0.mk (Kd.C_below (by repeat (first | (with_reducible exact HR211_0.out) | (with_reducible refine Kd.C_alloc ?_ _) | (with_reducible refine Kd.C_drewN ?_ _) | (with_reducible refine Kd.C_drew ?_) | exact HR211_0.out)) hb); have n7_ := Aside0.mk (Kd.C_below (by repeat (first | (with_reducible exact HR215_0.out) | (with_reducible refine Kd.C_alloc ?_ _) | (with_reducible refine Kd.C_drewN ?_ _) | (with_reducible refine Kd.C_drew ?_) | exact HR215_0.out)) hb); have n8_ := Aside0.mk (below_step (by repeat (first | (with_reducible first | exact HB.out | apply below_alloc | apply pw_below_drewN | apply below_drew1) | exact HB.out)) hb); clear HO_4; clear HO_5; clear HO_8; clear HO_20; clear HO_27; clear HR211_0; clear HR215_0; clear HB; have HO_4 := n0_; have HO_5 := n1_; have HO_8 := n2_; have HO_20 := n3_; have HO_27 := n4_; have HO222 := n5_; have HR211_0 := n6_; have HR215_0 := n7_; have HB := n8_; clear n0_ n1_ n2_ n3_ n4_ n5_ n6_ n7_ n8_; (try clear hb); (try clear hb2); (try clear hk); (try clear hi); (try clear ho0)))
                                                    go_roundg k4
                                                    case measure => have := HK1.out; have := HK2.out; have := HK3.out; have := HK4.out; omega
                                                    case rel => exact ⟨(t220), (wrap64 (x45_4 + 1)), (by first | rfl | (simp; done) | (simp [*]; done)), H', ⟨by have := HK1.out; have := HK2.out; have := HK3.out; have := HK4.out; omega⟩, ⟨by (with_reducible repeat (first | apply Kd.N_alloc | apply Kd.N_drewN | apply Kd.N_drew)); exact HO_4.out⟩, ⟨by (with_reducible repeat (first | apply Kd.N_alloc | apply Kd.N_drewN | apply Kd.N_drew)); exact HO_5.out⟩, ⟨by (with_reducible repeat (first | apply Kd.V_alloc | apply Kd.V_drewN | apply Kd.V_drew)); exact HO222.out⟩, ⟨by (with_reducible repeat (first | apply Kd.N_alloc | apply Kd.N_drewN | apply Kd.N_drew)); exact HO_20.out⟩, ⟨by (with_reducible repeat (first | apply Kd.N_alloc | apply Kd.N_drewN | apply Kd.N_drew)); exact HO_27.out⟩, ⟨by repeat (first | (with_reducible exact HR211_0.out) | (with_reducible refine Kd.C_alloc ?_ _) | (with_reducible refine Kd.C_drewN ?_ _) | (with_reducible refine Kd.C_drew ?_) | exact HR211_0.out)⟩, ⟨by repeat (first | (with_reducible exact HR215_0.out) | (with_reducible refine Kd.C_alloc ?_ _) | (with_reducible refine Kd.C_drewN ?_ _) | (with_reducible refine Kd.C_drew ?_) | exact HR215_0.out)⟩, ⟨by repeat (first | (with_reducible first | exact HB.out | apply below_alloc | apply pw_below_drewN | apply below_drew1) | exact HB.out)⟩⟩
                                                  · replace c23 := Bool.eq_false_iff.mpr c23
                                                    subst c23
                                                    have H1 : (spec_Shrink.l3 k4 l0 t208 x5_1 x22_1 (rd_L1 t208 x22_1) x8_4 x29_2 (rd_L1 t208 x29_2) t208 (t208.length : Int) x22_1 t208 (t208.length : Int) x29_2 (rd_L1 t208 x22_1) ((rd_L1 t208 x22_1).length : Int) x36_3 (rd_L1 l0 (rd (rd_L1 t208 x22_1) x36_3)) ((rd_L1 l0 (rd (rd_L1 t208 x22_1) x36_3)).length : Int) (wrap64 (x45_4 + 1))) = some (r1, r2) := by rw [if_neg (show ¬ (false = true) by decide)] at H; exact H
                                                    clear H
                                                    have H := H1
                                                    clear H1
                                                    have H' := Aside0.mk H
                                                    clear H
                                                    have p218 : 0 ≤ (x45_4 : Int) := of_decide_eq_true (by first | (with_reducible assumption) | assumption)
                                                    have q218 : x45_4 < ((rd_L1 l0 (rd (rd_L1 t208 x22_1) x36_3)).length : Int) := of_decide_eq_true (by first | (with_reducible assumption) | assumption)
                                                    obtain ⟨ad218, e218, hx218_0⟩ := Kd.at_int HR217_0.out x45_4 p218 q218
                                                    cases e218
                                                    try replace hx218_0 := (HB.out.cell (World.block_lt_of_cell? w _ hx218_0)).trans hx218_0
                                                    replace p218 := eq_true p218
                                                    replace q218 := eq_true q218
                                                    go_wp2_with (first | (go_at_call 44; (with_reducible refine (spec_l1Has.calls k4 _ _ (rd_L1 t208 x29_2) (rd (rd_L1 l0 (rd (rd_L1 t208 x22_1) x36_3)) x45_4) false _ ?side1 ?side2 A22.out).mono ?_); (case side1 => repeat (first | exact (Kd.C_below HR215_0.out HB.out) | exact HR215_0.out | (with_reducible refine Kd.C_alloc ?_ _) | (with_reducible refine Kd.C_drewN ?_ _) | (with_reducible refine Kd.C_drew ?_))); (case side2 => exact HC215_0.out); rintro e w' ⟨rfl, ⟨nd, rfl⟩⟩))
                                                    go_roundg k4
                                                    case measure => have := HK1.out; have := HK2.out; have := HK3.out; have := HK4.out; omega
                                                    case rel => exact ⟨(x8_4), (wrap64 (x45_4 + 1)), (by first | rfl | (simp; done) | (simp [*]; done)), H', ⟨by have := HK1.out; have := HK2.out; have := HK3.out; have := HK4.out; omega⟩, ⟨by (with_reducible repeat (first | apply Kd.N_alloc | apply Kd.N_drewN | apply Kd.N_drew)); exact HO_4.out⟩, ⟨by (with_reducible repeat (first | apply Kd.N_alloc | apply Kd.N_drewN | apply Kd.N_drew)); exact HO_5.out⟩, ⟨by (with_reducible repeat (first | apply Kd.V_alloc | apply Kd.V_drewN | apply Kd.V_drew)); exact HO_8.out⟩, ⟨by (with_reducible repeat (first | apply Kd.N_alloc | apply Kd.N_drewN | apply Kd.N_drew)); exact HO_20.out⟩, ⟨by (with_reducible repeat (first | apply Kd.N_alloc | apply Kd.N_drewN | apply Kd.N_drew)); exact HO_27.out⟩, ⟨by repeat (first | (with_reducible exact HR211_0.out) | (with_reducible refine Kd.C_alloc ?_ _) | (with_reducible refine Kd.C_drewN ?_ _) | (with_reducible refine Kd.C_drew ?_) | exact HR211_0.out)⟩, ⟨by repeat (first | (with_reducible exact HR215_0.out) | (with_reducible refine Kd.C_alloc ?_ _) | (with_reducible refine Kd.C_drewN ?_ _) | (with_reducible refine Kd.C_drew ?_) | exact HR215_0.out)⟩, ⟨by repeat (first | (with_reducible first | exact HB.out | apply below_alloc | apply pw_below_drewN | apply below_drew1) | exact HB.out)⟩⟩
                                              · rw [if_neg c20] at H
                                                exact absurd H (by simp)
                                            · rw [if_neg c19] at H
                                              exact absurd H (by simp)
                                          · rw [if_neg c18] at H
                                            have c18b0 : decide (x45_4 < ((rd_L1 l0 (rd (rd_L1 t208 x22_1) x36_3)).length : Int)) = false := decide_eq_false c18
                                            clear c18
                                            have H' := Aside0.mk H
                                            clear H
                                            go_wp2
                                            go_roundg k4
                                            case measure => have := HK1.out; have := HK2.out; have := HK3.out; have := HK4.out; omega
                                            case rel => exact ⟨(x8_4), (wrap64 (x36_3 + 1)), (by first | rfl | (simp; done) | (simp [*]; done)), H', ⟨by have := HK1.out; have := HK2.out; have := HK3.out; have := HK4.out; omega⟩, ⟨by (with_reducible repeat (first | apply Kd.N_alloc | apply Kd.N_drewN | apply Kd.N_drew)); exact HO_4.out⟩, ⟨by (with_reducible repeat (first | apply Kd.N_alloc | apply Kd.N_drewN | apply Kd.N_drew)); exact HO_5.out⟩, ⟨by (with_reducible repeat (first | apply Kd.V_alloc | apply Kd.V_drewN | apply Kd.V_drew)); exact HO_8.out⟩, ⟨by (with_reducible repeat (first | apply Kd.N_alloc | apply Kd.N_drewN | apply Kd.N_drew)); exact HO_20.out⟩, ⟨by (with_reducible repeat (first | apply Kd.N_alloc | apply Kd.N_drewN | apply Kd.N_drew)); exact HO_27.out⟩, ⟨by repeat (first | (with_reducible exact HR211_0.out) | (with_reducible refine Kd.C_alloc ?_ _) | (with_reducible refine Kd.C_drewN ?_ _) | (with_reducible refine Kd.C_drew ?_) | exact HR211_0.out)⟩, ⟨by repeat (first | (with_reducible exact HR215_0.out) | (with_reducible refine Kd.C_alloc ?_ _) | (with_reducible refine Kd.C_drewN ?_ _) | (with_reducible refine Kd.C_drew ?_) | exact HR215_0.out)⟩, ⟨by repeat (first | (with_reducible first | exact HB.out | apply below_alloc | apply pw_below_drewN | apply below_drew1) | exact HB.out)⟩⟩
                                    · rw [if_neg c17] at H
                                      exact absurd H (by simp)
                                  · rw [if_neg c16] at H
                                    exact absurd H (by simp)
                                · rw [if_neg c15] at H
                                  exact absurd H (by simp)
                              · rw [if_neg c14] at H
                                exact absurd H (by simp)
                            · rw [if_neg c13] at H
                              have c13b0 : decide (x36_3 < ((rd_L1 t208 x22_1).length : Int)) = false := decide_eq_false c13
                              clear c13
                              have H' := Aside0.mk H
                              clear H
                              go_wp2
                              go_roundg k3
                              case measure => have := HK1.out; have := HK2.out; have := HK3.out; omega
                              case rel => exact ⟨(x8_3), (wrap64 (x29_2 + 1)), (by first | rfl | (simp; done) | (simp [*]; done)), H', ⟨by have := HK1.out; have := HK2.out; have := HK3.out; omega⟩, ⟨by (with_reducible repeat (first | apply Kd.N_alloc | apply Kd.N_drewN | apply Kd.N_drew)); exact HO_4.out⟩, ⟨by (with_reducible repeat (first | apply Kd.N_alloc | apply Kd.N_drewN | apply Kd.N_drew)); exact HO_5.out⟩, ⟨by (with_reducible repeat (first | apply Kd.V_alloc | apply Kd.V_drewN | apply Kd.V_drew)); exact HO_8.out⟩, ⟨by (with_reducible repeat (first | apply Kd.N_alloc | apply Kd.N_drewN | apply Kd.N_drew)); exact HO_20.out⟩, ⟨by (with_reducible repeat (first | apply Kd.N_alloc | apply Kd.N_drewN | apply Kd.N_drew)); exact HO_27.out⟩, ⟨by repeat (first | (with_reducible exact HR211_0.out) | (with_reducible refine Kd.C_alloc ?_ _) | (with_reducible refine Kd.C_drewN ?_ _) | (with_reducible refine Kd.C_drew ?_) | exact HR211_0.out)⟩, ⟨by repeat (first | (with_reducible first | exact HB.out | apply below_alloc | apply pw_below_drewN | apply below_drew1) | exact HB.out)⟩⟩
                      · rw [if_neg c12] at H
                        exact absurd H (by simp)
                    · rw [if_neg c11] at H
                      exact absurd H (by simp)
                  · rw [if_neg c10] at H
                    have c10b0 : decide (x29_2 < (t208.length : Int)) = false := decide_eq_false c10
                    clear c10
                    by_cases c27 : x5_1.length < 5864062014805
                    · rw [if_pos c27] at H
                      have LMc27 := Aside0.mk c27
                      clear c27
                      obtain ⟨y212, hy212⟩ : ∃ y_ : List (List Int), y_ = (x5_1 ++ [x8_2]) := ⟨_, rfl⟩
                      replace H : (spec_Shrink.l0 k2 l0 t208 y212 t208 (t208.length : Int) (wrap64 (x22_1 + 1))) = some (r1, r2) := by first | (rw [hy212]; with_reducible exact H) | (have H2_ := (Option.bind_some _ _).symm.trans H; rw [hy212]; with_reducible exact H2_) | (have H2_ := (Option.bind_some _ _).symm.trans H; with_reducible exact H2_) | with_reducible exact H | (rw [hy212]; exact H) | exact H
                      have Ny212 := Aside0.mk hy212
                      clear hy212
                      have H' := Aside0.mk H
                      clear H
                      obtain ⟨Ao29, co29, eo29⟩ := Kd.V_slice HO_8.out
                      subst eo29
                      go_wp2_with (first | ((with_reducible refine gate_builtin (b := .append) (xs := #[.tmp 63, .tmp 65]) rfl ?_); at_builtin; refine Kd.N_append (Kd.slice 3 (Kd.int .i64)) (w0 := w) w.heap.size rfl (.tmp 63) (.tmp 65) 22 24 (.slice none 0 0) 24 rfl Try.underlying22 info24 rfl (by decide) (by omega) u5 x5_1 x8_2 [.slice Ao29 x8_2.length co29] (fun k_ => (w.heap.size ≤ k_) ∧ some k_ ≠ (.slice (some ad211) t208.length co6 : Value).ownBlock ∧ some k_ ≠ (.slice (some ad211) t208.length co6 : Value).ownBlock ∧ some k_ ≠ (.slice (some ad211) t208.length co6 : Value).ownBlock) (fun k_ => ((fun k_ => (w.heap.size ≤ k_) ∧ some k_ ≠ (.slice (some ad211) t208.length co6 : Value).ownBlock ∧ some k_ ≠ (.slice (some ad211) t208.length co6 : Value).ownBlock ∧ some k_ ≠ (.slice (some ad211) t208.length co6 : Value).ownBlock)) k_ ∧ some k_ ≠ (u5 : Value).ownBlock) rfl rfl ?aP (fun _ hk => hk) ?aF ?aO ?aB ?aS ?aL ?_; (case aP => exact (Kd.FK_slice_mk (Kd.V_reads' (Kd.V_mono (ok' := (fun k_ => ((fun k_ => (w.heap.size ≤ k_) ∧ some k_ ≠ (.slice (some ad211) t208.length co6 : Value).ownBlock ∧ some k_ ≠ (.slice (some ad211) t208.length co6 : Value).ownBlock ∧ some k_ ≠ (.slice (some ad211) t208.length co6 : Value).ownBlock)) k_ ∧ some k_ ≠ (u5 : Value).ownBlock)) (HO_8.out) (fun k_ hk => ⟨⟨hk.1, ⟨hk.2.1, ⟨hk.2.2.2.1, hk.2.2.2.2⟩⟩⟩, hk.2.2.1⟩))).2.1 (Kd.V_F (Kd.V_mono (ok' := (fun k_ => ((fun k_ => (w.heap.size ≤ k_) ∧ some k_ ≠ (.slice (some ad211) t208.length co6 : Value).ownBlock ∧ some k_ ≠ (.slice (some ad211) t208.length co6 : Value).ownBlock ∧ some k_ ≠ (.slice (some ad211) t208.length co6 : Value).ownBlock)) k_ ∧ some k_ ≠ (u5 : Value).ownBlock)) (HO_8.out) (fun k_ hk => ⟨⟨hk.1, ⟨hk.2.1, ⟨hk.2.2.2.1, hk.2.2.2.2⟩⟩⟩, hk.2.2.1⟩))))); (case aB => exact (by repeat (first | (with_reducible first | exact HB.out | apply below_alloc | apply pw_below_drewN | apply below_drew1) | exact HB.out))); (case aF => exact (fun k_ hk => ⟨(Nat.le_trans (below_size (by repeat (first | (with_reducible first | exact HB.out | apply below_alloc | apply pw_below_drewN | apply below_drew1) | exact HB.out))) hk), Kd.fresh' (Kd.N_lt (by (with_reducible repeat (first | apply Kd.N_alloc | apply Kd.N_drewN | apply Kd.N_drew)); exact HO_4.out)) k_ hk, Kd.fresh' (Kd.N_lt (by (with_reducible repeat (first | apply Kd.N_alloc | apply Kd.N_drewN | apply Kd.N_drew)); exact HO_20.out)) k_ hk, Kd.fresh' (Kd.N_lt (by (with_reducible repeat (first | apply Kd.N_alloc | apply Kd.N_drewN | apply Kd.N_drew)); exact HO_27.out)) k_ hk⟩)); (case aO => exact (by (with_reducible repeat (first | apply Kd.N_alloc | apply Kd.N_drewN | apply Kd.N_drew)); exact HO_5.out)); (case aS => exact (below_size (by repeat (first | (with_reducible first | exact HB.out | apply below_alloc | apply pw_below_drewN | apply below_drew1) | exact HB.out)))); (case aL => have := LMc27.out; omega); intro v213 w28 ho hb hg hat; rw [← Ny212.out] at ho; have n0_ := Aside0.mk (Kd.N_afterv (ok := (fun k_ => (w.heap.size ≤ k_))) (by (with_reducible repeat (first | apply Kd.N_alloc | apply Kd.N_drewN | apply Kd.N_drew)); exact HO_4.out) hg hat); have n1_ := Aside0.mk (Kd.V_afterv (ok := (fun k_ => (w.heap.size ≤ k_) ∧ some k_ ≠ (.slice (some ad211) t208.length co6 : Value).ownBlock ∧ some k_ ≠ (.slice (some ad211) t208.length co6 : Value).ownBlock ∧ some k_ ≠ (.slice (some ad211) t208.length co6 : Value).ownBlock)) (by (with_reducible repeat (first | apply Kd.V_alloc | apply Kd.V_drewN | apply Kd.V_drew)); exact Kd.V_mono HO_8.out (fun _ hk => ⟨⟨hk.1, ⟨hk.2.1, ⟨hk.2.2.2.1, hk.2.2.2.2⟩⟩⟩, hk.2.2.1⟩)) hg hat); have n2_ := Aside0.mk (Kd.N_afterv (ok := (fun k_ => (w.heap.size ≤ k_))) (by (with_reducible repeat (first | apply Kd.N_alloc | apply Kd.N_drewN | apply Kd.N_drew)); exact HO_20.out) hg hat); have n3_ := Aside0.mk (Kd.N_afterv (ok := (fun k_ => (w.heap.size ≤ k_))) (by (with_reducible repeat (first | apply Kd.N_alloc | apply Kd.N_drewN | apply Kd.N_drew)); exact HO_27.out) hg hat); have n4_ := Aside0.mk (hb); have n5_ := Aside0.mk (ho); clear HO_4; clear HO_8; clear HO_20; clear HO_27; clear HB; clear HO_5; have HO_4 := n0_; have HO_8 := n1_; have HO_20 := n2_; have HO_27 := n3_; have HB := n4_; have HO214 := n5_; clear n0_ n1_ n2_ n3_ n4_ n5_; clear ho hb hg hat))
                      go_roundg k2
                      case measure => have := HK1.out; have := HK2.out; omega
                      case rel => exact ⟨(y212), (wrap64 (x22_1 + 1)), (by first | rfl | (simp; done) | (simp [*]; done)), H', ⟨by have := HK1.out; have := HK2.out; omega⟩, ⟨by (with_reducible repeat (first | apply Kd.N_alloc | apply Kd.N_drewN | apply Kd.N_drew)); exact HO_4.out⟩, ⟨by (with_reducible repeat (first | apply Kd.N_alloc | apply Kd.N_drewN | apply Kd.N_drew)); exact Kd.N_mono HO214.out (fun _ hk => ⟨hk.1, ⟨hk.2.1, hk.2.2.1⟩⟩)⟩, ⟨by (with_reducible repeat (first | apply Kd.N_alloc | apply Kd.N_drewN | apply Kd.N_drew)); exact HO_20.out⟩, ⟨by repeat (first | (with_reducible first | exact HB.out | apply below_alloc | apply pw_below_drewN | apply below_drew1) | exact HB.out)⟩⟩
                    · rw [if_neg c27] at H
                      exact absurd H (by simp)
            · rw [if_neg c9] at H
              exact absurd H (by simp)
          · rw [if_neg c8] at H
            exact absurd H (by simp)
        · rw [if_neg c7] at H
          have c7b0 : decide (x22_1 < (t208.length : Int)) = false := decide_eq_false c7
          clear c7
          simp only [Option.some.injEq, Prod.mk.injEq] at H
          obtain ⟨rfl, rfl⟩ := H
          go_wp2
          go_ret2
          exact ⟨_, by first | rfl | (simp [errW_none, errW_some] <;> rfl) | (simp [*, errW_none, errW_some] <;> rfl), by (with_reducible repeat (first | apply Kd.N_alloc | apply Kd.N_drewN | apply Kd.N_drew)); exact Kd.N_mono HO_5.out (fun _ hk => hk.1), by repeat (first | (with_reducible first | exact HB.out | apply below_alloc | apply pw_below_drewN | apply below_drew1) | exact HB.out)⟩
  · replace c3 := Bool.eq_false_iff.mpr c3
    subst c3
    have H1 : (some (([] : List (List Int)), false)) = some (r1, r2) := by rw [if_neg (show ¬ (false = true) by decide)] at H; exact H
    clear H
    have H := H1
    clear H1
    simp only [Option.some.injEq, Prod.mk.injEq] at H
    obtain ⟨rfl, rfl⟩ := H
    go_enter Try.func24, Try.ntmps24
    go_wp2_with (first | ((with_reducible refine gate_callee (f := 38) rfl ?_); refine goesL_ (some 16) rfl rfl Try.func38 (by kernel_rfl) rfl #[.slice A0 l0.length c0] rfl (by (try simp only [List.map_toArray, List.map_cons, List.map_nil]); first | done | rfl | (simp only [List.length_drop, List.length_take]; rfl)) ?_; (with_reducible refine (spec_GoodLinks.calls k _ _ l0 false _ ?side1 ?side2 A2.out).mono ?_); (case side1 => repeat (first | exact HR0.out | (with_reducible refine Kd.C_alloc ?_ _) | (with_reducible refine Kd.C_drewN ?_ _) | (with_reducible refine Kd.C_drew ?_))); (case side2 => exact HC0.out); rintro e w' ⟨rfl, ⟨nd, rfl⟩⟩; refine ⟨_, rfl, ?_⟩))
    go_ret2
    exact ⟨_, by first | rfl | (simp [errW_none, errW_some] <;> rfl) | (simp [*, errW_none, errW_some] <;> rfl), by first | exact Kd.S_nil _ _ _ _ _ | exact Kd.N_nil _ _ _ _ _ | exact Kd.V_nil _ _ _ _ _ | exact Kd.Q_nil _ _ _ _ _ | exact Kd.R_nil _ _ _ _ _, by repeat (first | (with_reducible first | exact HB.out | apply below_alloc | apply pw_below_drewN | apply below_drew1) | exact HB.out)⟩

end Go.Proofs.Yteokbemieooeaaa.PFnExactShrink
