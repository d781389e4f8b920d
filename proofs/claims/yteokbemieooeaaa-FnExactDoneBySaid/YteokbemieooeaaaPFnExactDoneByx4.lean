-- Written for this claim by the session's own program (drive.py), over the kit's print, with contracts typed by hand.
import Derived.Test.YteokbemieooeaaaPFnExactDoneByx0
import Derived.Test.YteokbemieooeaaaPFnExactDoneByx2
import Derived.Test.YteokbemieooeaaaPFnExactDoneByx3
namespace Go.Proofs.Yteokbemieooeaaa.PFnExactDoneBy
open Go.RowKit Go.Proofs.YteokbemieooeaaaW.PrintWords Go.Proofs.YteokbemieooeaaaW.PrintLast Go.Proofs.YteokbemieooeaaaW.PrintMore
attribute [local go_sem] max2_int min2_int max_two min_two max_three min_three max_four min_four   -- for this text's walks alone
set_option linter.unusedVariables false
set_option linter.unusedSimpArgs false

/-! ### spec_l9Groups: function 39, by hand -/
def spec_l9Groups.ready (k : Nat) (done g : List Int) : List Int → Bool → Option Bool
  | [], b => some b
  | x :: xs, b => if b = true then ((spec_l1Has.f k done x).bind fun t => if t = true then spec_l9Groups.ready k done g xs true else (spec_l1Has.f k g x).bind fun u => spec_l9Groups.ready k done g xs u) else spec_l9Groups.ready k done g xs false
def spec_l9Groups.put (k : Nat) : List Int → List Int → Option (List Int)
  | [], done => some done
  | x :: xs, done => (spec_l1Put.f k done x).bind fun d => spec_l9Groups.put k xs d
def spec_l9Groups.find (k : Nat) (l : List (List Int)) (done : List Int) : Nat → Nat → Option (Option (List Int))
  | 0, _ => some none
  | d + 1, i => (spec_l1Has.f k done (i : Int)).bind fun t => if t = true then spec_l9Groups.find k l done d (i + 1) else (spec_l9Group.f k l (i : Int)).bind fun g => (spec_l9Reach.f k l (i : Int)).bind fun xs => (spec_l9Groups.ready k done g xs true).bind fun b => if b = true then some (some g) else spec_l9Groups.find k l done d (i + 1)
def spec_l9Groups.go (k : Nat) (l : List (List Int)) : Nat → List (List Int) → List Int → Option (List (List Int))
  | 0, out, done => if done.length < l.length then none else some out
  | d + 1, out, done => if done.length < l.length then (spec_l9Groups.find k l done l.length 0).bind fun og => og.bind fun g => (spec_l9Groups.put k g done).bind fun done' => spec_l9Groups.go k l d (out ++ [g]) done' else some out
def spec_l9Groups.f (k : Nat) (l0 : List (List Int)) : Option (List (List Int)) := if l0.length ≤ 12 then spec_l9Groups.go k l0 12 [] [] else none
theorem spec_l9Groups.ready_mono (k : Nat) (done g : List Int) : ∀ xs b, LeO (spec_l9Groups.ready k done g xs b) (spec_l9Groups.ready (k + 1) done g xs b)
  | [], b => by
    rw [spec_l9Groups.ready, spec_l9Groups.ready]
    exact LeO.refl _
  | x :: xs, b => by
    have ih := spec_l9Groups.ready_mono k done g xs
    rw [spec_l9Groups.ready, spec_l9Groups.ready]
    refine LeO.ite (LeO.bind (spec_l1Has.mono _ _ k) fun t => ?_) (ih _)
    exact LeO.ite (ih _) (LeO.bind (spec_l1Has.mono _ _ k) fun u => ih u)
theorem spec_l9Groups.put_mono (k : Nat) : ∀ xs done, LeO (spec_l9Groups.put k xs done) (spec_l9Groups.put (k + 1) xs done)
  | [], done => by
    rw [spec_l9Groups.put, spec_l9Groups.put]
    exact LeO.refl _
  | x :: xs, done => by
    have ih := spec_l9Groups.put_mono k xs
    rw [spec_l9Groups.put, spec_l9Groups.put]
    exact LeO.bind (spec_l1Put.mono _ _ k) fun d => ih d
theorem spec_l9Groups.find_mono (k : Nat) (l : List (List Int)) (done : List Int) : ∀ d i, LeO (spec_l9Groups.find k l done d i) (spec_l9Groups.find (k + 1) l done d i)
  | 0, i => by
    rw [spec_l9Groups.find, spec_l9Groups.find]
    exact LeO.refl _
  | d + 1, i => by
    have ih := spec_l9Groups.find_mono k l done d (i + 1)
    rw [spec_l9Groups.find, spec_l9Groups.find]
    refine LeO.bind (spec_l1Has.mono _ _ k) fun t => LeO.ite ih ?_
    refine LeO.bind (spec_l9Group.mono _ _ k) fun g => LeO.bind (spec_l9Reach.mono _ _ k) fun xs => LeO.bind (spec_l9Groups.ready_mono k done g xs true) fun b => ?_
    exact LeO.ite (LeO.refl _) ih
theorem spec_l9Groups.go_mono (k : Nat) (l : List (List Int)) : ∀ d out done, LeO (spec_l9Groups.go k l d out done) (spec_l9Groups.go (k + 1) l d out done)
  | 0, out, done => by
    rw [spec_l9Groups.go, spec_l9Groups.go]
    exact LeO.refl _
  | d + 1, out, done => by
    have ih := spec_l9Groups.go_mono k l d
    rw [spec_l9Groups.go, spec_l9Groups.go]
    refine LeO.ite (LeO.bind (spec_l9Groups.find_mono k l done _ _) fun og => LeO.bind (LeO.refl _) fun g => LeO.bind (spec_l9Groups.put_mono k g done) fun done' => ih _ _) (LeO.refl _)
theorem spec_l9Groups.mono : ∀ a0 k, LeO (spec_l9Groups.f k a0) (spec_l9Groups.f (k + 1) a0) := fun a0 k => by
  unfold spec_l9Groups.f
  exact LeO.ite (spec_l9Groups.go_mono k a0 12 [] []) (LeO.none _)
/-- What is kept while groups are told by the reference: nobody writes into what is told done. -/
def h_SG (w0 w : World) (out : List (List Int)) (done : List Int) (vo vd : Value) : Prop :=
  ∃ O P : Nat → Prop, (∀ k, O k → ¬ P k) ∧ Kd.S (Kd.slice 3 (Kd.int .i64)) 24 w w0.heap.size O vo out ∧ Kd.V (Kd.int .i64) 3 w w0.heap.size P vd done ∧ Below w0.heap.size w0 w
theorem h_at {w : World} {A : Option Addr} {xs : List Int} (h : Kd.C (Kd.int .i64) w A xs.length xs) (j : Nat) (hj : j < xs.length) : ∃ ad, A = some ad ∧ w.cell? (ad.add j) = some (.int .i64 (xs.getD j 0)) := by
  obtain ⟨ad, e, hc⟩ := Kd.at_int h (j : Int) (by omega) (by omega)
  rw [Int.toNat_natCast] at hc
  exact ⟨ad, e, by simpa [rd] using hc⟩
theorem h_drop (xs : List Int) (j : Nat) (hj : j < xs.length) : xs.drop j = xs.getD j 0 :: xs.drop (j + 1) := by
  rw [List.drop_eq_getElem_cons hj]
  simp [List.getD, List.getElem?_eq_getElem hj]
set_option maxHeartbeats 16000000 in
set_option maxRecDepth 100000 in
theorem h_sgroups (k : Nat) (A0 : Option Addr) (c0 : Nat) (l0 : List (List Int)) (r : List (List Int)) (w : World) (hr0 : Kd.C (Kd.slice 3 (Kd.int .i64)) w A0 l0.length l0) (hc0 : l0.length ≤ c0) (h : spec_l9Groups.f k l0 = some r) :
    Calls Try.prog 39 #[.slice A0 l0.length c0] w fun e w' => ∃ v0_ : Value, e = .returned v0_ ∧ Kd.S (Kd.slice 3 (Kd.int .i64)) 24 w' w.heap.size (fun _ => True) v0_ r ∧ Below w.heap.size w w' := by
  unfold spec_l9Groups.f at h
  by_cases h12 : l0.length ≤ 12
  rotate_left
  · rw [if_neg h12] at h
    cases h
  rw [if_pos h12] at h
  have HG := Lib.hid (show ∀ (i : Int) (rs : List Int) (W : World), Below w.heap.size w W → spec_l9Group.f k l0 i = some rs → Calls Try.prog 68 #[.slice A0 l0.length c0, .int .i64 i] W _ from fun i rs W hb hi => spec_l9Group.calls k A0 c0 l0 i rs W (Kd.C_below hr0 hb) hc0 hi)
  have HX := Lib.hid (show ∀ (i : Int) (rs : List Int) (W : World), Below w.heap.size w W → spec_l9Reach.f k l0 i = some rs → Calls Try.prog 69 #[.slice A0 l0.length c0, .int .i64 i] W _ from fun i rs W hb hi => spec_l9Reach.calls k A0 c0 l0 i rs W (Kd.C_below hr0 hb) hc0 hi)
  have H0 := Aside0.mk h
  clear hr0 hc0 h
  go_enter Try.func39, Try.ntmps39
  go_wp2
  go_loopg [3, 4] 12 (fun gg s3 s4 wr => ∃ (out : List (List Int)) (done : List Int) (vo vd : Value), vo = s3 ∧ vd = s4 ∧ out.length + gg ≤ 12 ∧ Aside0 (spec_l9Groups.go k l0 gg out done = some r) ∧ Aside0 (h_SG w wr out done vo vd))
  case atStart => exact ⟨[], [], _, _, rfl, rfl, by simp, H0, ⟨fun _ => False, fun _ => False, fun _ h_ => h_.elim, Kd.S_nil _ _ _ _ _, Kd.V_nil _ _ _ _ _, Below.refl _ _⟩⟩
  case round =>
    clear H0
    obtain ⟨out, done, vo, vd, rfl, rfl, hol, HGO, HSG⟩ := hrel
    obtain ⟨Ad, cd, rfl⟩ : ∃ Ad cd, vd = .slice Ad done.length cd := by
      obtain ⟨O, P, _, _, hV, _⟩ := HSG.out
      exact Kd.V_slice hV
    by_cases hdl : done.length < l0.length
    · have hdlz : (done.length : Int) < (l0.length : Int) := by omega
      have h := HGO.out
      obtain ⟨d, rfl⟩ : ∃ d, gk = d + 1 := by
        cases gk with
        | zero => rw [spec_l9Groups.go, if_pos hdl] at h; cases h
        | succ d => exact ⟨d, rfl⟩
      rw [spec_l9Groups.go, if_pos hdl] at h
      obtain ⟨og, hfind, h⟩ := Option.bind_eq_some_iff.1 h
      obtain ⟨g, hog, h2⟩ := Option.bind_eq_some_iff.1 h
      subst hog
      obtain ⟨doneF, hput, h3⟩ := Option.bind_eq_some_iff.1 h2
      have HF := Aside0.mk hfind
      have HPUT := Aside0.mk hput
      have HGN := Aside0.mk h3
      clear HGO hfind hput h h2 h3
      go_wp2
      go_loopg [3, 4, 19] l0.length (fun gg s3 s4 s19 wr => ∃ (i : Nat), vo = s3 ∧ s4 = .slice Ad done.length cd ∧ s19 = .int .i64 i ∧ i ≤ l0.length ∧ l0.length - i ≤ gg ∧ Aside0 (spec_l9Groups.find k l0 done (l0.length - i) i = some (some g)) ∧ Aside0 (h_SG w wr out done vo (.slice Ad done.length cd)))
      case atStart => exact ⟨0, rfl, rfl, rfl, Nat.zero_le _, by omega, HF, HSG⟩
      case round =>
        clear HF HSG
        obtain ⟨i, rfl, rfl, rfl, hil, hgg, HF, HSG⟩ := hrel
        have hlt : i < l0.length := by
          rcases Nat.lt_or_ge i l0.length with h_ | h_
          · exact h_
          · have h := HF.out
            rw [show l0.length - i = 0 by omega, spec_l9Groups.find] at h
            cases h
        have hltz : (i : Int) < (l0.length : Int) := by omega
        have h := HF.out
        rw [show l0.length - i = (l0.length - (i + 1)) + 1 by omega, spec_l9Groups.find] at h
        obtain ⟨t, ht, h⟩ := Option.bind_eq_some_iff.1 h
        obtain ⟨O, P, hOP, hS, hV, hB⟩ := HSG.out
        have hVC := Kd.V_reads' hV
        have HAS := Lib.hid (spec_l1Has.calls k Ad cd done (i : Int) t wr hVC.2.2 hVC.2.1 ht)
        cases t with
        | true =>
          rw [if_pos rfl] at h
          have HF2 := Aside0.mk h
          clear h ht hVC hS hV hB HF
          go_wp2_with (go_at_call 44; refine HAS.out.mono ?_; rintro e w2 ⟨rfl, hd⟩; have hb2 := hd.below; clear hd)
          go_roundg (l0.length - (i + 1))
          case measure => omega
          case rel =>
            obtain ⟨O, P, hOP, hS, hV, hB⟩ := HSG.out
            exact ⟨i + 1, rfl, rfl, by go_num, by omega, by omega, HF2, ⟨O, P, hOP, Kd.S_below hS hb2, ⟨Ad, cd, rfl, (Kd.V_reads' hV).2.1, Kd.F_below (Kd.V_F hV) hb2⟩, below_step hB hb2⟩⟩
        | false =>
          rw [if_neg (by simp)] at h
          obtain ⟨g2, hg2, h⟩ := Option.bind_eq_some_iff.1 h
          obtain ⟨xs, hxs, h⟩ := Option.bind_eq_some_iff.1 h
          obtain ⟨bf, hbf, h⟩ := Option.bind_eq_some_iff.1 h
          have HBo := Aside0.mk hB
          have HSo := Aside0.mk (Kd.S_bound hS)
          have HVo := Aside0.mk (Kd.F_bound (Kd.V_F hV))
          have HCl := Aside0.mk hVC.2.1
          have HGC := Lib.hid (fun (W : World) (hb : Below wr.heap.size wr W) => HG.out (i : Int) g2 W (below_step hB hb) hg2)
          have HXC := Lib.hid (fun (W : World) (hb : Below wr.heap.size wr W) => HX.out (i : Int) xs W (below_step hB hb) hxs)
          have HBF := Aside0.mk hbf
          have HNX := Aside0.mk h
          have HOP := Aside0.mk hOP
          clear hB hS hV hVC hg2 hxs hbf h hOP HSG HF ht
          go_wp2_with (first | (go_at_call 44; refine HAS.out.mono ?_; rintro e w2 ⟨rfl, hd⟩; have HB2 := Aside0.mk (show Below wr.heap.size wr w2 from hd.below); clear hd HAS) | (go_at_call 68; refine (HGC.out w2 HB2.out).mono ?_; rintro e w3 ⟨v5, rfl, hR, hb⟩; obtain ⟨Ag, cg, rfl⟩ := Kd.R_slice hR; have HRg := Aside0.mk hR; have HB3 := Aside0.mk hb; clear hR hb HGC) | (go_at_call 69; refine (HXC.out w3 (below_step HB2.out HB3.out)).mono ?_; rintro e w4 ⟨v6, rfl, hV6, hb⟩; obtain ⟨Ax, cx, rfl⟩ := Kd.V_slice hV6; have HVx := Aside0.mk hV6; have HB4 := Aside0.mk hb; clear hV6 hb HXC))
          -- all at w4
          have HB24 : Below wr.heap.size wr w4 := below_step (below_step HB2.out HB3.out) HB4.out
          have hsz2 : wr.heap.size ≤ w2.heap.size := HB2.out.size
          have HS4 := Aside0.mk (Kd.S_below HSo.out HB24)
          have HV4 := Aside0.mk (Kd.F_below HVo.out HB24)
          have HR4 := Aside0.mk (Kd.R_below HRg.out HB4.out)
          have HCx := Aside0.mk (Kd.V_reads' HVx.out).2.2
          have HBw := Aside0.mk (below_step HBo.out HB24)
          have hszw : w.heap.size ≤ wr.heap.size := HBo.out.size
          have hg5 : ∀ k_, some k_ = (.slice Ag g2.length cg : Value).ownBlock → wr.heap.size ≤ k_ ∧ k_ < w4.heap.size := fun k_ e_ => ⟨by have h_ := Kd.R_base HRg.out k_ e_.symm; omega, Kd.R_lt HR4.out k_ e_.symm⟩
          have hN4 : wr.heap.size ≤ w4.heap.size := HB24.size
          have hlow : w.heap.size ≤ w2.heap.size := by omega
          clear HSo HVo HB2 HB3 HB4 HRg HVx HBo HB24 hsz2
          generalize wr.heap.size = N at HS4 HV4 hszw hg5 hN4
          have hxl : xs.length ≤ 9223372036854775807 := HCx.out.2.1
          go_loopg [7, 32] xs.length (fun gg s7 s32 w5 => ∃ (j : Nat) (b : Bool), s7 = .bool b ∧ s32 = .int .i64 j ∧ j ≤ xs.length ∧ xs.length - j ≤ gg ∧ Aside0 (spec_l9Groups.ready k done g2 (xs.drop j) b = some bf) ∧ Aside0 (Below w4.heap.size w4 w5))
          case atStart => exact ⟨0, true, rfl, rfl, Nat.zero_le _, by omega, ⟨by rw [List.drop_zero]; exact HBF.out⟩, ⟨Below.refl _ _⟩⟩
          case round =>
            clear HBF
            obtain ⟨j, b, rfl, rfl, hjl, hgj, HRY, HB5⟩ := hrel
            by_cases hjt : j < xs.length
            · have hjz : (j : Int) < (xs.length : Int) := by omega
              have hj0 : (0 : Int) ≤ (j : Int) := by omega
              have h := HRY.out
              rw [h_drop xs j hjt, spec_l9Groups.ready] at h
              obtain ⟨ad, rfl, hx0⟩ := h_at (Kd.C_below HCx.out HB5.out) j hjt
              generalize xs.getD j 0 = x at h hx0
              cases b with
              | false =>
                rw [if_neg (by simp)] at h
                have HRN := Aside0.mk h
                clear h HRY
                go_wp2
                go_roundg (xs.length - (j + 1))
                case measure => omega
                case rel => exact ⟨j + 1, false, rfl, by go_num, by omega, by omega, HRN, HB5⟩
              | true =>
                rw [if_pos rfl] at h
                obtain ⟨t, ht, h⟩ := Option.bind_eq_some_iff.1 h
                have HA1 := Lib.hid (fun (W : World) (hb : Below w4.heap.size w4 W) => spec_l1Has.calls k Ad cd done x t W (Kd.F_now (Kd.F_below HV4.out hb)) HCl.out ht)
                cases t with
                | true =>
                  rw [if_pos rfl] at h
                  have HRN := Aside0.mk h
                  clear h HRY ht
                  go_wp2_with (first | (go_at_call 44; with_reducible refine (HA1.out _ HB5.out).mono ?_; rintro e w6 ⟨rfl, hd⟩; have HB6 := Aside0.mk (below_step HB5.out hd.below); clear hd))
                  go_roundg (xs.length - (j + 1))
                  case measure => omega
                  case rel => exact ⟨j + 1, true, rfl, by go_num, by omega, by omega, HRN, HB6⟩
                | false =>
                  rw [if_neg (by simp)] at h
                  obtain ⟨u, hu, h⟩ := Option.bind_eq_some_iff.1 h
                  have HA2 := Lib.hid (fun (W : World) (hb : Below w4.heap.size w4 W) => spec_l1Has.calls k Ag cg g2 x u W (Kd.C_below (Kd.R_reads' HR4.out).2.2 hb) (Kd.R_reads' HR4.out).2.1 hu)
                  have HRN := Aside0.mk h
                  clear h HRY ht hu
                  go_wp2_with (first | (go_at_call 44; with_reducible refine (HA1.out _ HB5.out).mono ?_; rintro e w6 ⟨rfl, hd⟩; have HB6 := Aside0.mk (below_step HB5.out hd.below); clear hd) | (go_at_call 44; with_reducible refine (HA2.out _ HB6.out).mono ?_; rintro e w7 ⟨rfl, hd⟩; have HB7 := Aside0.mk (below_step HB6.out hd.below); clear hd))
                  go_roundg (xs.length - (j + 1))
                  case measure => omega
                  case rel => exact ⟨j + 1, u, rfl, by go_num, by omega, by omega, HRN, HB7⟩
            · have hjz : ¬ (j : Int) < (xs.length : Int) := by omega
              have h := HRY.out
              rw [List.drop_of_length_le (by omega), spec_l9Groups.ready] at h
              obtain rfl := Option.some.inj h
              have hn := HNX.out
              clear h HRY HNX
              cases b with
              | false =>
                rw [if_neg (by simp)] at hn
                have HF2 := Aside0.mk hn
                clear hn
                go_wp2
                go_roundg (l0.length - (i + 1))
                case measure => omega
                case rel => exact ⟨i + 1, rfl, rfl, by go_num, by omega, by omega, HF2, ⟨O, fun k_ => P k_ ∧ k_ < N, fun k_ hk hp => HOP.out k_ hk hp.1, Kd.S_mono (Kd.S_below HS4.out HB5.out) (fun _ hk => hk.1), ⟨Ad, cd, rfl, HCl.out, Kd.F_below HV4.out HB5.out⟩, below_step HBw.out HB5.out⟩⟩
              | true =>
                rw [if_pos rfl] at hn
                obtain rfl : g2 = g := by simpa using hn
                clear hn
                have HS5 := Aside0.mk (Kd.S_below HS4.out HB5.out)
                have HV5 := Aside0.mk (Kd.F_below HV4.out HB5.out)
                have HR5 := Aside0.mk (Kd.R_tight rfl (Kd.R_lower (Kd.R_below HR4.out HB5.out) hlow))
                have HBw5 := Aside0.mk (below_step HBw.out HB5.out)
                have hsz5 : w4.heap.size ≤ wr.heap.size := HB5.out.size
                have hovo : ∀ k_, some k_ = vo.ownBlock → O k_ ∧ k_ < N := fun k_ e_ => by
                  have h_ := (Kd.S_R HS5.out).1 k_ e_.symm
                  exact ⟨h_.1, h_.2.2.1⟩
                clear HS4 HV4 HR4 HBw HB5 HCx
                go_wp2_with (first | ((with_reducible refine gate_builtin (b := .append) (xs := #[.tmp 49, .tmp 51]) rfl ?_); at_builtin; refine Kd.S_append (Kd.slice 3 (Kd.int .i64)) (w0 := w) w.heap.size rfl (.tmp 49) (.tmp 51) 22 24 (.slice none 0 0) 24 rfl Try.underlying22 info24 rfl (by decide) (by omega) vo out g2 [.slice Ag g2.length cg] (fun k_ => (O k_ ∧ k_ < N) ∨ some k_ = (.slice Ag g2.length cg : Value).ownBlock ∨ wr.heap.size ≤ k_) (fun k_ => some k_ = (.slice Ag g2.length cg : Value).ownBlock) rfl rfl ?aP ?aK ?aF ?aO ?aB ?aS ?aL ?_; (case aP => exact Kd.M_row HR5.out); (case aK => (intro k_ hk; refine ⟨.inr (.inl hk), fun e_ => ?_⟩; have h1_ := (hovo k_ e_).2; have h2_ := (hg5 k_ hk).1; omega)); (case aF => exact fun k_ hk => .inr (.inr hk)); (case aO => exact Kd.S_mono HS5.out (fun k_ hk => ⟨.inl ⟨hk.1, hk.2.2.1⟩, fun e_ => by have h1_ := (hg5 k_ e_).1; have h2_ := hk.2.2.1; omega⟩)); (case aB => exact HBw5.out); (case aS => exact HBw5.out.size); (case aL => omega); intro v9 w9 hS9 hB9 hg9 hat9; have HS9 := Aside0.mk (Kd.S_mono (ok' := fun k_ => ((O k_ ∧ k_ < N) ∨ some k_ = (.slice Ag g2.length cg : Value).ownBlock ∨ wr.heap.size ≤ k_) ∧ k_ < w9.heap.size) (Kd.S_bound hS9) (fun k_ hk => ⟨hk.1, hk.2.2.1⟩)); have HV9 := Aside0.mk (Kd.F_grown HV5.out hg9 (fun k_ hk e_ => HOP.out k_ (hovo k_ e_).1 hk.1)); have HR9 := Aside0.mk (Kd.R_reads' (Kd.R_grown HR5.out hg9 (fun k_ hk e_ => by have h1_ := (hovo k_ e_).2; have h2_ := (hg5 k_ hk).1; omega))).2.2; have HB9 := Aside0.mk hB9; have hsz9 : wr.heap.size ≤ w9.heap.size := hg9.size; clear hS9 hB9 hg9 hat9))
                clear HS5 HV5 HR5 HBw5
                have hgl : g2.length ≤ 9223372036854775807 := HR9.out.2.1
                generalize wr.heap.size = M at HS9 hsz5 hsz9
                go_loopg [4, 55] g2.length (fun gg s4 s55 w10 => ∃ (j : Nat) (dn : List Int) (vd : Value), vd = s4 ∧ s55 = .int .i64 j ∧ j ≤ g2.length ∧ g2.length - j ≤ gg ∧ Aside0 (spec_l9Groups.put k (g2.drop j) dn = some doneF) ∧ Aside0 (Kd.V (Kd.int .i64) 3 w10 w.heap.size (fun k_ => (P k_ ∧ k_ < N) ∨ w9.heap.size ≤ k_) vd dn) ∧ Aside0 (Below w9.heap.size w9 w10))
                case atStart => exact ⟨0, done, _, rfl, rfl, Nat.zero_le _, by omega, ⟨by rw [List.drop_zero]; exact HPUT.out⟩, ⟨Ad, cd, rfl, HCl.out, Kd.F_mono HV9.out (fun _ hk => .inl hk)⟩, ⟨Below.refl _ _⟩⟩
                case round =>
                  clear HPUT HV9
                  obtain ⟨j2, dn, vd, rfl, rfl, hj2, hgj2, HPT, HV10, HB10⟩ := hrel
                  obtain ⟨Adn, cdn, rfl⟩ := Kd.V_slice HV10.out
                  by_cases hjt : j2 < g2.length
                  · have hjz2 : (j2 : Int) < (g2.length : Int) := by omega
                    have hj02 : (0 : Int) ≤ (j2 : Int) := by omega
                    have h := HPT.out
                    rw [h_drop g2 j2 hjt, spec_l9Groups.put] at h
                    obtain ⟨d2, hd2, h⟩ := Option.bind_eq_some_iff.1 h
                    obtain ⟨ad2, e2_, hx2⟩ := h_at (Kd.C_below HR9.out HB10.out) j2 hjt
                    generalize g2.getD j2 0 = x2 at h hx2 hd2
                    have HPC := Lib.hid (spec_l1Put.calls k (fun k_ => (P k_ ∧ k_ < N) ∨ w9.heap.size ≤ k_) Adn cdn dn x2 d2 wr HV10.out hd2)
                    have HPN := Aside0.mk h
                    have hszr : w9.heap.size ≤ wr.heap.size := HB10.out.size
                    subst e2_
                    clear h HPT hd2
                    go_wp2_with (first | (go_at_call 45; refine HPC.out.mono ?_; rintro e w11 ⟨v11, rfl, hV11, hb⟩; have HV11 := Aside0.mk hV11; have HB11 := Aside0.mk hb; clear hV11 hb HPC))
                    go_roundg (g2.length - (j2 + 1))
                    case measure => omega
                    case rel => exact ⟨j2 + 1, d2, v11, rfl, by go_num, by omega, by omega, HPN, ⟨Kd.V_mono (base := wr.heap.size) HV11.out (fun k_ hk => hk.elim id (fun h_ => .inr (Nat.le_trans hszr h_)))⟩, ⟨below_step HB10.out HB11.out⟩⟩
                  · have hjz2 : ¬ (j2 : Int) < (g2.length : Int) := by omega
                    have h := HPT.out
                    rw [List.drop_of_length_le (by omega), spec_l9Groups.put] at h
                    obtain rfl := Option.some.inj h
                    clear h HPT
                    go_wp2
                    go_roundg d
                    case measure => omega
                    case rel =>
                      refine ⟨out ++ [g2], dn, v9, _, rfl, rfl, by rw [List.length_append, List.length_singleton]; omega, HGN, ⟨_, _, ?_, Kd.S_below HS9.out HB10.out, HV10.out, below_step HB9.out HB10.out⟩⟩
                      intro k_ hk hp
                      rcases hp with hp | hp
                      · rcases hk.1 with hq | hq | hq
                        · exact HOP.out k_ hq.1 hp.1
                        · have := (hg5 k_ hq).1
                          have := hp.2
                          omega
                        · have := hp.2
                          omega
                      · have := hk.2
                        omega
    · have hdlz : ¬ (done.length : Int) < (l0.length : Int) := by omega
      have h := HGO.out
      have e_ : out = r := by
        cases gk with
        | zero => rw [spec_l9Groups.go, if_neg hdl] at h; exact Option.some.inj h
        | succ d => rw [spec_l9Groups.go, if_neg hdl] at h; exact Option.some.inj h
      subst e_
      obtain ⟨O, P, _, hS, _, hB⟩ := HSG.out
      have HS := Aside0.mk hS
      have HB := Aside0.mk hB
      clear hS hB HSG HGO h
      go_wp2
      go_ret
      exact ⟨vo, by first | rfl | simp, Kd.S_mono HS.out (fun _ _ => trivial), HB.out⟩
-- (told above)
set_option maxHeartbeats 8000000 in
set_option maxRecDepth 100000 in
theorem spec_l9Groups.calls (k : Nat) (A0 : Option Addr) (c0 : Nat) (l0 : List (List Int)) (r : List (List Int)) (w : World) (hr0 : Kd.C (Kd.slice 3 (Kd.int .i64)) w A0 l0.length l0) (hc0 : l0.length ≤ c0) (h : spec_l9Groups.f k l0 = some r) :
    Calls Try.prog 39 #[.slice A0 l0.length c0] w fun e w' => ∃ v0_ : Value, e = .returned (v0_) ∧ Kd.S (Kd.slice 3 (Kd.int .i64)) 24 w' w.heap.size (fun _ => True) v0_ r ∧ Below w.heap.size w w' := by
  exact h_sgroups k A0 c0 l0 r w hr0 hc0 h

/-! ### spec_l14Order: function 43 -/
def spec_l14Order.l0 : Nat → List Int → List (List Int) → Int → Int → Option (List Int)
  | 0, _, _, _, _ => none
  | k + 1, x3, x7, x8, x9 => if x9 < x8 then (if 0 ≤ x9 then (if x9 < (x7.length : Int) then (if x3.length + (rd_L1 x7 x9).length < 17592186044416 then (spec_l14Order.l0 k (x3 ++ (rd_L1 x7 x9)) x7 x8 (wrap64 (x9 + 1))) else (none)) else (none)) else (none)) else (some x3)
def spec_l14Order.f (k : Nat) (l0 : List (List Int)) : Option (List Int) := (spec_l9Groups.f k l0).bind fun t209 => (spec_l14Order.l0 k ([] : List Int) t209 (t209.length : Int) 0)
theorem spec_l14Order.mono_l : ∀ k, (∀ y0 y1 y2 y3, LeO (spec_l14Order.l0 k y0 y1 y2 y3) (spec_l14Order.l0 (k + 1) y0 y1 y2 y3))
  | 0 => fun _ _ _ _ r h => by simp [spec_l14Order.l0] at h
  | k + 1 => by
    have ih0 := spec_l14Order.mono_l k
    · intro y0 y1 y2 y3
      unfold spec_l14Order.l0
      repeat' first
      | (with_reducible exact ih0 _ _ _ _)
      | (with_reducible exact spec_l9Groups.mono _ _)
      | (with_reducible exact LeO.refl _)
      | (with_reducible exact LeO.none _)
      | (with_reducible refine LeO.ite ?_ ?_)
      | (with_reducible refine LeO.bind ?_ (fun _ => ?_))
      | exact ih0 _ _ _ _
      | exact spec_l9Groups.mono _ _
      | exact LeO.none _
      | refine LeO.ite ?_ ?_
      | refine LeO.bind ?_ (fun _ => ?_)
theorem spec_l14Order.mono : ∀ a0 k, LeO (spec_l14Order.f k a0) (spec_l14Order.f (k + 1) a0) := by
  intro a0 k
  have ih0 := spec_l14Order.mono_l k
  unfold spec_l14Order.f
  repeat' first
      | (with_reducible exact ih0 _ _ _ _)
      | (with_reducible exact spec_l9Groups.mono _ _)
      | (with_reducible exact LeO.refl _)
      | (with_reducible exact LeO.none _)
      | (with_reducible refine LeO.ite ?_ ?_)
      | (with_reducible refine LeO.bind ?_ (fun _ => ?_))
      | exact ih0 _ _ _ _
      | exact spec_l9Groups.mono _ _
      | exact LeO.none _
      | refine LeO.ite ?_ ?_
      | refine LeO.bind ?_ (fun _ => ?_)
set_option maxHeartbeats 8000000 in
set_option maxRecDepth 100000 in
theorem spec_l14Order.calls (k : Nat) (A0 : Option Addr) (c0 : Nat) (l0 : List (List Int)) (r : List Int) (w : World) (hr0 : Kd.C (Kd.slice 3 (Kd.int .i64)) w A0 l0.length l0) (hc0 : l0.length ≤ c0) (h : spec_l14Order.f k l0 = some r) :
    Calls Try.prog 43 #[.slice A0 l0.length c0] w fun e w' => ∃ v0_ : Value, e = .returned (v0_) ∧ Kd.R (Kd.int .i64) 3 w' w.heap.size (fun _ => True) v0_ r ∧ Below w.heap.size w w' := by
  have HR0 := Aside0.mk hr0
  have HC0 := Aside0.mk hc0
  clear hr0 hc0
  have HB := Aside0.mk (Below.refl w.heap.size w)
  have H : ((spec_l9Groups.f k l0).bind fun t209 => (spec_l14Order.l0 k ([] : List Int) t209 (t209.length : Int) 0)) = some r := h
  clear h
  replace H := Option.bind_eq_some_iff.mp H
  obtain ⟨t209, A20, H⟩ := H
  replace H : (spec_l14Order.l0 k ([] : List Int) t209 (t209.length : Int) 0) = some r := H
  have A2 := Aside0.mk A20
  clear A20
  have H' := Aside0.mk H
  clear H
  go_enter Try.func43, Try.ntmps43
  go_wp2_with (first | ((with_reducible refine gate_callee (f := 39) rfl ?_); refine goesL_ (some 7) rfl rfl Try.func39 (by kernel_rfl) rfl #[.slice A0 l0.length c0] rfl (by (try simp only [List.map_toArray, List.map_cons, List.map_nil]); first | done | rfl | (simp only [List.length_drop, List.length_take]; rfl)) ?_; (with_reducible refine (spec_l9Groups.calls k _ _ l0 t209 _ ?side1 ?side2 A2.out).mono ?_); (case side1 => repeat (first | exact HR0.out | (with_reducible refine Kd.C_alloc ?_ _) | (with_reducible refine Kd.C_drewN ?_ _) | (with_reducible refine Kd.C_drew ?_))); (case side2 => exact HC0.out); rintro e w3 ⟨v210, rfl, ho0, hb⟩; refine ⟨_, rfl, ?_⟩; have n0_ := Aside0.mk (Kd.S_lower ho0 (below_size (by repeat (first | (with_reducible first | exact HB.out | apply below_alloc | apply pw_below_drewN | apply below_drew1) | exact HB.out)))); have n1_ := Aside0.mk (below_step (by repeat (first | (with_reducible first | exact HB.out | apply below_alloc | apply pw_below_drewN | apply below_drew1) | exact HB.out)) hb); clear HB; have HO211 := n0_; have HB := n1_; clear n0_ n1_; (try clear hb); (try clear hb2); (try clear hk); (try clear hi); (try clear ho0); obtain ⟨Ao4, co4, eo4⟩ := Kd.S_slice HO211.out; subst eo4))
  go_loopg [3, 9] k (fun kq v3 v9 w' => ∃ (x3_1 : List Int) (x9_1 : Int), v9 = .int .i64 x9_1 ∧ Aside0 (spec_l14Order.l0 kq x3_1 t209 (t209.length : Int) x9_1 = some r) ∧ Aside0 (kq ≤ k) ∧ Aside0 (Kd.R (Kd.int .i64) 3 w' w.heap.size (fun _ => True) v3 x3_1) ∧ Aside0 (Kd.S (Kd.slice 3 (Kd.int .i64)) 24 w' w.heap.size (fun k_ => some k_ ≠ (v3 : Value).ownBlock) (.slice Ao4 t209.length co4) t209) ∧ Aside0 (Below w.heap.size w w'))
  case atStart => exact ⟨(([] : List Int)), (0), (by first | rfl | (simp; done) | (simp [*]; done)), H', ⟨Nat.le_refl _⟩, ⟨by first | exact Kd.R_nil _ _ _ _ _ | exact Kd.N_nil _ _ _ _ _ | exact Kd.V_nil _ _ _ _ _ | exact Kd.Q_nil _ _ _ _ _ | exact Kd.S_nil _ _ _ _ _⟩, ⟨by (with_reducible repeat (first | apply Kd.S_alloc | apply Kd.S_drewN | apply Kd.S_drew)); exact Kd.S_mono HO211.out (fun _ hk => (by simp [Value.ownBlock]))⟩, ⟨by repeat (first | (with_reducible first | exact HB.out | apply below_alloc | apply pw_below_drewN | apply below_drew1) | exact HB.out)⟩⟩
  case round =>
    clear H'
    try clear p2
    try clear c3
    try clear c4
    obtain ⟨x3_1, x9_1, rfl, HA, HK1, HO_3, HO_7, HB⟩ := hrel
    cases gk with
    | zero => exact absurd HA.out (by simp [spec_l14Order.l0])
    | succ k1 =>
      have H := HA.out
      clear HA
      simp only [spec_l14Order.l0] at H
      by_cases c5 : x9_1 < (t209.length : Int)
      · rw [if_pos c5] at H
        have c5b0 : decide (x9_1 < (t209.length : Int)) = true := decide_eq_true c5
        clear c5
        by_cases c6 : 0 ≤ x9_1
        · rw [if_pos c6] at H
          have c6b0 : decide (0 ≤ x9_1) = true := decide_eq_true c6
          clear c6
          by_cases c7 : x9_1 < (t209.length : Int)
          · rw [if_pos c7] at H
            have c7b0 : decide (x9_1 < (t209.length : Int)) = true := decide_eq_true c7
            clear c7
            by_cases c8 : x3_1.length + (rd_L1 t209 x9_1).length < 17592186044416
            · rw [if_pos c8] at H
              have LMc8 := Aside0.mk c8
              clear c8
              obtain ⟨y213, hy213⟩ : ∃ y_ : List Int, y_ = (x3_1 ++ (rd_L1 t209 x9_1)) := ⟨_, rfl⟩
              replace H : (spec_l14Order.l0 k1 y213 t209 (t209.length : Int) (wrap64 (x9_1 + 1))) = some r := by first | (rw [hy213]; with_reducible exact H) | (have H2_ := (Option.bind_some _ _).symm.trans H; rw [hy213]; with_reducible exact H2_) | (have H2_ := (Option.bind_some _ _).symm.trans H; with_reducible exact H2_) | with_reducible exact H | (rw [hy213]; exact H) | exact H
              have Ny213 := Aside0.mk hy213
              clear hy213
              have H' := Aside0.mk H
              clear H
              have p212 : 0 ≤ (x9_1 : Int) := of_decide_eq_true (by first | (with_reducible assumption) | assumption)
              have q212 : x9_1 < (t209.length : Int) := of_decide_eq_true (by first | (with_reducible assumption) | assumption)
              obtain ⟨ad212, A212_0, c212_0, e212, hx212_0, hl212_0, hi212_0⟩ := at_L1 (Kd.S_reads' HO_7.out).2.2 x9_1 p212 q212
              cases e212
              obtain ⟨ce212, hce212, hMe212, hcc212⟩ := Kd.S_get HO_7.out [] x9_1 p212 (by first | exact q212 | exact of_decide_eq_true (by first | (with_reducible assumption) | assumption) | (have e_ := (Kd.S_reads' HO_7.out).1; omega))
              obtain ⟨ve212_0, rfl, ge212_0⟩ := hMe212
              have hv212_0 := hcc212 0 _ rfl
              rw [Nat.add_zero, show ((Kd.slice 3 (Kd.int .i64))).sz = 1 from rfl, Nat.mul_one] at hv212_0
              replace hv212_0 := Option.some.inj (hv212_0.symm.trans hx212_0)
              rw [hv212_0] at ge212_0
              have HL212_0 := Aside0.mk (show Kd.R (Kd.int .i64) 3 _ _ _ _ (rd_L1 t209 x9_1) from ge212_0)
              clear hv212_0 ge212_0
              clear hcc212 hce212
              have HR212_0 := Aside0.mk hi212_0
              have HC212_0 := Aside0.mk hl212_0
              clear hi212_0 hl212_0
              replace p212 := eq_true p212
              replace q212 := eq_true q212
              go_wp2_with (first | ((with_reducible refine gate_builtin (b := .append) (xs := #[.tmp 13, .tmp 14]) rfl ?_); at_builtin; refine Kd.R_append_rows (Kd.int .i64) (w0 := w) w.heap.size rfl (.tmp 13) (.tmp 14) 24 3 (.int .i64 0) 8 rfl Try.underlying24 info3 rfl (by decide) (by omega) u3 x3_1 (rd_L1 t209 x9_1) _ _ _ (fun _ => True) (fun _ => False) rfl rfl ?aO ?aR (fun _ _ h => h) (fun _ h => h.elim) ?aF ?aB ?aS ?aL ?_; (case aR => repeat (first | exact (by repeat (first | (with_reducible exact HR212_0.out) | (with_reducible refine Kd.C_alloc ?_ _) | (with_reducible refine Kd.C_drewN ?_ _) | (with_reducible refine Kd.C_drew ?_) | exact HR212_0.out)) | (with_reducible refine Kd.C_alloc ?_ _) | (with_reducible refine Kd.C_drewN ?_ _) | (with_reducible refine Kd.C_drew ?_))); (case aB => exact (by repeat (first | (with_reducible first | exact HB.out | apply below_alloc | apply pw_below_drewN | apply below_drew1) | exact HB.out))); (case aF => exact (fun _ _ => trivial)); (case aO => exact (by (with_reducible repeat (first | apply Kd.R_alloc | apply Kd.R_drewN | apply Kd.R_drew)); exact HO_3.out)); (case aS => exact (below_size (by repeat (first | (with_reducible first | exact HB.out | apply below_alloc | apply pw_below_drewN | apply below_drew1) | exact HB.out)))); (case aL => have := LMc8.out; omega); intro v214 w9 ho hb hg hat; rw [← Ny213.out] at ho; have n0_ := Aside0.mk (Kd.S_after (ok := (fun _ => True)) (by (with_reducible repeat (first | apply Kd.S_alloc | apply Kd.S_drewN | apply Kd.S_drew)); exact Kd.S_mono HO_7.out (fun _ hk => ⟨trivial, hk⟩)) hg hat); have n1_ := Aside0.mk (Kd.R_after (ok := (fun k_ => some k_ ≠ (.slice (some ad212) t209.length co4 : Value).ownBlock)) (by (with_reducible repeat (first | apply Kd.R_alloc | apply Kd.R_drewN | apply Kd.R_drew)); exact Kd.R_mono HL212_0.out (fun _ hk => ⟨hk.2, hk.1⟩)) hg hat); have n2_ := Aside0.mk (hb); have n3_ := Aside0.mk (ho); clear HO_7; clear HL212_0; clear HB; clear HO_3; have HO_7 := n0_; have HL212_0 := n1_; have HB := n2_; have HO215 := n3_; clear n0_ n1_ n2_ n3_; clear ho hb hg hat))
              go_roundg k1
              case measure => have := HK1.out; omega
              case rel => exact ⟨(y213), (wrap64 (x9_1 + 1)), (by first | rfl | (simp; done) | (simp [*]; done)), H', ⟨by have := HK1.out; omega⟩, ⟨by (with_reducible repeat (first | apply Kd.R_alloc | apply Kd.R_drewN | apply Kd.R_drew)); exact HO215.out⟩, ⟨by (with_reducible repeat (first | apply Kd.S_alloc | apply Kd.S_drewN | apply Kd.S_drew)); exact Kd.S_mono HO_7.out (fun _ hk => hk.2)⟩, ⟨by repeat (first | (with_reducible first | exact HB.out | apply below_alloc | apply pw_below_drewN | apply below_drew1) | exact HB.out)⟩⟩
            · rw [if_neg c8] at H
              exact absurd H (by simp)
          · rw [if_neg c7] at H
            exact absurd H (by simp)
        · rw [if_neg c6] at H
          exact absurd H (by simp)
      · rw [if_neg c5] at H
        have c5b0 : decide (x9_1 < (t209.length : Int)) = false := decide_eq_false c5
        clear c5
        obtain rfl := Option.some.inj H
        go_wp2
        go_ret
        exact ⟨_, by first | rfl | (simp [errW_none, errW_some] <;> rfl) | (simp [*, errW_none, errW_some] <;> rfl), by (with_reducible repeat (first | apply Kd.R_alloc | apply Kd.R_drewN | apply Kd.R_drew)); exact HO_3.out, by repeat (first | (with_reducible first | exact HB.out | apply below_alloc | apply pw_below_drewN | apply below_drew1) | exact HB.out)⟩

/-! ### spec_l5Sub: function 51 -/
def spec_l5Sub.l0 : Nat → List Int → List Int → Int → Int → Option (Bool)
  | 0, _, _, _, _ => none
  | k + 1, x1, x7, x8, x9 => if x9 < x8 then (if 0 ≤ x9 then (if x9 < (x7.length : Int) then ((spec_l1Has.f k x1 (rd x7 x9)).bind fun t217 => (if t217 = true then (spec_l5Sub.l0 k x1 x7 x8 (wrap64 (x9 + 1))) else (some false))) else (none)) else (none)) else (some true)
def spec_l5Sub.f (k : Nat) (l0 : List Int) (l1 : List Int) : Option (Bool) := spec_l5Sub.l0 k l1 l0 (l0.length : Int) 0
theorem spec_l5Sub.mono_l : ∀ k, (∀ y0 y1 y2 y3, LeO (spec_l5Sub.l0 k y0 y1 y2 y3) (spec_l5Sub.l0 (k + 1) y0 y1 y2 y3))
  | 0 => fun _ _ _ _ r h => by simp [spec_l5Sub.l0] at h
  | k + 1 => by
    have ih0 := spec_l5Sub.mono_l k
    · intro y0 y1 y2 y3
      unfold spec_l5Sub.l0
      repeat' first
      | (with_reducible exact ih0 _ _ _ _)
      | (with_reducible exact spec_l1Has.mono _ _ _)
      | (with_reducible exact LeO.refl _)
      | (with_reducible exact LeO.none _)
      | (with_reducible refine LeO.ite ?_ ?_)
      | (with_reducible refine LeO.bind ?_ (fun _ => ?_))
      | exact ih0 _ _ _ _
      | exact spec_l1Has.mono _ _ _
      | exact LeO.none _
      | refine LeO.ite ?_ ?_
      | refine LeO.bind ?_ (fun _ => ?_)
theorem spec_l5Sub.mono : ∀ a0 a1 k, LeO (spec_l5Sub.f k a0 a1) (spec_l5Sub.f (k + 1) a0 a1) := by
  intro a0 a1 k
  have ih0 := spec_l5Sub.mono_l k
  unfold spec_l5Sub.f
  repeat' first
      | (with_reducible exact ih0 _ _ _ _)
      | (with_reducible exact spec_l1Has.mono _ _ _)
      | (with_reducible exact LeO.refl _)
      | (with_reducible exact LeO.none _)
      | (with_reducible refine LeO.ite ?_ ?_)
      | (with_reducible refine LeO.bind ?_ (fun _ => ?_))
      | exact ih0 _ _ _ _
      | exact spec_l1Has.mono _ _ _
      | exact LeO.none _
      | refine LeO.ite ?_ ?_
      | refine LeO.bind ?_ (fun _ => ?_)
set_option maxHeartbeats 8000000 in
set_option maxRecDepth 100000 in
theorem spec_l5Sub.calls (k : Nat) (A0 : Option Addr) (c0 : Nat) (l0 : List Int) (A1 : Option Addr) (c1 : Nat) (l1 : List Int) (r : Bool) (w : World) (hr0 : Kd.C (Kd.int .i64) w A0 l0.length l0) (hc0 : l0.length ≤ c0) (hr1 : Kd.C (Kd.int .i64) w A1 l1.length l1) (hc1 : l1.length ≤ c1) (h : spec_l5Sub.f k l0 l1 = some r) :
    Calls Try.prog 51 #[.slice A0 l0.length c0, .slice A1 l1.length c1] w fun e w' => e = .returned (.bool r) ∧ Drawn0 w w' := by
  have HR0 := Aside0.mk hr0
  have HC0 := Aside0.mk hc0
  clear hr0 hc0
  have HR1 := Aside0.mk hr1
  have HC1 := Aside0.mk hc1
  clear hr1 hc1
  have H : (spec_l5Sub.l0 k l1 l0 (l0.length : Int) 0) = some r := h
  clear h
  have H' := Aside0.mk H
  clear H
  go_enter Try.func51, Try.ntmps51
  go_wp2
  go_loopg [9] k (fun kq v9 w' => ∃ (x9_1 : Int), v9 = .int .i64 x9_1 ∧ Aside0 (spec_l5Sub.l0 kq l1 l0 (l0.length : Int) x9_1 = some r) ∧ Aside0 (kq ≤ k) ∧ Drawn0 w w')
  case atStart => exact ⟨(0), (by first | rfl | (simp; done) | (simp [*]; done)), H', ⟨Nat.le_refl _⟩, by repeat (first | exact Drawn0.refl _ | apply Drawn0.step)⟩
  case round =>
    clear H'
    try clear c1
    try clear p2
    obtain ⟨x9_1, rfl, HA, HK1, ⟨m1, rfl⟩⟩ := hrel
    cases gk with
    | zero => exact absurd HA.out (by simp [spec_l5Sub.l0])
    | succ k1 =>
      have H := HA.out
      clear HA
      simp only [spec_l5Sub.l0] at H
      by_cases c3 : x9_1 < (l0.length : Int)
      · rw [if_pos c3] at H
        have c3b0 : decide (x9_1 < (l0.length : Int)) = true := decide_eq_true c3
        clear c3
        by_cases c4 : 0 ≤ x9_1
        · rw [if_pos c4] at H
          have c4b0 : decide (0 ≤ x9_1) = true := decide_eq_true c4
          clear c4
          by_cases c5 : x9_1 < (l0.length : Int)
          · rw [if_pos c5] at H
            have c5b0 : decide (x9_1 < (l0.length : Int)) = true := decide_eq_true c5
            clear c5
            replace H := Option.bind_eq_some_iff.mp H
            obtain ⟨t217, A60, H⟩ := H
            replace H : (if t217 = true then (spec_l5Sub.l0 k1 l1 l0 (l0.length : Int) (wrap64 (x9_1 + 1))) else (some false)) = some r := H
            have A6 := Aside0.mk A60
            clear A60
            by_cases c7 : t217 = true
            · subst c7
              have H1 : (spec_l5Sub.l0 k1 l1 l0 (l0.length : Int) (wrap64 (x9_1 + 1))) = some r := by rw [if_pos rfl] at H; exact H
              clear H
              have H := H1
              clear H1
              have H' := Aside0.mk H
              clear H
              have p216 : 0 ≤ (x9_1 : Int) := of_decide_eq_true (by first | (with_reducible assumption) | assumption)
              have q216 : x9_1 < (l0.length : Int) := of_decide_eq_true (by first | (with_reducible assumption) | assumption)
              obtain ⟨ad216, e216, hx216_0⟩ := Kd.at_int HR0.out x9_1 p216 q216
              cases e216
              replace p216 := eq_true p216
              replace q216 := eq_true q216
              go_wp2_with (first | ((with_reducible refine gate_callee (f := 44) rfl ?_); refine goesL_ (some 15) rfl rfl Try.func44 (by kernel_rfl) rfl #[.slice A1 l1.length c1, .int .i64 (rd l0 x9_1)] rfl (by (try simp only [List.map_toArray, List.map_cons, List.map_nil]); first | done | rfl | (simp only [List.length_drop, List.length_take]; rfl)) ?_; (with_reducible refine (spec_l1Has.calls k1 _ _ l1 (rd l0 x9_1) true _ ?side1 ?side2 A6.out).mono ?_); (case side1 => repeat (first | exact HR1.out | (with_reducible refine Kd.C_alloc ?_ _) | (with_reducible refine Kd.C_drewN ?_ _) | (with_reducible refine Kd.C_drew ?_))); (case side2 => exact HC1.out); rintro e w' ⟨rfl, ⟨nd, rfl⟩⟩; refine ⟨_, rfl, ?_⟩))
              go_roundg k1
              case measure => have := HK1.out; omega
              case rel => exact ⟨(wrap64 (x9_1 + 1)), (by first | rfl | (simp; done) | (simp [*]; done)), H', ⟨by have := HK1.out; omega⟩, by repeat (first | exact Drawn0.refl _ | apply Drawn0.step)⟩
            · replace c7 := Bool.eq_false_iff.mpr c7
              subst c7
              have H1 : (some false) = some r := by rw [if_neg (show ¬ (false = true) by decide)] at H; exact H
              clear H
              have H := H1
              clear H1
              obtain rfl := Option.some.inj H
              have p216 : 0 ≤ (x9_1 : Int) := of_decide_eq_true (by first | (with_reducible assumption) | assumption)
              have q216 : x9_1 < (l0.length : Int) := of_decide_eq_true (by first | (with_reducible assumption) | assumption)
              obtain ⟨ad216, e216, hx216_0⟩ := Kd.at_int HR0.out x9_1 p216 q216
              cases e216
              replace p216 := eq_true p216
              replace q216 := eq_true q216
              go_wp2_with (first | ((with_reducible refine gate_callee (f := 44) rfl ?_); refine goesL_ (some 15) rfl rfl Try.func44 (by kernel_rfl) rfl #[.slice A1 l1.length c1, .int .i64 (rd l0 x9_1)] rfl (by (try simp only [List.map_toArray, List.map_cons, List.map_nil]); first | done | rfl | (simp only [List.length_drop, List.length_take]; rfl)) ?_; (with_reducible refine (spec_l1Has.calls k1 _ _ l1 (rd l0 x9_1) false _ ?side1 ?side2 A6.out).mono ?_); (case side1 => repeat (first | exact HR1.out | (with_reducible refine Kd.C_alloc ?_ _) | (with_reducible refine Kd.C_drewN ?_ _) | (with_reducible refine Kd.C_drew ?_))); (case side2 => exact HC1.out); rintro e w' ⟨rfl, ⟨nd, rfl⟩⟩; refine ⟨_, rfl, ?_⟩))
              go_ret
              exact ⟨by first | rfl | (simp; done) | (simp [*]; done), by repeat (first | exact Drawn0.refl _ | apply Drawn0.step)⟩
          · rw [if_neg c5] at H
            exact absurd H (by simp)
        · rw [if_neg c4] at H
          exact absurd H (by simp)
      · rw [if_neg c3] at H
        have c3b0 : decide (x9_1 < (l0.length : Int)) = false := decide_eq_false c3
        clear c3
        obtain rfl := Option.some.inj H
        go_wp2
        go_ret
        exact ⟨by first | rfl | (simp; done) | (simp [*]; done), by repeat (first | exact Drawn0.refl _ | apply Drawn0.step)⟩

/-! ### spec_l14Ready: function 85 -/
def spec_l14Ready.l0 : Nat → List (List Int) → List Int → List Int → List Int → Int → Int → Option (List Int)
  | 0, _, _, _, _, _, _ => none
  | k + 1, x0, x1, x5, x8, x9, x10 => if x10 < x9 then (if 0 ≤ x10 then (if x10 < (x8.length : Int) then ((spec_l9Reach.f k x0 (rd x8 x10)).bind fun t219 => ((spec_l5Sub.f k t219 x1).bind fun t222 => (if t222 = true then (if x5.length < 17592186044416 then (spec_l14Ready.l0 k x0 x1 (x5 ++ [rd x8 x10]) x8 x9 (wrap64 (x10 + 1))) else (none)) else (spec_l14Ready.l0 k x0 x1 x5 x8 x9 (wrap64 (x10 + 1)))))) else (none)) else (none)) else (some x5)
def spec_l14Ready.f (k : Nat) (l0 : List (List Int)) (l1 : List Int) : Option (List Int) := spec_l14Ready.l0 k l0 l1 ([] : List Int) l1 (l1.length : Int) 0
theorem spec_l14Ready.mono_l : ∀ k, (∀ y0 y1 y2 y3 y4 y5, LeO (spec_l14Ready.l0 k y0 y1 y2 y3 y4 y5) (spec_l14Ready.l0 (k + 1) y0 y1 y2 y3 y4 y5))
  | 0 => fun _ _ _ _ _ _ r h => by simp [spec_l14Ready.l0] at h
  | k + 1 => by
    have ih0 := spec_l14Ready.mono_l k
    · intro y0 y1 y2 y3 y4 y5
      unfold spec_l14Ready.l0
      repeat' first
      | (with_reducible exact ih0 _ _ _ _ _ _)
      | (with_reducible exact spec_l5Sub.mono _ _ _)
      | (with_reducible exact spec_l9Reach.mono _ _ _)
      | (with_reducible exact LeO.refl _)
      | (with_reducible exact LeO.none _)
      | (with_reducible refine LeO.ite ?_ ?_)
      | (with_reducible refine LeO.bind ?_ (fun _ => ?_))
      | exact ih0 _ _ _ _ _ _
      | exact spec_l5Sub.mono _ _ _
      | exact spec_l9Reach.mono _ _ _
      | exact LeO.none _
      | refine LeO.ite ?_ ?_
      | refine LeO.bind ?_ (fun _ => ?_)
theorem spec_l14Ready.mono : ∀ a0 a1 k, LeO (spec_l14Ready.f k a0 a1) (spec_l14Ready.f (k + 1) a0 a1) := by
  intro a0 a1 k
  have ih0 := spec_l14Ready.mono_l k
  unfold spec_l14Ready.f
  repeat' first
      | (with_reducible exact ih0 _ _ _ _ _ _)
      | (with_reducible exact spec_l5Sub.mono _ _ _)
      | (with_reducible exact spec_l9Reach.mono _ _ _)
      | (with_reducible exact LeO.refl _)
      | (with_reducible exact LeO.none _)
      | (with_reducible refine LeO.ite ?_ ?_)
      | (with_reducible refine LeO.bind ?_ (fun _ => ?_))
      | exact ih0 _ _ _ _ _ _
      | exact spec_l5Sub.mono _ _ _
      | exact spec_l9Reach.mono _ _ _
      | exact LeO.none _
      | refine LeO.ite ?_ ?_
      | refine LeO.bind ?_ (fun _ => ?_)
set_option maxHeartbeats 8000000 in
set_option maxRecDepth 100000 in
theorem spec_l14Ready.calls (k : Nat) (A0 : Option Addr) (c0 : Nat) (l0 : List (List Int)) (A1 : Option Addr) (c1 : Nat) (l1 : List Int) (r : List Int) (w : World) (hr0 : Kd.C (Kd.slice 3 (Kd.int .i64)) w A0 l0.length l0) (hc0 : l0.length ≤ c0) (hr1 : Kd.C (Kd.int .i64) w A1 l1.length l1) (hc1 : l1.length ≤ c1) (h : spec_l14Ready.f k l0 l1 = some r) :
    Calls Try.prog 85 #[.slice A0 l0.length c0, .slice A1 l1.length c1] w fun e w' => ∃ v0_ : Value, e = .returned (v0_) ∧ Kd.R (Kd.int .i64) 3 w' w.heap.size (fun _ => True) v0_ r ∧ Below w.heap.size w w' := by
  have HR0 := Aside0.mk hr0
  have HC0 := Aside0.mk hc0
  clear hr0 hc0
  have HR1 := Aside0.mk hr1
  have HC1 := Aside0.mk hc1
  clear hr1 hc1
  have HB := Aside0.mk (Below.refl w.heap.size w)
  have H : (spec_l14Ready.l0 k l0 l1 ([] : List Int) l1 (l1.length : Int) 0) = some r := h
  clear h
  have H' := Aside0.mk H
  clear H
  go_enter Try.func85, Try.ntmps85
  go_wp2
  go_loopg [5, 10] k (fun kq v5 v10 w' => ∃ (x5_1 : List Int) (x10_1 : Int), v10 = .int .i64 x10_1 ∧ Aside0 (spec_l14Ready.l0 kq l0 l1 x5_1 l1 (l1.length : Int) x10_1 = some r) ∧ Aside0 (kq ≤ k) ∧ Aside0 (Kd.R (Kd.int .i64) 3 w' w.heap.size (fun _ => True) v5 x5_1) ∧ Aside0 (Below w.heap.size w w'))
  case atStart => exact ⟨(([] : List Int)), (0), (by first | rfl | (simp; done) | (simp [*]; done)), H', ⟨Nat.le_refl _⟩, ⟨by first | exact Kd.R_nil _ _ _ _ _ | exact Kd.N_nil _ _ _ _ _ | exact Kd.V_nil _ _ _ _ _ | exact Kd.Q_nil _ _ _ _ _ | exact Kd.S_nil _ _ _ _ _⟩, ⟨by repeat (first | (with_reducible first | exact HB.out | apply below_alloc | apply pw_below_drewN | apply below_drew1) | exact HB.out)⟩⟩
  case round =>
    clear H'
    try clear c1
    try clear p2
    obtain ⟨x5_1, x10_1, rfl, HA, HK1, HO_5, HB⟩ := hrel
    cases gk with
    | zero => exact absurd HA.out (by simp [spec_l14Ready.l0])
    | succ k1 =>
      have H := HA.out
      clear HA
      simp only [spec_l14Ready.l0] at H
      by_cases c3 : x10_1 < (l1.length : Int)
      · rw [if_pos c3] at H
        have c3b0 : decide (x10_1 < (l1.length : Int)) = true := decide_eq_true c3
        clear c3
        by_cases c4 : 0 ≤ x10_1
        · rw [if_pos c4] at H
          have c4b0 : decide (0 ≤ x10_1) = true := decide_eq_true c4
          clear c4
          by_cases c5 : x10_1 < (l1.length : Int)
          · rw [if_pos c5] at H
            have c5b0 : decide (x10_1 < (l1.length : Int)) = true := decide_eq_true c5
            clear c5
            replace H := Option.bind_eq_some_iff.mp H
            obtain ⟨t219, A60, H⟩ := H
            replace H : ((spec_l5Sub.f k1 t219 l1).bind fun t222 => (if t222 = true then (if x5_1.length < 17592186044416 then (spec_l14Ready.l0 k1 l0 l1 (x5_1 ++ [rd l1 x10_1]) l1 (l1.length : Int) (wrap64 (x10_1 + 1))) else (none)) else (spec_l14Ready.l0 k1 l0 l1 x5_1 l1 (l1.length : Int) (wrap64 (x10_1 + 1))))) = some r := H
            have A6 := Aside0.mk A60
            clear A60
            replace H := Option.bind_eq_some_iff.mp H
            obtain ⟨t222, A70, H⟩ := H
            replace H : (if t222 = true then (if x5_1.length < 17592186044416 then (spec_l14Ready.l0 k1 l0 l1 (x5_1 ++ [rd l1 x10_1]) l1 (l1.length : Int) (wrap64 (x10_1 + 1))) else (none)) else (spec_l14Ready.l0 k1 l0 l1 x5_1 l1 (l1.length : Int) (wrap64 (x10_1 + 1)))) = some r := H
            have A7 := Aside0.mk A70
            clear A70
            by_cases c8 : t222 = true
            · subst c8
              have H1 : (if x5_1.length < 17592186044416 then (spec_l14Ready.l0 k1 l0 l1 (x5_1 ++ [rd l1 x10_1]) l1 (l1.length : Int) (wrap64 (x10_1 + 1))) else (none)) = some r := by rw [if_pos rfl] at H; exact H
              clear H
              have H := H1
              clear H1
              by_cases c9 : x5_1.length < 17592186044416
              · rw [if_pos c9] at H
                have LMc9 := Aside0.mk c9
                clear c9
                obtain ⟨y223, hy223⟩ : ∃ y_ : List Int, y_ = (x5_1 ++ [rd l1 x10_1]) := ⟨_, rfl⟩
                replace H : (spec_l14Ready.l0 k1 l0 l1 y223 l1 (l1.length : Int) (wrap64 (x10_1 + 1))) = some r := by first | (rw [hy223]; with_reducible exact H) | (have H2_ := (Option.bind_some _ _).symm.trans H; rw [hy223]; with_reducible exact H2_) | (have H2_ := (Option.bind_some _ _).symm.trans H; with_reducible exact H2_) | with_reducible exact H | (rw [hy223]; exact H) | exact H
                have Ny223 := Aside0.mk hy223
                clear hy223
                have H' := Aside0.mk H
                clear H
                have p218 : 0 ≤ (x10_1 : Int) := of_decide_eq_true (by first | (with_reducible assumption) | assumption)
                have q218 : x10_1 < (l1.length : Int) := of_decide_eq_true (by first | (with_reducible assumption) | assumption)
                obtain ⟨ad218, e218, hx218_0⟩ := Kd.at_int HR1.out x10_1 p218 q218
                cases e218
                replace hx218_0 := (HB.out.cell (World.block_lt_of_cell? w _ hx218_0)).trans hx218_0
                replace p218 := eq_true p218
                replace q218 := eq_true q218
                go_wp2_with (first | ((with_reducible refine gate_callee (f := 69) rfl ?_); refine goesL_ (some 16) rfl rfl Try.func69 (by kernel_rfl) rfl #[.slice A0 l0.length c0, .int .i64 (rd l1 x10_1)] rfl (by (try simp only [List.map_toArray, List.map_cons, List.map_nil]); first | done | rfl | (simp only [List.length_drop, List.length_take]; rfl)) ?_; (with_reducible refine (spec_l9Reach.calls k1 _ _ l0 (rd l1 x10_1) t219 _ ?side1 ?side2 A6.out).mono ?_); (case side1 => repeat (first | exact (Kd.C_below HR0.out HB.out) | (with_reducible refine Kd.C_alloc ?_ _) | (with_reducible refine Kd.C_drewN ?_ _) | (with_reducible refine Kd.C_drew ?_))); (case side2 => exact HC0.out); rintro e w10 ⟨v220, rfl, ho0, hb⟩; refine ⟨_, rfl, ?_⟩; have n0_ := Aside0.mk (Kd.R_below (by (with_reducible repeat (first | apply Kd.R_alloc | apply Kd.R_drewN | apply Kd.R_drew)); exact HO_5.out) hb); have n1_ := Aside0.mk (Kd.V_lower (Kd.V_mono (ok' := fun k_ => some k_ ≠ (u5 : Value).ownBlock) ho0 (fun k_ hk_ => (Kd.fresh' (Kd.R_lt (by (with_reducible repeat (first | apply Kd.R_alloc | apply Kd.R_drewN | apply Kd.R_drew)); exact HO_5.out)) k_ hk_))) (below_size (by repeat (first | (with_reducible first | exact HB.out | apply below_alloc | apply pw_below_drewN | apply below_drew1) | exact HB.out)))); have n2_ := Aside0.mk (below_step (by repeat (first | (with_reducible first | exact HB.out | apply below_alloc | apply pw_below_drewN | apply below_drew1) | exact HB.out)) hb); clear HO_5; clear HB; have HO_5 := n0_; have HO221 := n1_; have HB := n2_; clear n0_ n1_ n2_; (try clear hb); (try clear hb2); (try clear hk); (try clear hi); (try clear ho0); obtain ⟨Ao11, co11, eo11⟩ := Kd.V_slice HO221.out; subst eo11) | ((with_reducible refine gate_callee (f := 51) rfl ?_); refine goesL_ (some 18) rfl rfl Try.func51 (by kernel_rfl) rfl #[.slice Ao11 t219.length co11, .slice (some ad218) l1.length c1] rfl (by (try simp only [List.map_toArray, List.map_cons, List.map_nil]); first | done | rfl | (simp only [List.length_drop, List.length_take]; rfl)) ?_; (with_reducible refine (spec_l5Sub.calls k1 _ _ t219 _ _ l1 true _ ?side1 ?side2 ?side3 ?side4 A7.out).mono ?_); (case side1 => repeat (first | exact (Kd.V_reads' HO221.out).2.2 | (with_reducible refine Kd.C_alloc ?_ _) | (with_reducible refine Kd.C_drewN ?_ _) | (with_reducible refine Kd.C_drew ?_))); (case side2 => exact (Kd.V_reads' HO221.out).2.1); (case side3 => repeat (first | exact (Kd.C_below HR1.out HB.out) | (with_reducible refine Kd.C_alloc ?_ _) | (with_reducible refine Kd.C_drewN ?_ _) | (with_reducible refine Kd.C_drew ?_))); (case side4 => exact HC1.out); rintro e w' ⟨rfl, ⟨nd, rfl⟩⟩; refine ⟨_, rfl, ?_⟩) | ((with_reducible refine gate_builtin (b := .append) (xs := #[.tmp 19, .tmp 21]) rfl ?_); at_builtin; refine Kd.R_append (Kd.int .i64) (w0 := w) w.heap.size rfl (.tmp 19) (.tmp 21) 24 3 (.int .i64 0) 8 rfl Try.underlying24 info3 rfl (by decide) (by omega) u5 x5_1 (rd l1 x10_1) [.int .i64 (rd l1 x10_1)] (fun _ => True) (fun _ => False) rfl rfl ?aP (fun _ hk => hk.elim) ?aF ?aO ?aB ?aS ?aL ?_; (case aP => exact rfl); (case aB => exact (by repeat (first | (with_reducible first | exact HB.out | apply below_alloc | apply pw_below_drewN | apply below_drew1) | exact HB.out))); (case aF => exact (fun _ _ => trivial)); (case aO => exact (by (with_reducible repeat (first | apply Kd.R_alloc | apply Kd.R_drewN | apply Kd.R_drew)); exact HO_5.out)); (case aS => exact (below_size (by repeat (first | (with_reducible first | exact HB.out | apply below_alloc | apply pw_below_drewN | apply below_drew1) | exact HB.out)))); (case aL => have := LMc9.out; omega); intro v224 w12 ho hb hg hat; rw [← Ny223.out] at ho; have n0_ := Aside0.mk (Kd.V_afterv (ok := (fun _ => True)) (by (with_reducible repeat (first | apply Kd.V_alloc | apply Kd.V_drewN | apply Kd.V_drew)); exact Kd.V_mono HO221.out (fun _ hk => ⟨trivial, hk⟩)) hg hat); have n1_ := Aside0.mk (hb); have n2_ := Aside0.mk (ho); clear HO221; clear HB; clear HO_5; have HO221 := n0_; have HB := n1_; have HO225 := n2_; clear n0_ n1_ n2_; clear ho hb hg hat))
                go_roundg k1
                case measure => have := HK1.out; omega
                case rel => exact ⟨(y223), (wrap64 (x10_1 + 1)), (by first | rfl | (simp; done) | (simp [*]; done)), H', ⟨by have := HK1.out; omega⟩, ⟨by (with_reducible repeat (first | apply Kd.R_alloc | apply Kd.R_drewN | apply Kd.R_drew)); exact HO225.out⟩, ⟨by repeat (first | (with_reducible first | exact HB.out | apply below_alloc | apply pw_below_drewN | apply below_drew1) | exact HB.out)⟩⟩
              · rw [if_neg c9] at H
                exact absurd H (by simp)
            · replace c8 := Bool.eq_false_iff.mpr c8
              subst c8
              have H1 : (spec_l14Ready.l0 k1 l0 l1 x5_1 l1 (l1.length : Int) (wrap64 (x10_1 + 1))) = some r := by rw [if_neg (show ¬ (false = true) by decide)] at H; exact H
              clear H
              have H := H1
              clear H1
              have H' := Aside0.mk H
              clear H
              have p218 : 0 ≤ (x10_1 : Int) := of_decide_eq_true (by first | (with_reducible assumption) | assumption)
              have q218 : x10_1 < (l1.length : Int) := of_decide_eq_true (by first | (with_reducible assumption) | assumption)
              obtain ⟨ad218, e218, hx218_0⟩ := Kd.at_int HR1.out x10_1 p218 q218
              cases e218
              replace hx218_0 := (HB.out.cell (World.block_lt_of_cell? w _ hx218_0)).trans hx218_0
              replace p218 := eq_true p218
              replace q218 := eq_true q218
              go_wp2_with (first | ((with_reducible refine gate_callee (f := 69) rfl ?_); refine goesL_ (some 16) rfl rfl Try.func69 (by kernel_rfl) rfl #[.slice A0 l0.length c0, .int .i64 (rd l1 x10_1)] rfl (by (try simp only [List.map_toArray, List.map_cons, List.map_nil]); first | done | rfl | (simp only [List.length_drop, List.length_take]; rfl)) ?_; (with_reducible refine (spec_l9Reach.calls k1 _ _ l0 (rd l1 x10_1) t219 _ ?side1 ?side2 A6.out).mono ?_); (case side1 => repeat (first | exact (Kd.C_below HR0.out HB.out) | (with_reducible refine Kd.C_alloc ?_ _) | (with_reducible refine Kd.C_drewN ?_ _) | (with_reducible refine Kd.C_drew ?_))); (case side2 => exact HC0.out); rintro e w13 ⟨v220, rfl, ho0, hb⟩; refine ⟨_, rfl, ?_⟩; have n0_ := Aside0.mk (Kd.R_below (by (with_reducible repeat (first | apply Kd.R_alloc | apply Kd.R_drewN | apply Kd.R_drew)); exact HO_5.out) hb); have n1_ := Aside0.mk (Kd.V_lower (Kd.V_mono (ok' := fun k_ => some k_ ≠ (u5 : Value).ownBlock) ho0 (fun k_ hk_ => (Kd.fresh' (Kd.R_lt (by (with_reducible repeat (first | apply Kd.R_alloc | apply Kd.R_drewN | apply Kd.R_drew)); exact HO_5.out)) k_ hk_))) (below_size (by repeat (first | (with_reducible first | exact HB.out | apply below_alloc | apply pw_below_drewN | apply below_drew1) | exact HB.out)))); have n2_ := Aside0.mk (below_step (by repeat (first | (with_reducible first | exact HB.out | apply below_alloc | apply pw_below_drewN | apply below_drew1) | exact HB.out)) hb); clear HO_5; clear HB; have HO_5 := n0_; have HO221 := n1_; have HB := n2_; clear n0_ n1_ n2_; (try clear hb); (try clear hb2); (try clear hk); (try clear hi); (try clear ho0); obtain ⟨Ao14, co14, eo14⟩ := Kd.V_slice HO221.out; subst eo14) | ((with_reducible refine gate_callee (f := 51) rfl ?_); refine goesL_ (some 18) rfl rfl Try.func51 (by kernel_rfl) rfl #[.slice Ao14 t219.length co14, .slice (some ad218) l1.length c1] rfl (by (try simp only [List.map_toArray, List.map_cons, List.map_nil]); first | done | rfl | (simp only [List.length_drop, List.length_take]; rfl)) ?_; (with_reducible refine (spec_l5Sub.calls k1 _ _ t219 _ _ l1 false _ ?side1 ?side2 ?side3 ?side4 A7.out).mono ?_); (case side1 => repeat (first | exact (Kd.V_reads' HO221.out).2.2 | (with_reducible refine Kd.C_alloc ?_ _) | (with_reducible refine Kd.C_drewN ?_ _) | (with_reducible refine Kd.C_drew ?_))); (case side2 => exact (Kd.V_reads' HO221.out).2.1); (case side3 => repeat (first | exact (Kd.C_below HR1.out HB.out) | (with_reducible refine Kd.C_alloc ?_ _) | (with_reducible refine Kd.C_drewN ?_ _) | (with_reducible refine Kd.C_drew ?_))); (case side4 => exact HC1.out); rintro e w' ⟨rfl, ⟨nd, rfl⟩⟩; refine ⟨_, rfl, ?_⟩))
              go_roundg k1
              case measure => have := HK1.out; omega
              case rel => exact ⟨(x5_1), (wrap64 (x10_1 + 1)), (by first | rfl | (simp; done) | (simp [*]; done)), H', ⟨by have := HK1.out; omega⟩, ⟨by (with_reducible repeat (first | apply Kd.R_alloc | apply Kd.R_drewN | apply Kd.R_drew)); exact HO_5.out⟩, ⟨by repeat (first | (with_reducible first | exact HB.out | apply below_alloc | apply pw_below_drewN | apply below_drew1) | exact HB.out)⟩⟩
          · rw [if_neg c5] at H
            exact absurd H (by simp)
        · rw [if_neg c4] at H
          exact absurd H (by simp)
      · rw [if_neg c3] at H
        have c3b0 : decide (x10_1 < (l1.length : Int)) = false := decide_eq_false c3
        clear c3
        obtain rfl := Option.some.inj H
        go_wp2
        go_ret
        exact ⟨_, by first | rfl | (simp [errW_none, errW_some] <;> rfl) | (simp [*, errW_none, errW_some] <;> rfl), by (with_reducible repeat (first | apply Kd.R_alloc | apply Kd.R_drewN | apply Kd.R_drew)); exact HO_5.out, by repeat (first | (with_reducible first | exact HB.out | apply below_alloc | apply pw_below_drewN | apply below_drew1) | exact HB.out)⟩

end Go.Proofs.Yteokbemieooeaaa.PFnExactDoneBy
