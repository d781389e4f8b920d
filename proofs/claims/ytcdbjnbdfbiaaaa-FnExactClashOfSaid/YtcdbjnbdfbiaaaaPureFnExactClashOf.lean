/- The law FnExactClashOf: the program's function tells what the reference tells, for all arguments; here: of the two as plain functions of numbers and lists. -/
import Derived.Test.YtcdbjnbdfbiaaaaQFnExactClashOf
namespace Go.Proofs.Ytcdbjnbdfbiaaaa.Pure
open Go.RowKit Go.Proofs.Ytcdbjnbdfbiaaaa.PFnExactClashOf Go.Proofs.YtcdbjnbdfbiaaaaW.PrintWords Go.Proofs.YtcdbjnbdfbiaaaaW.PrintLast Go.Proofs.YtcdbjnbdfbiaaaaW.PrintMore
set_option linter.unusedVariables false
set_option linter.unusedSimpArgs false

theorem w64 {i : Int} (h0 : -9223372036854775808 ≤ i) (h1 : i ≤ 9223372036854775807) : wrap64 i = i := by
  unfold wrap64
  omega

theorem rdn (l : List Int) (i : Nat) : rd l (i : Int) = l.getD i 0 := by simp [rd]

/-- A round of a loop, then what it comes to. -/
theorem ev_step {α : Type} {g f : Nat → Option α} {r : α} (k : Ev f r) (h : ∀ k, g (k + 1) = f k) : Ev g r := Ev.step h k
theorem ev_some {α : Type} {g : Nat → Option α} {r : α} (h : ∀ k, g k = some r) : Ev g r := ⟨0, fun k _ => h k⟩
theorem ev_stop {α : Type} {g : Nat → Option α} {r : α} (h : ∀ k, g (k + 1) = some r) : Ev g r := Ev.step h (Ev.now r)
theorem ev_bind {α β : Type} {g : Nat → Option α} {f : Nat → α → Option β} {a : α} {r : β} (h : Ev g a) (k : Ev (fun n => f n a) r) : Ev (fun n => (g n).bind (f n)) r := Ev.bind h k
theorem ev_some_bind {α β : Type} {g : Option α} {f : Nat → α → Option β} {a : α} {r : β} (h : g = some a) (k : Ev (fun n => f n a) r) : Ev (fun n => g.bind (f n)) r := by
  subst h
  exact k
theorem ev_ite_pos {α : Type} {c : Prop} [Decidable c] {g f : Nat → Option α} {r : α} (hc : c) (h : Ev g r) : Ev (fun n => if c then g n else f n) r := Ev.congr (fun _ => if_pos hc) h
theorem ev_ite_neg {α : Type} {c : Prop} [Decidable c] {g f : Nat → Option α} {r : α} (hc : ¬ c) (h : Ev f r) : Ev (fun n => if c then g n else f n) r := Ev.congr (fun _ => if_neg hc) h

theorem sin_tells (a b c : Int) : spec_l1In.f a b c = some (decide (b ≤ a) && decide (a ≤ c)) := by
  unfold spec_l1In.f
  by_cases h : a ≥ b
  · rw [if_pos h]; simp [show b ≤ a from h]
  · rw [if_neg h]; simp [show ¬ b ≤ a from h]

theorem within_tells (a b c : Int) : impl_within.f a b c = some (decide (b ≤ a) && decide (a ≤ c)) := by
  unfold impl_within.f
  by_cases h : a ≥ b
  · rw [if_pos h]; simp [show b ≤ a from h]
  · rw [if_neg h]; simp [show ¬ b ≤ a from h]

theorem FnExactClashOf : laws_FnExactClashOf.Good := by
  intro y0 y1 _ _
  have e : ∀ a b c d, spec_ClashOf.f a b c d = impl_ClashOf.f a b c d := fun _ _ _ _ => rfl
  obtain ⟨x, hx⟩ : ∃ x, impl_ClashOf.f y0.f0 y0.f1 y1.f0 y1.f1 = some x := by
    have hc : ∃ c, impl_clashing.f y0.f0 y0.f1 y1.f0 y1.f1 = some c := by
      unfold impl_clashing.f
      split
      · split <;> exact ⟨_, rfl⟩
      · exact ⟨_, rfl⟩
    obtain ⟨c, hc⟩ := hc
    unfold impl_ClashOf.f impl_isDeed.f
    rw [within_tells, within_tells, hc]
    simp only [Option.bind_some]
    split
    · split <;> exact ⟨_, rfl⟩
    · exact ⟨_, rfl⟩
  unfold laws_FnExactClashOf.f laws_toDeed.f
  simp only [Option.bind_some]
  rw [e, hx]
  simp

end Go.Proofs.Ytcdbjnbdfbiaaaa.Pure
