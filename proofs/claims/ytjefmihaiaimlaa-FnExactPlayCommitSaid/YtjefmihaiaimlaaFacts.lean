-- Written for this claim by the session's own program (drive.py).
/- THE PROGRAM's FIRST WORDS: what the three facts about the whole program that read its order of initialisation ask for is told by its first three words; read letter by letter the kernel would go through the names of all the laws. -/
import Derived.Test.YtjefmihaiaimlaaRows
import Derived.WalkKit
namespace Go.Proofs.Ytjefmihaiaimlaa.Facts
open Go
/- Signs, told by their numbers. -/
def cs (l : List Nat) : List Char := l.map Char.ofNat
abbrev bl : Char := Char.ofNat 32
theorem ws_app : ∀ (w r : List Char), w.all (fun c => decide (c ≠ bl)) = true → wordsSigns (w ++ bl :: r) = w :: wordsSigns r
  | [], r, _ => rfl
  | c :: w, r, h => by
    rw [List.all_cons, Bool.and_eq_true, decide_eq_true_eq] at h
    have ih := ws_app w r h.2
    rw [List.cons_append]
    rw [wordsSigns.eq_3 _ _ (fun e => h.1 e), ih]
def w0 : List Char := cs [104, 97, 114, 110, 101, 115, 115]
def w1 : List Char := cs [100, 101, 101, 101, 100, 49, 102, 98, 48, 99, 100, 56, 55, 54, 100, 100, 53, 52, 49, 102, 54, 49, 49, 52, 101, 57, 52, 101, 54, 101, 54, 57, 98, 97, 56, 48, 49, 97, 48, 97, 54, 48, 48, 102, 50, 50, 55, 101, 48, 55, 56, 57, 56, 55, 50, 56, 51, 56, 50, 99, 100, 48, 56, 102]
def w2 : List Char := cs [99, 117, 116]
def tail : List Char := cs [97, 116, 32, 108, 111, 111, 112, 46, 101, 120, 97, 109, 112, 108, 101, 47, 103, 48, 48, 54, 52, 49, 47, 108, 97, 119, 115, 46, 70, 110, 69, 120, 97, 99, 116, 70, 105, 110, 105, 115, 104, 67, 111, 109, 109, 105, 116, 32, 108, 111, 111, 112, 46, 101, 120, 97, 109, 112, 108, 101, 47, 103, 48, 48, 54, 52, 49, 47, 108, 97, 119, 115, 46, 70, 110, 69, 120, 97, 99, 116, 80, 108, 97, 121, 67, 111, 109, 109, 105, 116]
theorem order : Try.prog.initOrder = String.ofList (w0 ++ bl :: (w1 ++ bl :: (w2 ++ bl :: tail))) := by kernel_rfl
theorem str : Try.prog.initOrder.toList = w0 ++ bl :: (w1 ++ bl :: (w2 ++ bl :: tail)) := (congrArg String.toList order).trans String.toList_ofList
theorem words0 (T : List Char) : wordsSigns (w0 ++ bl :: (w1 ++ bl :: (w2 ++ bl :: T))) = w0 :: w1 :: w2 :: wordsSigns T :=
  (ws_app w0 _ (by kernel_rfl)).trans (congrArg (List.cons w0) ((ws_app w1 _ (by kernel_rfl)).trans (congrArg (List.cons w1) (ws_app w2 _ (by kernel_rfl)))))
theorem words : wordsSigns Try.prog.initOrder.toList = w0 :: w1 :: w2 :: wordsSigns tail := (congrArg wordsSigns str).trans (words0 tail)
theorem back (T : List (List Char)) : behindMainWord (w0 :: w1 :: w2 :: T) = w2 :: T := by kernel_rfl
theorem cutw : behindMainWord (wordsSigns Try.prog.initOrder.toList) = w2 :: wordsSigns tail := (congrArg behindMainWord words).trans (back _)
theorem make_of (P : Program) (T : List (List Char)) (h : behindMainWord (wordsSigns P.initOrder.toList) = w2 :: T) : P.make = some .cut := by
  unfold Program.make
  rw [h]
  rfl
theorem strip (T : List (List Char)) : stripLifts liftWords (w2 :: T) = ([], w2 :: T) := by kernel_rfl
theorem heads_of (P : Program) (T : List (List Char)) (h : behindMainWord (wordsSigns P.initOrder.toList) = w2 :: T) : P.headLifts = [] := by
  unfold Program.headLifts
  rw [h, strip]
  rfl
theorem finals_of (P : Program) (T : List (List Char)) (h : behindMainWord (wordsSigns P.initOrder.toList) = w2 :: T) : P.liftsFinal = false := by
  unfold Program.liftsFinal
  rw [heads_of P T h, h]
  rfl
theorem enter_of (P : Program) (T : List (List Char)) (h : behindMainWord (wordsSigns P.initOrder.toList) = w2 :: T) (h1 : P.laysLater = false) (h2 : P.bearsReflect = false) (h3 : P.doorFits [] = true) : P.mayEnter = true := by
  unfold Program.mayEnter
  rw [h]
  simp only [strip, h1, h2, h3]
  simp
  exact Or.inr rfl
theorem make_ : Try.prog.make = some .cut := make_of _ _ cutw
theorem finals_ : Try.prog.liftsFinal = false := finals_of _ _ cutw
theorem enter_ : Try.prog.mayEnter = true := enter_of _ _ cutw (by kernel_rfl) (by kernel_rfl) (by kernel_rfl)
end Go.Proofs.Ytjefmihaiaimlaa.Facts
