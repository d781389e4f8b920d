-- Written for this claim by the session's own program (drive.py).
/- THE PROGRAM's FIRST WORDS: what the three facts about the whole program that read its order of initialisation ask for is told by its first three words; read letter by letter the kernel would go through the names of all the laws. -/
import Derived.Test.YtbaojaadmooogaaRows
import Derived.WalkKit
namespace Go.Proofs.Ytbaojaadmooogaa.Facts
open Go
/- Signs, told by their numbers. -/
def cs (l : List Nat) : List Char := l.map Char.ofNat
abbrev bl : Char := Char.ofNat 32
theorem ws_app : ∀ (w r : List Char), w.all (fun c => decide (c ≠ bl)) = true → wordsSigns (w ++ bl :: r) = w :: wordsSigns r
  | [], r, _ => rfl
  | c :: w, r, h => by
    rw [List.all_cons, Bool.and_eq_true, decide_eq_true_eq] at h
    have ih := ws_app w r h.2
    rw [List.cons_append]
    rw [wordsSigns.eq_3 _ _ (fun e => h.1 e), ih]
def w0 : List Char := cs [104, 97, 114, 110, 101, 115, 115]
def w1 : List Char := cs [100, 101, 51, 54, 50, 97, 57, 54, 98, 102, 54, 97, 55, 55, 101, 56, 98, 48, 102, 48, 57, 51, 102, 101, 56, 102, 98, 102, 53, 52, 56, 100, 53, 50, 97, 97, 101, 48, 56, 97, 99, 52, 99, 100, 100, 54, 99, 99, 99, 51, 51, 57, 50, 56, 100, 57, 55, 98, 57, 100, 57, 48, 53, 101]
def w2 : List Char := cs [99, 117, 116]
def tail : List Char := cs [97, 116, 32, 108, 111, 111, 112, 46, 101, 120, 97, 109, 112, 108, 101, 47, 103, 48, 48, 54, 52, 49, 47, 108, 97, 119, 115, 46, 70, 110, 69, 120, 97, 99, 116, 71, 111, 111, 100, 82, 101, 99, 111, 114, 100, 32, 108, 111, 111, 112, 46, 101, 120, 97, 109, 112, 108, 101, 47, 103, 48, 48, 54, 52, 49, 47, 108, 97, 119, 115, 46, 70, 110, 69, 120, 97, 99, 116, 65, 103, 114, 101, 101, 79, 110, 32, 108, 111, 111, 112, 46, 101, 120, 97, 109, 112, 108, 101, 47, 103, 48, 48, 54, 52, 49, 47, 108, 97, 119, 115, 46, 70, 110, 69, 120, 97, 99, 116, 71, 111, 111, 100, 72, 101, 97, 114, 100, 32, 108, 111, 111, 112, 46, 101, 120, 97, 109, 112, 108, 101, 47, 103, 48, 48, 54, 52, 49, 47, 108, 97, 119, 115, 46, 70, 110, 69, 120, 97, 99, 116, 78, 101, 101, 100, 115, 79, 102, 32, 108, 111, 111, 112, 46, 101, 120, 97, 109, 112, 108, 101, 47, 103, 48, 48, 54, 52, 49, 47, 108, 97, 119, 115, 46, 70, 110, 69, 120, 97, 99, 116, 77, 105, 115, 115, 101, 100, 66, 121, 32, 108, 111, 111, 112, 46, 101, 120, 97, 109, 112, 108, 101, 47, 103, 48, 48, 54, 52, 49, 47, 108, 97, 119, 115, 46, 70, 110, 69, 120, 97, 99, 116, 67, 97, 110, 83, 112, 108, 105, 116, 32, 108, 111, 111, 112, 46, 101, 120, 97, 109, 112, 108, 101, 47, 103, 48, 48, 54, 52, 49, 47, 108, 97, 119, 115, 46, 70, 110, 69, 120, 97, 99, 116, 82, 117, 110, 80, 105, 101, 99, 101, 115]
theorem order : Try.prog.initOrder = String.ofList (w0 ++ bl :: (w1 ++ bl :: (w2 ++ bl :: tail))) := by kernel_rfl
theorem str : Try.prog.initOrder.toList = w0 ++ bl :: (w1 ++ bl :: (w2 ++ bl :: tail)) := (congrArg String.toList order).trans String.toList_ofList
theorem words0 (T : List Char) : wordsSigns (w0 ++ bl :: (w1 ++ bl :: (w2 ++ bl :: T))) = w0 :: w1 :: w2 :: wordsSigns T :=
  (ws_app w0 _ (by kernel_rfl)).trans (congrArg (List.cons w0) ((ws_app w1 _ (by kernel_rfl)).trans (congrArg (List.cons w1) (ws_app w2 _ (by kernel_rfl)))))
theorem words : wordsSigns Try.prog.initOrder.toList = w0 :: w1 :: w2 :: wordsSigns tail := (congrArg wordsSigns str).trans (words0 tail)
theorem back (T : List (List Char)) : behindMainWord (w0 :: w1 :: w2 :: T) = w2 :: T := by kernel_rfl
theorem cutw : behindMainWord (wordsSigns Try.prog.initOrder.toList) = w2 :: wordsSigns tail := (congrArg behindMainWord words).trans (back _)
theorem make_of (P : Program) (T : List (List Char)) (h : behindMainWord (wordsSigns P.initOrder.toList) = w2 :: T) : P.make = some .cut := by
  unfold Program.make
  rw [h]
  rfl
theorem strip (T : List (List Char)) : stripLifts liftWords (w2 :: T) = ([], w2 :: T) := by kernel_rfl
theorem heads_of (P : Program) (T : List (List Char)) (h : behindMainWord (wordsSigns P.initOrder.toList) = w2 :: T) : P.headLifts = [] := by
  unfold Program.headLifts
  rw [h, strip]
  rfl
theorem finals_of (P : Program) (T : List (List Char)) (h : behindMainWord (wordsSigns P.initOrder.toList) = w2 :: T) : P.liftsFinal = false := by
  unfold Program.liftsFinal
  rw [heads_of P T h, h]
  rfl
theorem enter_of (P : Program) (T : List (List Char)) (h : behindMainWord (wordsSigns P.initOrder.toList) = w2 :: T) (h1 : P.laysLater = false) (h2 : P.bearsReflect = false) (h3 : P.doorFits [] = true) : P.mayEnter = true := by
  unfold Program.mayEnter
  rw [h]
  simp only [strip, h1, h2, h3]
  simp
  exact Or.inr rfl
theorem make_ : Try.prog.make = some .cut := make_of _ _ cutw
theorem finals_ : Try.prog.liftsFinal = false := finals_of _ _ cutw
theorem enter_ : Try.prog.mayEnter = true := enter_of _ _ cutw (by kernel_rfl) (by kernel_rfl) (by kernel_rfl)
end Go.Proofs.Ytbaojaadmooogaa.Facts
