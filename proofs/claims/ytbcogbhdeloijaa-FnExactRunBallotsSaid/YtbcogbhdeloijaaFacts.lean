-- Written for this claim by the session's own program (drive.py).
/- THE PROGRAM's FIRST WORDS: what the three facts about the whole program that read its order of initialisation ask for is told by its first three words; read letter by letter the kernel would go through the names of all the laws. -/
import Derived.Test.YtbcogbhdeloijaaRows
import Derived.WalkKit
namespace Go.Proofs.Ytbcogbhdeloijaa.Facts
open Go
/- Signs, told by their numbers. -/
def cs (l : List Nat) : List Char := l.map Char.ofNat
abbrev bl : Char := Char.ofNat 32
theorem ws_app : ∀ (w r : List Char), w.all (fun c => decide (c ≠ bl)) = true → wordsSigns (w ++ bl :: r) = w :: wordsSigns r
  | [], r, _ => rfl
  | c :: w, r, h => by
    rw [List.all_cons, Bool.and_eq_true, decide_eq_true_eq] at h
    have ih := ws_app w r h.2
    rw [List.cons_append]
    rw [wordsSigns.eq_3 _ _ (fun e => h.1 e), ih]
def w0 : List Char := cs [104, 97, 114, 110, 101, 115, 115]
def w1 : List Char := cs [97, 99, 98, 98, 56, 49, 54, 99, 52, 98, 55, 100, 51, 55, 102, 48, 54, 97, 54, 51, 101, 54, 50, 100, 99, 56, 101, 55, 102, 57, 97, 102, 97, 49, 100, 101, 48, 51, 52, 98, 101, 49, 52, 50, 99, 50, 99, 48, 54, 51, 57, 56, 51, 100, 51, 102, 50, 53, 55, 51, 49, 102, 53, 102]
def w2 : List Char := cs [99, 117, 116]
def tail : List Char := cs [97, 116, 32, 108, 111, 111, 112, 46, 101, 120, 97, 109, 112, 108, 101, 47, 103, 48, 48, 54, 52, 49, 47, 108, 97, 119, 115, 46, 70, 110, 69, 120, 97, 99, 116, 82, 117, 110, 66, 97, 108, 108, 111, 116, 115, 32, 108, 111, 111, 112, 46, 101, 120, 97, 109, 112, 108, 101, 47, 103, 48, 48, 54, 52, 49, 47, 108, 97, 119, 115, 46, 70, 110, 69, 120, 97, 99, 116, 70, 105, 110, 105, 115, 104, 67, 111, 109, 109, 105, 116, 32, 108, 111, 111, 112, 46, 101, 120, 97, 109, 112, 108, 101, 47, 103, 48, 48, 54, 52, 49, 47, 108, 97, 119, 115, 46, 70, 110, 69, 120, 97, 99, 116, 80, 108, 97, 121, 67, 111, 109, 109, 105, 116, 32, 108, 111, 111, 112, 46, 101, 120, 97, 109, 112, 108, 101, 47, 103, 48, 48, 54, 52, 49, 47, 108, 97, 119, 115, 46, 70, 110, 83, 105, 122, 101, 115]
theorem order : Try.prog.initOrder = String.ofList (w0 ++ bl :: (w1 ++ bl :: (w2 ++ bl :: tail))) := by kernel_rfl
theorem str : Try.prog.initOrder.toList = w0 ++ bl :: (w1 ++ bl :: (w2 ++ bl :: tail)) := (congrArg String.toList order).trans String.toList_ofList
theorem words0 (T : List Char) : wordsSigns (w0 ++ bl :: (w1 ++ bl :: (w2 ++ bl :: T))) = w0 :: w1 :: w2 :: wordsSigns T :=
  (ws_app w0 _ (by kernel_rfl)).trans (congrArg (List.cons w0) ((ws_app w1 _ (by kernel_rfl)).trans (congrArg (List.cons w1) (ws_app w2 _ (by kernel_rfl)))))
theorem words : wordsSigns Try.prog.initOrder.toList = w0 :: w1 :: w2 :: wordsSigns tail := (congrArg wordsSigns str).trans (words0 tail)
theorem back (T : List (List Char)) : behindMainWord (w0 :: w1 :: w2 :: T) = w2 :: T := by kernel_rfl
theorem cutw : behindMainWord (wordsSigns Try.prog.initOrder.toList) = w2 :: wordsSigns tail := (congrArg behindMainWord words).trans (back _)
theorem make_of (P : Program) (T : List (List Char)) (h : behindMainWord (wordsSigns P.initOrder.toList) = w2 :: T) : P.make = some .cut := by
  unfold Program.make
  rw [h]
  rfl
theorem strip (T : List (List Char)) : stripLifts liftWords (w2 :: T) = ([], w2 :: T) := by kernel_rfl
theorem heads_of (P : Program) (T : List (List Char)) (h : behindMainWord (wordsSigns P.initOrder.toList) = w2 :: T) : P.headLifts = [] := by
  unfold Program.headLifts
  rw [h, strip]
  rfl
theorem finals_of (P : Program) (T : List (List Char)) (h : behindMainWord (wordsSigns P.initOrder.toList) = w2 :: T) : P.liftsFinal = false := by
  unfold Program.liftsFinal
  rw [heads_of P T h, h]
  rfl
theorem enter_of (P : Program) (T : List (List Char)) (h : behindMainWord (wordsSigns P.initOrder.toList) = w2 :: T) (h1 : P.laysLater = false) (h2 : P.bearsReflect = false) (h3 : P.doorFits [] = true) : P.mayEnter = true := by
  unfold Program.mayEnter
  rw [h]
  simp only [strip, h1, h2, h3]
  simp
  exact Or.inr rfl
theorem make_ : Try.prog.make = some .cut := make_of _ _ cutw
theorem finals_ : Try.prog.liftsFinal = false := finals_of _ _ cutw
theorem enter_ : Try.prog.mayEnter = true := enter_of _ _ cutw (by kernel_rfl) (by kernel_rfl) (by kernel_rfl)
end Go.Proofs.Ytbcogbhdeloijaa.Facts
