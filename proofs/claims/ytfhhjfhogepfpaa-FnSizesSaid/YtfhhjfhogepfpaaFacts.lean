-- Written for this claim by the session's own program (drive.py).
/- THE PROGRAM's FIRST WORDS: what the three facts about the whole program that read its order of initialisation ask for is told by its first three words; read letter by letter the kernel would go through the names of all the laws. -/
import Derived.Test.YtfhhjfhogepfpaaRows
import Derived.WalkKit
namespace Go.Proofs.Ytfhhjfhogepfpaa.Facts
open Go
theorem ws_app : ∀ (w r : List Char), w.all (fun c => decide (c ≠ ' ')) = true → wordsSigns (w ++ ' ' :: r) = w :: wordsSigns r
  | [], r, _ => rfl
  | c :: w, r, h => by
    rw [List.all_cons, Bool.and_eq_true, decide_eq_true_eq] at h
    have ih := ws_app w r h.2
    rw [List.cons_append]
    rw [wordsSigns.eq_3 _ _ (by simpa using h.1), ih]
def tail : List Char := ['a', 't', ' ', 'l', 'o', 'o', 'p', '.', 'e', 'x', 'a', 'm', 'p', 'l', 'e', '/', 'g', '0', '0', '6', '4', '1', '/', 'l', 'a', 'w', 's', '.', 'F', 'n', 'S', 'i', 'z', 'e', 's']
theorem order : Try.prog.initOrder = String.ofList (['h', 'a', 'r', 'n', 'e', 's', 's'] ++ ' ' :: (['3', 'a', '3', '4', 'e', '7', '4', 'c', '3', '3', '8', '5', '9', '8', '0', '6', 'e', '7', 'e', 'd', '9', '6', '5', '9', 'c', '1', '4', 'd', '4', '4', '8', 'e', '7', 'a', 'b', '4', '8', 'a', 'f', '7', '3', '1', '8', 'a', '3', 'd', 'b', 'e', '6', '2', '7', 'd', '1', '1', '6', 'b', '6', '2', '6', '0', '0', 'e', 'e', 'a'] ++ ' ' :: (['c', 'u', 't'] ++ ' ' :: tail))) := by kernel_rfl
theorem str : Try.prog.initOrder.toList = ['h', 'a', 'r', 'n', 'e', 's', 's'] ++ ' ' :: (['3', 'a', '3', '4', 'e', '7', '4', 'c', '3', '3', '8', '5', '9', '8', '0', '6', 'e', '7', 'e', 'd', '9', '6', '5', '9', 'c', '1', '4', 'd', '4', '4', '8', 'e', '7', 'a', 'b', '4', '8', 'a', 'f', '7', '3', '1', '8', 'a', '3', 'd', 'b', 'e', '6', '2', '7', 'd', '1', '1', '6', 'b', '6', '2', '6', '0', '0', 'e', 'e', 'a'] ++ ' ' :: (['c', 'u', 't'] ++ ' ' :: tail)) := (congrArg String.toList order).trans String.toList_ofList
theorem words0 (T : List Char) : wordsSigns (['h', 'a', 'r', 'n', 'e', 's', 's'] ++ ' ' :: (['3', 'a', '3', '4', 'e', '7', '4', 'c', '3', '3', '8', '5', '9', '8', '0', '6', 'e', '7', 'e', 'd', '9', '6', '5', '9', 'c', '1', '4', 'd', '4', '4', '8', 'e', '7', 'a', 'b', '4', '8', 'a', 'f', '7', '3', '1', '8', 'a', '3', 'd', 'b', 'e', '6', '2', '7', 'd', '1', '1', '6', 'b', '6', '2', '6', '0', '0', 'e', 'e', 'a'] ++ ' ' :: (['c', 'u', 't'] ++ ' ' :: T))) = ['h', 'a', 'r', 'n', 'e', 's', 's'] :: ['3', 'a', '3', '4', 'e', '7', '4', 'c', '3', '3', '8', '5', '9', '8', '0', '6', 'e', '7', 'e', 'd', '9', '6', '5', '9', 'c', '1', '4', 'd', '4', '4', '8', 'e', '7', 'a', 'b', '4', '8', 'a', 'f', '7', '3', '1', '8', 'a', '3', 'd', 'b', 'e', '6', '2', '7', 'd', '1', '1', '6', 'b', '6', '2', '6', '0', '0', 'e', 'e', 'a'] :: ['c', 'u', 't'] :: wordsSigns T :=
  (ws_app ['h', 'a', 'r', 'n', 'e', 's', 's'] _ (by kernel_rfl)).trans (congrArg (List.cons ['h', 'a', 'r', 'n', 'e', 's', 's']) ((ws_app ['3', 'a', '3', '4', 'e', '7', '4', 'c', '3', '3', '8', '5', '9', '8', '0', '6', 'e', '7', 'e', 'd', '9', '6', '5', '9', 'c', '1', '4', 'd', '4', '4', '8', 'e', '7', 'a', 'b', '4', '8', 'a', 'f', '7', '3', '1', '8', 'a', '3', 'd', 'b', 'e', '6', '2', '7', 'd', '1', '1', '6', 'b', '6', '2', '6', '0', '0', 'e', 'e', 'a'] _ (by kernel_rfl)).trans (congrArg (List.cons ['3', 'a', '3', '4', 'e', '7', '4', 'c', '3', '3', '8', '5', '9', '8', '0', '6', 'e', '7', 'e', 'd', '9', '6', '5', '9', 'c', '1', '4', 'd', '4', '4', '8', 'e', '7', 'a', 'b', '4', '8', 'a', 'f', '7', '3', '1', '8', 'a', '3', 'd', 'b', 'e', '6', '2', '7', 'd', '1', '1', '6', 'b', '6', '2', '6', '0', '0', 'e', 'e', 'a']) (ws_app ['c', 'u', 't'] _ (by kernel_rfl)))))
theorem words : wordsSigns Try.prog.initOrder.toList = ['h', 'a', 'r', 'n', 'e', 's', 's'] :: ['3', 'a', '3', '4', 'e', '7', '4', 'c', '3', '3', '8', '5', '9', '8', '0', '6', 'e', '7', 'e', 'd', '9', '6', '5', '9', 'c', '1', '4', 'd', '4', '4', '8', 'e', '7', 'a', 'b', '4', '8', 'a', 'f', '7', '3', '1', '8', 'a', '3', 'd', 'b', 'e', '6', '2', '7', 'd', '1', '1', '6', 'b', '6', '2', '6', '0', '0', 'e', 'e', 'a'] :: ['c', 'u', 't'] :: wordsSigns tail := (congrArg wordsSigns str).trans (words0 tail)
theorem back (T : List (List Char)) : behindMainWord (['h', 'a', 'r', 'n', 'e', 's', 's'] :: ['3', 'a', '3', '4', 'e', '7', '4', 'c', '3', '3', '8', '5', '9', '8', '0', '6', 'e', '7', 'e', 'd', '9', '6', '5', '9', 'c', '1', '4', 'd', '4', '4', '8', 'e', '7', 'a', 'b', '4', '8', 'a', 'f', '7', '3', '1', '8', 'a', '3', 'd', 'b', 'e', '6', '2', '7', 'd', '1', '1', '6', 'b', '6', '2', '6', '0', '0', 'e', 'e', 'a'] :: ['c', 'u', 't'] :: T) = ['c', 'u', 't'] :: T := by kernel_rfl
theorem cutw : behindMainWord (wordsSigns Try.prog.initOrder.toList) = ['c', 'u', 't'] :: wordsSigns tail := (congrArg behindMainWord words).trans (back _)
theorem make_of (P : Program) (T : List (List Char)) (h : behindMainWord (wordsSigns P.initOrder.toList) = ['c', 'u', 't'] :: T) : P.make = some .cut := by
  unfold Program.make
  rw [h]
  rfl
theorem strip (T : List (List Char)) : stripLifts liftWords (['c', 'u', 't'] :: T) = ([], ['c', 'u', 't'] :: T) := by kernel_rfl
theorem heads_of (P : Program) (T : List (List Char)) (h : behindMainWord (wordsSigns P.initOrder.toList) = ['c', 'u', 't'] :: T) : P.headLifts = [] := by
  unfold Program.headLifts
  rw [h, strip]
  rfl
theorem finals_of (P : Program) (T : List (List Char)) (h : behindMainWord (wordsSigns P.initOrder.toList) = ['c', 'u', 't'] :: T) : P.liftsFinal = false := by
  unfold Program.liftsFinal
  rw [heads_of P T h, h]
  rfl
theorem enter_of (P : Program) (T : List (List Char)) (h : behindMainWord (wordsSigns P.initOrder.toList) = ['c', 'u', 't'] :: T) (h1 : P.laysLater = false) (h2 : P.bearsReflect = false) (h3 : P.doorFits [] = true) : P.mayEnter = true := by
  unfold Program.mayEnter
  rw [h]
  simp only [strip, h1, h2, h3]
  simp
theorem make_ : Try.prog.make = some .cut := make_of _ _ cutw
theorem finals_ : Try.prog.liftsFinal = false := finals_of _ _ cutw
theorem enter_ : Try.prog.mayEnter = true := enter_of _ _ cutw (by kernel_rfl) (by kernel_rfl) (by kernel_rfl)
end Go.Proofs.Ytfhhjfhogepfpaa.Facts
