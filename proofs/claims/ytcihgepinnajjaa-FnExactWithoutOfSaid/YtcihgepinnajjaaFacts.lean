-- Written for this claim by the session's own program (drive.py).
/- THE PROGRAM's FIRST WORDS: what the three facts about the whole program that read its order of initialisation ask for is told by its first three words; read letter by letter the kernel would go through the names of all the laws. -/
import Derived.Test.YtcihgepinnajjaaRows
import Derived.WalkKit
namespace Go.Proofs.Ytcihgepinnajjaa.Facts
open Go
theorem ws_app : ∀ (w r : List Char), w.all (fun c => decide (c ≠ ' ')) = true → wordsSigns (w ++ ' ' :: r) = w :: wordsSigns r
  | [], r, _ => rfl
  | c :: w, r, h => by
    rw [List.all_cons, Bool.and_eq_true, decide_eq_true_eq] at h
    have ih := ws_app w r h.2
    rw [List.cons_append]
    rw [wordsSigns.eq_3 _ _ (by simpa using h.1), ih]
def tail : List Char := ['a', 't', ' ', 'l', 'o', 'o', 'p', '.', 'e', 'x', 'a', 'm', 'p', 'l', 'e', '/', 'g', '0', '0', '6', '4', '1', '/', 'l', 'a', 'w', 's', '.', 'F', 'n', 'E', 'x', 'a', 'c', 't', 'F', 'i', 'n', 'd', 'R', 'o', 'w', ' ', 'l', 'o', 'o', 'p', '.', 'e', 'x', 'a', 'm', 'p', 'l', 'e', '/', 'g', '0', '0', '6', '4', '1', '/', 'l', 'a', 'w', 's', '.', 'F', 'n', 'E', 'x', 'a', 'c', 't', 'R', 'a', 'n', 'g', 'e', 'O', 'f', ' ', 'l', 'o', 'o', 'p', '.', 'e', 'x', 'a', 'm', 'p', 'l', 'e', '/', 'g', '0', '0', '6', '4', '1', '/', 'l', 'a', 'w', 's', '.', 'F', 'n', 'E', 'x', 'a', 'c', 't', 'U', 'n', 'i', 'o', 'n', 'O', 'f', ' ', 'l', 'o', 'o', 'p', '.', 'e', 'x', 'a', 'm', 'p', 'l', 'e', '/', 'g', '0', '0', '6', '4', '1', '/', 'l', 'a', 'w', 's', '.', 'F', 'n', 'E', 'x', 'a', 'c', 't', 'W', 'i', 't', 'h', 'o', 'u', 't', 'O', 'f']
theorem order : Try.prog.initOrder = String.ofList (['h', 'a', 'r', 'n', 'e', 's', 's'] ++ ' ' :: (['8', 'a', '9', 'e', 'c', '1', 'e', '4', 'a', 'a', 'e', '5', '2', 'a', '8', '4', '6', 'f', '3', '8', '3', 'e', 'e', '8', 'a', '0', 'a', 'f', 'd', 'd', '4', '2', '0', 'b', '0', '9', 'c', '5', 'e', '5', '5', '5', '1', 'b', '1', '4', '9', '6', '1', 'e', '3', '5', '8', '1', '1', '1', '3', '1', '2', '7', '4', '6', 'a', 'b'] ++ ' ' :: (['c', 'u', 't'] ++ ' ' :: tail))) := by kernel_rfl
theorem str : Try.prog.initOrder.toList = ['h', 'a', 'r', 'n', 'e', 's', 's'] ++ ' ' :: (['8', 'a', '9', 'e', 'c', '1', 'e', '4', 'a', 'a', 'e', '5', '2', 'a', '8', '4', '6', 'f', '3', '8', '3', 'e', 'e', '8', 'a', '0', 'a', 'f', 'd', 'd', '4', '2', '0', 'b', '0', '9', 'c', '5', 'e', '5', '5', '5', '1', 'b', '1', '4', '9', '6', '1', 'e', '3', '5', '8', '1', '1', '1', '3', '1', '2', '7', '4', '6', 'a', 'b'] ++ ' ' :: (['c', 'u', 't'] ++ ' ' :: tail)) := (congrArg String.toList order).trans String.toList_ofList
theorem words0 (T : List Char) : wordsSigns (['h', 'a', 'r', 'n', 'e', 's', 's'] ++ ' ' :: (['8', 'a', '9', 'e', 'c', '1', 'e', '4', 'a', 'a', 'e', '5', '2', 'a', '8', '4', '6', 'f', '3', '8', '3', 'e', 'e', '8', 'a', '0', 'a', 'f', 'd', 'd', '4', '2', '0', 'b', '0', '9', 'c', '5', 'e', '5', '5', '5', '1', 'b', '1', '4', '9', '6', '1', 'e', '3', '5', '8', '1', '1', '1', '3', '1', '2', '7', '4', '6', 'a', 'b'] ++ ' ' :: (['c', 'u', 't'] ++ ' ' :: T))) = ['h', 'a', 'r', 'n', 'e', 's', 's'] :: ['8', 'a', '9', 'e', 'c', '1', 'e', '4', 'a', 'a', 'e', '5', '2', 'a', '8', '4', '6', 'f', '3', '8', '3', 'e', 'e', '8', 'a', '0', 'a', 'f', 'd', 'd', '4', '2', '0', 'b', '0', '9', 'c', '5', 'e', '5', '5', '5', '1', 'b', '1', '4', '9', '6', '1', 'e', '3', '5', '8', '1', '1', '1', '3', '1', '2', '7', '4', '6', 'a', 'b'] :: ['c', 'u', 't'] :: wordsSigns T :=
  (ws_app ['h', 'a', 'r', 'n', 'e', 's', 's'] _ (by kernel_rfl)).trans (congrArg (List.cons ['h', 'a', 'r', 'n', 'e', 's', 's']) ((ws_app ['8', 'a', '9', 'e', 'c', '1', 'e', '4', 'a', 'a', 'e', '5', '2', 'a', '8', '4', '6', 'f', '3', '8', '3', 'e', 'e', '8', 'a', '0', 'a', 'f', 'd', 'd', '4', '2', '0', 'b', '0', '9', 'c', '5', 'e', '5', '5', '5', '1', 'b', '1', '4', '9', '6', '1', 'e', '3', '5', '8', '1', '1', '1', '3', '1', '2', '7', '4', '6', 'a', 'b'] _ (by kernel_rfl)).trans (congrArg (List.cons ['8', 'a', '9', 'e', 'c', '1', 'e', '4', 'a', 'a', 'e', '5', '2', 'a', '8', '4', '6', 'f', '3', '8', '3', 'e', 'e', '8', 'a', '0', 'a', 'f', 'd', 'd', '4', '2', '0', 'b', '0', '9', 'c', '5', 'e', '5', '5', '5', '1', 'b', '1', '4', '9', '6', '1', 'e', '3', '5', '8', '1', '1', '1', '3', '1', '2', '7', '4', '6', 'a', 'b']) (ws_app ['c', 'u', 't'] _ (by kernel_rfl)))))
theorem words : wordsSigns Try.prog.initOrder.toList = ['h', 'a', 'r', 'n', 'e', 's', 's'] :: ['8', 'a', '9', 'e', 'c', '1', 'e', '4', 'a', 'a', 'e', '5', '2', 'a', '8', '4', '6', 'f', '3', '8', '3', 'e', 'e', '8', 'a', '0', 'a', 'f', 'd', 'd', '4', '2', '0', 'b', '0', '9', 'c', '5', 'e', '5', '5', '5', '1', 'b', '1', '4', '9', '6', '1', 'e', '3', '5', '8', '1', '1', '1', '3', '1', '2', '7', '4', '6', 'a', 'b'] :: ['c', 'u', 't'] :: wordsSigns tail := (congrArg wordsSigns str).trans (words0 tail)
theorem back (T : List (List Char)) : behindMainWord (['h', 'a', 'r', 'n', 'e', 's', 's'] :: ['8', 'a', '9', 'e', 'c', '1', 'e', '4', 'a', 'a', 'e', '5', '2', 'a', '8', '4', '6', 'f', '3', '8', '3', 'e', 'e', '8', 'a', '0', 'a', 'f', 'd', 'd', '4', '2', '0', 'b', '0', '9', 'c', '5', 'e', '5', '5', '5', '1', 'b', '1', '4', '9', '6', '1', 'e', '3', '5', '8', '1', '1', '1', '3', '1', '2', '7', '4', '6', 'a', 'b'] :: ['c', 'u', 't'] :: T) = ['c', 'u', 't'] :: T := by kernel_rfl
theorem cutw : behindMainWord (wordsSigns Try.prog.initOrder.toList) = ['c', 'u', 't'] :: wordsSigns tail := (congrArg behindMainWord words).trans (back _)
theorem make_of (P : Program) (T : List (List Char)) (h : behindMainWord (wordsSigns P.initOrder.toList) = ['c', 'u', 't'] :: T) : P.make = some .cut := by
  unfold Program.make
  rw [h]
  rfl
theorem strip (T : List (List Char)) : stripLifts liftWords (['c', 'u', 't'] :: T) = ([], ['c', 'u', 't'] :: T) := by kernel_rfl
theorem heads_of (P : Program) (T : List (List Char)) (h : behindMainWord (wordsSigns P.initOrder.toList) = ['c', 'u', 't'] :: T) : P.headLifts = [] := by
  unfold Program.headLifts
  rw [h, strip]
  rfl
theorem finals_of (P : Program) (T : List (List Char)) (h : behindMainWord (wordsSigns P.initOrder.toList) = ['c', 'u', 't'] :: T) : P.liftsFinal = false := by
  unfold Program.liftsFinal
  rw [heads_of P T h, h]
  rfl
theorem enter_of (P : Program) (T : List (List Char)) (h : behindMainWord (wordsSigns P.initOrder.toList) = ['c', 'u', 't'] :: T) (h1 : P.laysLater = false) (h2 : P.bearsReflect = false) (h3 : P.doorFits [] = true) : P.mayEnter = true := by
  unfold Program.mayEnter
  rw [h]
  simp only [strip, h1, h2, h3]
  simp
theorem make_ : Try.prog.make = some .cut := make_of _ _ cutw
theorem finals_ : Try.prog.liftsFinal = false := finals_of _ _ cutw
theorem enter_ : Try.prog.mayEnter = true := enter_of _ _ cutw (by kernel_rfl) (by kernel_rfl) (by kernel_rfl)
end Go.Proofs.Ytcihgepinnajjaa.Facts
