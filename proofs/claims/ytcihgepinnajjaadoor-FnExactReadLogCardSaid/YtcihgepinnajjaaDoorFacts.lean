-- Written for this claim by the session's own program (drive.py).
/- THE PROGRAM's FIRST WORDS: what the three facts about the whole program that read its order of initialisation ask for is told by its first three words; read letter by letter the kernel would go through the names of all the laws. -/
import Derived.Test.YtcihgepinnajjaaDoorRows
import Derived.WalkKit
namespace Go.Proofs.YtcihgepinnajjaaDoor.Facts
open Go
theorem ws_app : ∀ (w r : List Char), w.all (fun c => decide (c ≠ ' ')) = true → wordsSigns (w ++ ' ' :: r) = w :: wordsSigns r
  | [], r, _ => rfl
  | c :: w, r, h => by
    rw [List.all_cons, Bool.and_eq_true, decide_eq_true_eq] at h
    have ih := ws_app w r h.2
    rw [List.cons_append]
    rw [wordsSigns.eq_3 _ _ (by simpa using h.1), ih]
def tail : List Char := ['a', 't', ' ', 'l', 'o', 'o', 'p', '.', 'e', 'x', 'a', 'm', 'p', 'l', 'e', '/', 'g', '0', '0', '6', '4', '1', '/', 'l', 'a', 'w', 's', '.', 'F', 'n', 'E', 'x', 'a', 'c', 't', 'R', 'e', 'c', 'o', 'r', 'd', 'T', 'e', 'x', 't', ' ', 'l', 'o', 'o', 'p', '.', 'e', 'x', 'a', 'm', 'p', 'l', 'e', '/', 'g', '0', '0', '6', '4', '1', '/', 'l', 'a', 'w', 's', '.', 'F', 'n', 'E', 'x', 'a', 'c', 't', 'L', 'o', 'g', 'T', 'e', 'x', 't', ' ', 'l', 'o', 'o', 'p', '.', 'e', 'x', 'a', 'm', 'p', 'l', 'e', '/', 'g', '0', '0', '6', '4', '1', '/', 'l', 'a', 'w', 's', '.', 'F', 'n', 'E', 'x', 'a', 'c', 't', 'R', 'e', 'a', 'd', 'L', 'o', 'g', ' ', 'l', 'o', 'o', 'p', '.', 'e', 'x', 'a', 'm', 'p', 'l', 'e', '/', 'g', '0', '0', '6', '4', '1', '/', 'l', 'a', 'w', 's', '.', 'F', 'n', 'E', 'x', 'a', 'c', 't', 'C', 'u', 't', 'L', 'o', 'g']
theorem order : Tryd.prog.initOrder = String.ofList (['h', 'a', 'r', 'n', 'e', 's', 's'] ++ ' ' :: (['2', 'b', 'b', '1', '7', 'a', 'a', '8', 'a', 'c', 'b', 'e', '2', '8', '8', '2', '0', '8', 'a', '9', 'f', 'c', 'f', '3', '2', '5', 'e', '2', '7', 'f', '6', 'e', '4', 'f', '5', 'f', '5', '4', '0', '0', '9', '1', 'e', '8', 'e', 'b', 'b', 'b', '1', '4', '6', 'e', 'a', '6', '8', 'e', '4', 'f', '3', '0', '6', '6', '5', '4'] ++ ' ' :: (['c', 'u', 't'] ++ ' ' :: tail))) := by kernel_rfl
theorem str : Tryd.prog.initOrder.toList = ['h', 'a', 'r', 'n', 'e', 's', 's'] ++ ' ' :: (['2', 'b', 'b', '1', '7', 'a', 'a', '8', 'a', 'c', 'b', 'e', '2', '8', '8', '2', '0', '8', 'a', '9', 'f', 'c', 'f', '3', '2', '5', 'e', '2', '7', 'f', '6', 'e', '4', 'f', '5', 'f', '5', '4', '0', '0', '9', '1', 'e', '8', 'e', 'b', 'b', 'b', '1', '4', '6', 'e', 'a', '6', '8', 'e', '4', 'f', '3', '0', '6', '6', '5', '4'] ++ ' ' :: (['c', 'u', 't'] ++ ' ' :: tail)) := (congrArg String.toList order).trans String.toList_ofList
theorem words0 (T : List Char) : wordsSigns (['h', 'a', 'r', 'n', 'e', 's', 's'] ++ ' ' :: (['2', 'b', 'b', '1', '7', 'a', 'a', '8', 'a', 'c', 'b', 'e', '2', '8', '8', '2', '0', '8', 'a', '9', 'f', 'c', 'f', '3', '2', '5', 'e', '2', '7', 'f', '6', 'e', '4', 'f', '5', 'f', '5', '4', '0', '0', '9', '1', 'e', '8', 'e', 'b', 'b', 'b', '1', '4', '6', 'e', 'a', '6', '8', 'e', '4', 'f', '3', '0', '6', '6', '5', '4'] ++ ' ' :: (['c', 'u', 't'] ++ ' ' :: T))) = ['h', 'a', 'r', 'n', 'e', 's', 's'] :: ['2', 'b', 'b', '1', '7', 'a', 'a', '8', 'a', 'c', 'b', 'e', '2', '8', '8', '2', '0', '8', 'a', '9', 'f', 'c', 'f', '3', '2', '5', 'e', '2', '7', 'f', '6', 'e', '4', 'f', '5', 'f', '5', '4', '0', '0', '9', '1', 'e', '8', 'e', 'b', 'b', 'b', '1', '4', '6', 'e', 'a', '6', '8', 'e', '4', 'f', '3', '0', '6', '6', '5', '4'] :: ['c', 'u', 't'] :: wordsSigns T :=
  (ws_app ['h', 'a', 'r', 'n', 'e', 's', 's'] _ (by kernel_rfl)).trans (congrArg (List.cons ['h', 'a', 'r', 'n', 'e', 's', 's']) ((ws_app ['2', 'b', 'b', '1', '7', 'a', 'a', '8', 'a', 'c', 'b', 'e', '2', '8', '8', '2', '0', '8', 'a', '9', 'f', 'c', 'f', '3', '2', '5', 'e', '2', '7', 'f', '6', 'e', '4', 'f', '5', 'f', '5', '4', '0', '0', '9', '1', 'e', '8', 'e', 'b', 'b', 'b', '1', '4', '6', 'e', 'a', '6', '8', 'e', '4', 'f', '3', '0', '6', '6', '5', '4'] _ (by kernel_rfl)).trans (congrArg (List.cons ['2', 'b', 'b', '1', '7', 'a', 'a', '8', 'a', 'c', 'b', 'e', '2', '8', '8', '2', '0', '8', 'a', '9', 'f', 'c', 'f', '3', '2', '5', 'e', '2', '7', 'f', '6', 'e', '4', 'f', '5', 'f', '5', '4', '0', '0', '9', '1', 'e', '8', 'e', 'b', 'b', 'b', '1', '4', '6', 'e', 'a', '6', '8', 'e', '4', 'f', '3', '0', '6', '6', '5', '4']) (ws_app ['c', 'u', 't'] _ (by kernel_rfl)))))
theorem words : wordsSigns Tryd.prog.initOrder.toList = ['h', 'a', 'r', 'n', 'e', 's', 's'] :: ['2', 'b', 'b', '1', '7', 'a', 'a', '8', 'a', 'c', 'b', 'e', '2', '8', '8', '2', '0', '8', 'a', '9', 'f', 'c', 'f', '3', '2', '5', 'e', '2', '7', 'f', '6', 'e', '4', 'f', '5', 'f', '5', '4', '0', '0', '9', '1', 'e', '8', 'e', 'b', 'b', 'b', '1', '4', '6', 'e', 'a', '6', '8', 'e', '4', 'f', '3', '0', '6', '6', '5', '4'] :: ['c', 'u', 't'] :: wordsSigns tail := (congrArg wordsSigns str).trans (words0 tail)
theorem back (T : List (List Char)) : behindMainWord (['h', 'a', 'r', 'n', 'e', 's', 's'] :: ['2', 'b', 'b', '1', '7', 'a', 'a', '8', 'a', 'c', 'b', 'e', '2', '8', '8', '2', '0', '8', 'a', '9', 'f', 'c', 'f', '3', '2', '5', 'e', '2', '7', 'f', '6', 'e', '4', 'f', '5', 'f', '5', '4', '0', '0', '9', '1', 'e', '8', 'e', 'b', 'b', 'b', '1', '4', '6', 'e', 'a', '6', '8', 'e', '4', 'f', '3', '0', '6', '6', '5', '4'] :: ['c', 'u', 't'] :: T) = ['c', 'u', 't'] :: T := by kernel_rfl
theorem cutw : behindMainWord (wordsSigns Tryd.prog.initOrder.toList) = ['c', 'u', 't'] :: wordsSigns tail := (congrArg behindMainWord words).trans (back _)
theorem make_of (P : Program) (T : List (List Char)) (h : behindMainWord (wordsSigns P.initOrder.toList) = ['c', 'u', 't'] :: T) : P.make = some .cut := by
  unfold Program.make
  rw [h]
  rfl
theorem strip (T : List (List Char)) : stripLifts liftWords (['c', 'u', 't'] :: T) = ([], ['c', 'u', 't'] :: T) := by kernel_rfl
theorem heads_of (P : Program) (T : List (List Char)) (h : behindMainWord (wordsSigns P.initOrder.toList) = ['c', 'u', 't'] :: T) : P.headLifts = [] := by
  unfold Program.headLifts
  rw [h, strip]
  rfl
theorem finals_of (P : Program) (T : List (List Char)) (h : behindMainWord (wordsSigns P.initOrder.toList) = ['c', 'u', 't'] :: T) : P.liftsFinal = false := by
  unfold Program.liftsFinal
  rw [heads_of P T h, h]
  rfl
theorem enter_of (P : Program) (T : List (List Char)) (h : behindMainWord (wordsSigns P.initOrder.toList) = ['c', 'u', 't'] :: T) (h1 : P.laysLater = false) (h2 : P.bearsReflect = false) (h3 : P.doorFits [] = true) : P.mayEnter = true := by
  unfold Program.mayEnter
  rw [h]
  simp only [strip, h1, h2, h3]
  simp
theorem make_ : Tryd.prog.make = some .cut := make_of _ _ cutw
theorem finals_ : Tryd.prog.liftsFinal = false := finals_of _ _ cutw
theorem enter_ : Tryd.prog.mayEnter = true := enter_of _ _ cutw (by kernel_rfl) (by kernel_rfl) (by kernel_rfl)
end Go.Proofs.YtcihgepinnajjaaDoor.Facts
