/-
  No cell of these rows narrows 'for every input' (looked for: loops, veiled, ifaces, maps, wideKeys, modest, calm, conditions, laid).
  DERIVED. THE GIVEN ROWS OF THIS SEAT. 7 by the template 'for every input the law returns true; each argument reads behind the call as it read before'; 0 by the template 'total and deterministic' (their statements: YteokbemieooeaaaTotals.lean).
  GIVEN WITH THE SEED: the statements are not yours to turn. If you find one false, say at which input.
  Laid BY PROGRAM, IN A SANDBOX (cutbox-rows.mjs): the forced cells as the released guide's own fill.sh prints them over the translation 13922060bb9a2d60… (all of the seat's roots in one cut). By AI agents, Wed Nov 11 2026. No macro, syntax, notation, axiom, sorry.
-/
import Derived.Test.YteokbemieooeaaaChecked
import GoSem.Claim
import GoSem.ClaimJoined
import GoSem.ClaimMapViews
import Derived.JoinedTies
import Derived.KernelRfl
namespace Go.Proofs.Yteokbemieooeaaa
/- THE CELL 'sum', in the pinned program and in every row, IS THE sha256 OF THE DUMP (.gsa) THAT YteokbemieooeaaaProg.lean LOADS. Nothing in Lean hashes anything: it is a label: what it is worth is what the hold of that sum in a sandbox is worth. -/
noncomputable def Try.pinned : Pinned := { name := "yteokbemieooeaaa", sum := "13922060bb9a2d6040bcb8eb3b2162bf7fa2e0f3f8c538d8d9594816e4f6c1f6", checked := Try.checked }
namespace Rows
def none {H : Type} : Left H := { results := [], args := [] }

/-- 'laws.FnExactOrderBy': WHATEVER THE INPUT: true; the input reads as it did. -/
def fnExactOrderBySpec : ChangeSpec := { name := "fnExactOrderBy", fn := fun _ => fun
  | [d] => { results := [.lit (.bool true)], args := [d] }
  | _ => none }
def fnExactOrderByRow : OpenClaim := { program := "yteokbemieooeaaa", sum := "13922060bb9a2d6040bcb8eb3b2162bf7fa2e0f3f8c538d8d9594816e4f6c1f6", func := "loop.example/g00641/laws.FnExactOrderBy", spec := "fnExactOrderBy", unfollowed := true, recurses := true, apart := false }
def FnExactOrderBySaid : Prop := fnExactOrderByRow.holds Try.pinned (OpenSpec.ofChange fnExactOrderBySpec)

/-- ITS FALSE NEIGHBOUR: 'it returns false'. Refute it at one input. -/
def fnExactOrderByWrong : ChangeSpec := { name := "fnExactOrderBy", fn := fun _ => fun
  | [d] => { results := [.lit (.bool false)], args := [d] }
  | _ => none }
def FnExactOrderByWrongFalsely : Prop := fnExactOrderByRow.holds Try.pinned (OpenSpec.ofChange fnExactOrderByWrong)

/-- 'laws.FnExactWholeOrder': WHATEVER THE INPUT: true; the input reads as it did. -/
def fnExactWholeOrderSpec : ChangeSpec := { name := "fnExactWholeOrder", fn := fun _ => fun
  | [d] => { results := [.lit (.bool true)], args := [d] }
  | _ => none }
def fnExactWholeOrderRow : OpenClaim := { program := "yteokbemieooeaaa", sum := "13922060bb9a2d6040bcb8eb3b2162bf7fa2e0f3f8c538d8d9594816e4f6c1f6", func := "loop.example/g00641/laws.FnExactWholeOrder", spec := "fnExactWholeOrder", unfollowed := true, recurses := true, apart := false }
def FnExactWholeOrderSaid : Prop := fnExactWholeOrderRow.holds Try.pinned (OpenSpec.ofChange fnExactWholeOrderSpec)

/-- ITS FALSE NEIGHBOUR: 'it returns false'. Refute it at one input. -/
def fnExactWholeOrderWrong : ChangeSpec := { name := "fnExactWholeOrder", fn := fun _ => fun
  | [d] => { results := [.lit (.bool false)], args := [d] }
  | _ => none }
def FnExactWholeOrderWrongFalsely : Prop := fnExactWholeOrderRow.holds Try.pinned (OpenSpec.ofChange fnExactWholeOrderWrong)

/-- 'laws.FnExactGroupsOf': WHATEVER THE INPUT: true; the input reads as it did. -/
def fnExactGroupsOfSpec : ChangeSpec := { name := "fnExactGroupsOf", fn := fun _ => fun
  | [d] => { results := [.lit (.bool true)], args := [d] }
  | _ => none }
def fnExactGroupsOfRow : OpenClaim := { program := "yteokbemieooeaaa", sum := "13922060bb9a2d6040bcb8eb3b2162bf7fa2e0f3f8c538d8d9594816e4f6c1f6", func := "loop.example/g00641/laws.FnExactGroupsOf", spec := "fnExactGroupsOf", unfollowed := true, recurses := true, apart := false }
def FnExactGroupsOfSaid : Prop := fnExactGroupsOfRow.holds Try.pinned (OpenSpec.ofChange fnExactGroupsOfSpec)

/-- ITS FALSE NEIGHBOUR: 'it returns false'. Refute it at one input. -/
def fnExactGroupsOfWrong : ChangeSpec := { name := "fnExactGroupsOf", fn := fun _ => fun
  | [d] => { results := [.lit (.bool false)], args := [d] }
  | _ => none }
def FnExactGroupsOfWrongFalsely : Prop := fnExactGroupsOfRow.holds Try.pinned (OpenSpec.ofChange fnExactGroupsOfWrong)

/-- 'laws.FnExactShrink': WHATEVER THE INPUT: true; the input reads as it did. -/
def fnExactShrinkSpec : ChangeSpec := { name := "fnExactShrink", fn := fun _ => fun
  | [d] => { results := [.lit (.bool true)], args := [d] }
  | _ => none }
def fnExactShrinkRow : OpenClaim := { program := "yteokbemieooeaaa", sum := "13922060bb9a2d6040bcb8eb3b2162bf7fa2e0f3f8c538d8d9594816e4f6c1f6", func := "loop.example/g00641/laws.FnExactShrink", spec := "fnExactShrink", unfollowed := true, recurses := true, apart := false }
def FnExactShrinkSaid : Prop := fnExactShrinkRow.holds Try.pinned (OpenSpec.ofChange fnExactShrinkSpec)

/-- ITS FALSE NEIGHBOUR: 'it returns false'. Refute it at one input. -/
def fnExactShrinkWrong : ChangeSpec := { name := "fnExactShrink", fn := fun _ => fun
  | [d] => { results := [.lit (.bool false)], args := [d] }
  | _ => none }
def FnExactShrinkWrongFalsely : Prop := fnExactShrinkRow.holds Try.pinned (OpenSpec.ofChange fnExactShrinkWrong)

/-- 'laws.FnExactNextDone': WHATEVER THE INPUT: true; the input reads as it did. -/
def fnExactNextDoneSpec : ChangeSpec := { name := "fnExactNextDone", fn := fun _ => fun
  | [d1, d2, d3] => { results := [.lit (.bool true)], args := [d1, d2, d3] }
  | _ => none }
def fnExactNextDoneRow : OpenClaim := { program := "yteokbemieooeaaa", sum := "13922060bb9a2d6040bcb8eb3b2162bf7fa2e0f3f8c538d8d9594816e4f6c1f6", func := "loop.example/g00641/laws.FnExactNextDone", spec := "fnExactNextDone", unfollowed := true, recurses := true, apart := false }
def FnExactNextDoneSaid : Prop := fnExactNextDoneRow.holds Try.pinned (OpenSpec.ofChange fnExactNextDoneSpec)

/-- ITS FALSE NEIGHBOUR: 'it returns false'. Refute it at one input. -/
def fnExactNextDoneWrong : ChangeSpec := { name := "fnExactNextDone", fn := fun _ => fun
  | [d1, d2, d3] => { results := [.lit (.bool false)], args := [d1, d2, d3] }
  | _ => none }
def FnExactNextDoneWrongFalsely : Prop := fnExactNextDoneRow.holds Try.pinned (OpenSpec.ofChange fnExactNextDoneWrong)

/-- 'laws.FnExactDoneBy': WHATEVER THE INPUT: true; the input reads as it did. -/
def fnExactDoneBySpec : ChangeSpec := { name := "fnExactDoneBy", fn := fun _ => fun
  | [d1, d2] => { results := [.lit (.bool true)], args := [d1, d2] }
  | _ => none }
def fnExactDoneByRow : OpenClaim := { program := "yteokbemieooeaaa", sum := "13922060bb9a2d6040bcb8eb3b2162bf7fa2e0f3f8c538d8d9594816e4f6c1f6", func := "loop.example/g00641/laws.FnExactDoneBy", spec := "fnExactDoneBy", unfollowed := true, recurses := true, apart := false }
def FnExactDoneBySaid : Prop := fnExactDoneByRow.holds Try.pinned (OpenSpec.ofChange fnExactDoneBySpec)

/-- ITS FALSE NEIGHBOUR: 'it returns false'. Refute it at one input. -/
def fnExactDoneByWrong : ChangeSpec := { name := "fnExactDoneBy", fn := fun _ => fun
  | [d1, d2] => { results := [.lit (.bool false)], args := [d1, d2] }
  | _ => none }
def FnExactDoneByWrongFalsely : Prop := fnExactDoneByRow.holds Try.pinned (OpenSpec.ofChange fnExactDoneByWrong)

/-- 'laws.FnExactAllDeps': WHATEVER THE INPUT: true; the input reads as it did. -/
def fnExactAllDepsSpec : ChangeSpec := { name := "fnExactAllDeps", fn := fun _ => fun
  | [d1, d2] => { results := [.lit (.bool true)], args := [d1, d2] }
  | _ => none }
def fnExactAllDepsRow : OpenClaim := { program := "yteokbemieooeaaa", sum := "13922060bb9a2d6040bcb8eb3b2162bf7fa2e0f3f8c538d8d9594816e4f6c1f6", func := "loop.example/g00641/laws.FnExactAllDeps", spec := "fnExactAllDeps", unfollowed := true, recurses := true, apart := false }
def FnExactAllDepsSaid : Prop := fnExactAllDepsRow.holds Try.pinned (OpenSpec.ofChange fnExactAllDepsSpec)

/-- ITS FALSE NEIGHBOUR: 'it returns false'. Refute it at one input. -/
def fnExactAllDepsWrong : ChangeSpec := { name := "fnExactAllDeps", fn := fun _ => fun
  | [d1, d2] => { results := [.lit (.bool false)], args := [d1, d2] }
  | _ => none }
def FnExactAllDepsWrongFalsely : Prop := fnExactAllDepsRow.holds Try.pinned (OpenSpec.ofChange fnExactAllDepsWrong)

/- THE SECOND FORM. 'bulk': how many values and letters a reading holds, each counted each time it is reached (what is shared counts as often as it is met; a slice's spare places count too). A statement '..UptoSaid' is the law's where the arguments, and the package variables that the reading takes, are together of bulk at most 1048576: NARROWER than '..Said'. Prove '..Said' where nothing that the law and all that it calls make is longer than what came in: it says more and counts as full. Else prove '..UptoSaid'. A law counts once. -/
mutual
def uptoBulk {H : Type} : DataW H → Nat
  | .lit (.string bytes) => bytes.length + 1
  | .lit _ => 1
  | .nil => 1
  | .ptr d => uptoBulk d + 1
  | .slice elems spare => uptoBulkAll elems + uptoBulkAll spare + 1
  | .agg parts => uptoBulkAll parts + 1
  | .iface _ d => uptoBulk d + 1
  | .map entries => uptoBulkEntries entries + 1
  | .held _ => 1
def uptoBulkAll {H : Type} : List (DataW H) → Nat
  | [] => 0
  | d :: r => uptoBulk d + uptoBulkAll r
def uptoBulkEntries {H : Type} : List (Lit × DataW H) → Nat
  | [] => 0
  | x :: r => uptoBulkEntry x + uptoBulkEntries r
def uptoBulkEntry {H : Type} : Lit × DataW H → Nat
  | (.string bytes, d) => bytes.length + uptoBulk d + 1
  | (_, d) => uptoBulk d + 1
 end
def uptoSmall : (H : Type) → List (DataW H) → Bool := fun _ ds => decide (uptoBulkAll ds ≤ 1048576)
def OpenSpec.upto (s : _root_.Go.ChangeSpec) : _root_.Go.OpenSpec := { _root_.Go.OpenSpec.ofChange s with cond := some uptoSmall }

/-- 'laws.FnExactOrderBy', WHERE WHAT IT READS IS OF BULK AT MOST 1048576: true; the input reads as it did. -/
def fnExactOrderByUptoRow : OpenClaim := { program := "yteokbemieooeaaa", sum := "13922060bb9a2d6040bcb8eb3b2162bf7fa2e0f3f8c538d8d9594816e4f6c1f6", func := "loop.example/g00641/laws.FnExactOrderBy", spec := "fnExactOrderBy", unfollowed := true, recurses := true, apart := false, narrowed := true }
def FnExactOrderByUptoSaid : Prop := fnExactOrderByUptoRow.holds Try.pinned (OpenSpec.upto fnExactOrderBySpec)

/-- 'laws.FnExactWholeOrder', WHERE WHAT IT READS IS OF BULK AT MOST 1048576: true; the input reads as it did. -/
def fnExactWholeOrderUptoRow : OpenClaim := { program := "yteokbemieooeaaa", sum := "13922060bb9a2d6040bcb8eb3b2162bf7fa2e0f3f8c538d8d9594816e4f6c1f6", func := "loop.example/g00641/laws.FnExactWholeOrder", spec := "fnExactWholeOrder", unfollowed := true, recurses := true, apart := false, narrowed := true }
def FnExactWholeOrderUptoSaid : Prop := fnExactWholeOrderUptoRow.holds Try.pinned (OpenSpec.upto fnExactWholeOrderSpec)

/-- 'laws.FnExactGroupsOf', WHERE WHAT IT READS IS OF BULK AT MOST 1048576: true; the input reads as it did. -/
def fnExactGroupsOfUptoRow : OpenClaim := { program := "yteokbemieooeaaa", sum := "13922060bb9a2d6040bcb8eb3b2162bf7fa2e0f3f8c538d8d9594816e4f6c1f6", func := "loop.example/g00641/laws.FnExactGroupsOf", spec := "fnExactGroupsOf", unfollowed := true, recurses := true, apart := false, narrowed := true }
def FnExactGroupsOfUptoSaid : Prop := fnExactGroupsOfUptoRow.holds Try.pinned (OpenSpec.upto fnExactGroupsOfSpec)

/-- 'laws.FnExactShrink', WHERE WHAT IT READS IS OF BULK AT MOST 1048576: true; the input reads as it did. -/
def fnExactShrinkUptoRow : OpenClaim := { program := "yteokbemieooeaaa", sum := "13922060bb9a2d6040bcb8eb3b2162bf7fa2e0f3f8c538d8d9594816e4f6c1f6", func := "loop.example/g00641/laws.FnExactShrink", spec := "fnExactShrink", unfollowed := true, recurses := true, apart := false, narrowed := true }
def FnExactShrinkUptoSaid : Prop := fnExactShrinkUptoRow.holds Try.pinned (OpenSpec.upto fnExactShrinkSpec)

/-- 'laws.FnExactNextDone', WHERE WHAT IT READS IS OF BULK AT MOST 1048576: true; the input reads as it did. -/
def fnExactNextDoneUptoRow : OpenClaim := { program := "yteokbemieooeaaa", sum := "13922060bb9a2d6040bcb8eb3b2162bf7fa2e0f3f8c538d8d9594816e4f6c1f6", func := "loop.example/g00641/laws.FnExactNextDone", spec := "fnExactNextDone", unfollowed := true, recurses := true, apart := false, narrowed := true }
def FnExactNextDoneUptoSaid : Prop := fnExactNextDoneUptoRow.holds Try.pinned (OpenSpec.upto fnExactNextDoneSpec)

/-- 'laws.FnExactDoneBy', WHERE WHAT IT READS IS OF BULK AT MOST 1048576: true; the input reads as it did. -/
def fnExactDoneByUptoRow : OpenClaim := { program := "yteokbemieooeaaa", sum := "13922060bb9a2d6040bcb8eb3b2162bf7fa2e0f3f8c538d8d9594816e4f6c1f6", func := "loop.example/g00641/laws.FnExactDoneBy", spec := "fnExactDoneBy", unfollowed := true, recurses := true, apart := false, narrowed := true }
def FnExactDoneByUptoSaid : Prop := fnExactDoneByUptoRow.holds Try.pinned (OpenSpec.upto fnExactDoneBySpec)

/-- 'laws.FnExactAllDeps', WHERE WHAT IT READS IS OF BULK AT MOST 1048576: true; the input reads as it did. -/
def fnExactAllDepsUptoRow : OpenClaim := { program := "yteokbemieooeaaa", sum := "13922060bb9a2d6040bcb8eb3b2162bf7fa2e0f3f8c538d8d9594816e4f6c1f6", func := "loop.example/g00641/laws.FnExactAllDeps", spec := "fnExactAllDeps", unfollowed := true, recurses := true, apart := false, narrowed := true }
def FnExactAllDepsUptoSaid : Prop := fnExactAllDepsUptoRow.holds Try.pinned (OpenSpec.upto fnExactAllDepsSpec)

end Rows
end Go.Proofs.Yteokbemieooeaaa
