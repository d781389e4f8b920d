/-
  No cell of these rows narrows 'for every input' (looked for: loops, veiled, ifaces, maps, wideKeys, modest, calm, conditions, laid).
  DERIVED. THE GIVEN ROWS OF THIS SEAT. 7 by the template 'for every input the law returns true; each argument reads behind the call as it read before'; 0 by the template 'total and deterministic' (their statements: YtbaojaadmooogaaTotals.lean).
  GIVEN WITH THE SEED: the statements are not yours to turn. If you find one false, say at which input.
  Laid BY PROGRAM, IN A SANDBOX (cutbox-rows.mjs): the forced cells as the released guide's own fill.sh prints them over the translation 5436b63e566c0a57… (all of the seat's roots in one cut). By AI agents, Wed Nov 11 2026. No macro, syntax, notation, axiom, sorry.
-/
import Derived.Test.YtbaojaadmooogaaChecked
import GoSem.Claim
import GoSem.ClaimJoined
import GoSem.ClaimMapViews
import Derived.JoinedTies
import Derived.KernelRfl
namespace Go.Proofs.Ytbaojaadmooogaa
/- THE CELL 'sum', in the pinned program and in every row, IS THE sha256 OF THE DUMP (.gsa) THAT YtbaojaadmooogaaProg.lean LOADS. Nothing in Lean hashes anything: it is a label: what it is worth is what the hold of that sum in a sandbox is worth. -/
noncomputable def Try.pinned : Pinned := { name := "ytbaojaadmooogaa", sum := "5436b63e566c0a57f278019acf50f969bbf2af78326051f031d86688d05c8e9c", checked := Try.checked }
namespace Rows
def none {H : Type} : Left H := { results := [], args := [] }

/-- 'laws.FnExactGoodRecord': WHATEVER THE INPUT: true; the input reads as it did. -/
def fnExactGoodRecordSpec : ChangeSpec := { name := "fnExactGoodRecord", fn := fun _ => fun
  | [d] => { results := [.lit (.bool true)], args := [d] }
  | _ => none }
def fnExactGoodRecordRow : OpenClaim := { program := "ytbaojaadmooogaa", sum := "5436b63e566c0a57f278019acf50f969bbf2af78326051f031d86688d05c8e9c", func := "loop.example/g00641/laws.FnExactGoodRecord", spec := "fnExactGoodRecord", apart := false }
def FnExactGoodRecordSaid : Prop := fnExactGoodRecordRow.holds Try.pinned (OpenSpec.ofChange fnExactGoodRecordSpec)

/-- ITS FALSE NEIGHBOUR: 'it returns false'. Refute it at one input. -/
def fnExactGoodRecordWrong : ChangeSpec := { name := "fnExactGoodRecord", fn := fun _ => fun
  | [d] => { results := [.lit (.bool false)], args := [d] }
  | _ => none }
def FnExactGoodRecordWrongFalsely : Prop := fnExactGoodRecordRow.holds Try.pinned (OpenSpec.ofChange fnExactGoodRecordWrong)

/-- 'laws.FnExactAgreeOn': WHATEVER THE INPUT: true; the input reads as it did. -/
def fnExactAgreeOnSpec : ChangeSpec := { name := "fnExactAgreeOn", fn := fun _ => fun
  | [d1, d2, d3] => { results := [.lit (.bool true)], args := [d1, d2, d3] }
  | _ => none }
def fnExactAgreeOnRow : OpenClaim := { program := "ytbaojaadmooogaa", sum := "5436b63e566c0a57f278019acf50f969bbf2af78326051f031d86688d05c8e9c", func := "loop.example/g00641/laws.FnExactAgreeOn", spec := "fnExactAgreeOn", unfollowed := true, recurses := true, apart := false }
def FnExactAgreeOnSaid : Prop := fnExactAgreeOnRow.holds Try.pinned (OpenSpec.ofChange fnExactAgreeOnSpec)

/-- ITS FALSE NEIGHBOUR: 'it returns false'. Refute it at one input. -/
def fnExactAgreeOnWrong : ChangeSpec := { name := "fnExactAgreeOn", fn := fun _ => fun
  | [d1, d2, d3] => { results := [.lit (.bool false)], args := [d1, d2, d3] }
  | _ => none }
def FnExactAgreeOnWrongFalsely : Prop := fnExactAgreeOnRow.holds Try.pinned (OpenSpec.ofChange fnExactAgreeOnWrong)

/-- 'laws.FnExactGoodHeard': WHATEVER THE INPUT: true; the input reads as it did. -/
def fnExactGoodHeardSpec : ChangeSpec := { name := "fnExactGoodHeard", fn := fun _ => fun
  | [d] => { results := [.lit (.bool true)], args := [d] }
  | _ => none }
def fnExactGoodHeardRow : OpenClaim := { program := "ytbaojaadmooogaa", sum := "5436b63e566c0a57f278019acf50f969bbf2af78326051f031d86688d05c8e9c", func := "loop.example/g00641/laws.FnExactGoodHeard", spec := "fnExactGoodHeard", unfollowed := true, recurses := true, apart := false }
def FnExactGoodHeardSaid : Prop := fnExactGoodHeardRow.holds Try.pinned (OpenSpec.ofChange fnExactGoodHeardSpec)

/-- ITS FALSE NEIGHBOUR: 'it returns false'. Refute it at one input. -/
def fnExactGoodHeardWrong : ChangeSpec := { name := "fnExactGoodHeard", fn := fun _ => fun
  | [d] => { results := [.lit (.bool false)], args := [d] }
  | _ => none }
def FnExactGoodHeardWrongFalsely : Prop := fnExactGoodHeardRow.holds Try.pinned (OpenSpec.ofChange fnExactGoodHeardWrong)

/-- 'laws.FnExactNeedsOf': WHATEVER THE INPUT: true; the input reads as it did. -/
def fnExactNeedsOfSpec : ChangeSpec := { name := "fnExactNeedsOf", fn := fun _ => fun
  | [d] => { results := [.lit (.bool true)], args := [d] }
  | _ => none }
def fnExactNeedsOfRow : OpenClaim := { program := "ytbaojaadmooogaa", sum := "5436b63e566c0a57f278019acf50f969bbf2af78326051f031d86688d05c8e9c", func := "loop.example/g00641/laws.FnExactNeedsOf", spec := "fnExactNeedsOf", recurses := true, apart := false }
def FnExactNeedsOfSaid : Prop := fnExactNeedsOfRow.holds Try.pinned (OpenSpec.ofChange fnExactNeedsOfSpec)

/-- ITS FALSE NEIGHBOUR: 'it returns false'. Refute it at one input. -/
def fnExactNeedsOfWrong : ChangeSpec := { name := "fnExactNeedsOf", fn := fun _ => fun
  | [d] => { results := [.lit (.bool false)], args := [d] }
  | _ => none }
def FnExactNeedsOfWrongFalsely : Prop := fnExactNeedsOfRow.holds Try.pinned (OpenSpec.ofChange fnExactNeedsOfWrong)

/-- 'laws.FnExactMissedBy': WHATEVER THE INPUT: true; the input reads as it did. -/
def fnExactMissedBySpec : ChangeSpec := { name := "fnExactMissedBy", fn := fun _ => fun
  | [d1, d2] => { results := [.lit (.bool true)], args := [d1, d2] }
  | _ => none }
def fnExactMissedByRow : OpenClaim := { program := "ytbaojaadmooogaa", sum := "5436b63e566c0a57f278019acf50f969bbf2af78326051f031d86688d05c8e9c", func := "loop.example/g00641/laws.FnExactMissedBy", spec := "fnExactMissedBy", unfollowed := true, recurses := true, apart := false }
def FnExactMissedBySaid : Prop := fnExactMissedByRow.holds Try.pinned (OpenSpec.ofChange fnExactMissedBySpec)

/-- ITS FALSE NEIGHBOUR: 'it returns false'. Refute it at one input. -/
def fnExactMissedByWrong : ChangeSpec := { name := "fnExactMissedBy", fn := fun _ => fun
  | [d1, d2] => { results := [.lit (.bool false)], args := [d1, d2] }
  | _ => none }
def FnExactMissedByWrongFalsely : Prop := fnExactMissedByRow.holds Try.pinned (OpenSpec.ofChange fnExactMissedByWrong)

/-- 'laws.FnExactCanSplit': WHATEVER THE INPUT: true; the input reads as it did. -/
def fnExactCanSplitSpec : ChangeSpec := { name := "fnExactCanSplit", fn := fun _ => fun
  | [d] => { results := [.lit (.bool true)], args := [d] }
  | _ => none }
def fnExactCanSplitRow : OpenClaim := { program := "ytbaojaadmooogaa", sum := "5436b63e566c0a57f278019acf50f969bbf2af78326051f031d86688d05c8e9c", func := "loop.example/g00641/laws.FnExactCanSplit", spec := "fnExactCanSplit", unfollowed := true, recurses := true, apart := false }
def FnExactCanSplitSaid : Prop := fnExactCanSplitRow.holds Try.pinned (OpenSpec.ofChange fnExactCanSplitSpec)

/-- ITS FALSE NEIGHBOUR: 'it returns false'. Refute it at one input. -/
def fnExactCanSplitWrong : ChangeSpec := { name := "fnExactCanSplit", fn := fun _ => fun
  | [d] => { results := [.lit (.bool false)], args := [d] }
  | _ => none }
def FnExactCanSplitWrongFalsely : Prop := fnExactCanSplitRow.holds Try.pinned (OpenSpec.ofChange fnExactCanSplitWrong)

/-- 'laws.FnExactRunPieces': WHATEVER THE INPUT: true; the input reads as it did. -/
def fnExactRunPiecesSpec : ChangeSpec := { name := "fnExactRunPieces", fn := fun _ => fun
  | [d1, d2, d3] => { results := [.lit (.bool true)], args := [d1, d2, d3] }
  | _ => none }
def fnExactRunPiecesRow : OpenClaim := { program := "ytbaojaadmooogaa", sum := "5436b63e566c0a57f278019acf50f969bbf2af78326051f031d86688d05c8e9c", func := "loop.example/g00641/laws.FnExactRunPieces", spec := "fnExactRunPieces", unfollowed := true, recurses := true, apart := false }
def FnExactRunPiecesSaid : Prop := fnExactRunPiecesRow.holds Try.pinned (OpenSpec.ofChange fnExactRunPiecesSpec)

/-- ITS FALSE NEIGHBOUR: 'it returns false'. Refute it at one input. -/
def fnExactRunPiecesWrong : ChangeSpec := { name := "fnExactRunPieces", fn := fun _ => fun
  | [d1, d2, d3] => { results := [.lit (.bool false)], args := [d1, d2, d3] }
  | _ => none }
def FnExactRunPiecesWrongFalsely : Prop := fnExactRunPiecesRow.holds Try.pinned (OpenSpec.ofChange fnExactRunPiecesWrong)

/- THE SECOND FORM. 'bulk': how many values and letters a reading holds, each counted each time it is reached (what is shared counts as often as it is met; a slice's spare places count too). A statement '..UptoSaid' is the law's where the arguments, and the package variables that the reading takes, are together of bulk at most 1048576: NARROWER than '..Said'. Prove '..Said' where nothing that the law and all that it calls make is longer than what came in: it says more and counts as full. Else prove '..UptoSaid'. A law counts once. -/
mutual
def uptoBulk {H : Type} : DataW H → Nat
  | .lit (.string bytes) => bytes.length + 1
  | .lit _ => 1
  | .nil => 1
  | .ptr d => uptoBulk d + 1
  | .slice elems spare => uptoBulkAll elems + uptoBulkAll spare + 1
  | .agg parts => uptoBulkAll parts + 1
  | .iface _ d => uptoBulk d + 1
  | .map entries => uptoBulkEntries entries + 1
  | .held _ => 1
def uptoBulkAll {H : Type} : List (DataW H) → Nat
  | [] => 0
  | d :: r => uptoBulk d + uptoBulkAll r
def uptoBulkEntries {H : Type} : List (Lit × DataW H) → Nat
  | [] => 0
  | x :: r => uptoBulkEntry x + uptoBulkEntries r
def uptoBulkEntry {H : Type} : Lit × DataW H → Nat
  | (.string bytes, d) => bytes.length + uptoBulk d + 1
  | (_, d) => uptoBulk d + 1
 end
def uptoSmall : (H : Type) → List (DataW H) → Bool := fun _ ds => decide (uptoBulkAll ds ≤ 1048576)
def OpenSpec.upto (s : _root_.Go.ChangeSpec) : _root_.Go.OpenSpec := { _root_.Go.OpenSpec.ofChange s with cond := some uptoSmall }

/-- 'laws.FnExactGoodRecord', WHERE WHAT IT READS IS OF BULK AT MOST 1048576: true; the input reads as it did. -/
def fnExactGoodRecordUptoRow : OpenClaim := { program := "ytbaojaadmooogaa", sum := "5436b63e566c0a57f278019acf50f969bbf2af78326051f031d86688d05c8e9c", func := "loop.example/g00641/laws.FnExactGoodRecord", spec := "fnExactGoodRecord", apart := false, narrowed := true }
def FnExactGoodRecordUptoSaid : Prop := fnExactGoodRecordUptoRow.holds Try.pinned (OpenSpec.upto fnExactGoodRecordSpec)

/-- 'laws.FnExactAgreeOn', WHERE WHAT IT READS IS OF BULK AT MOST 1048576: true; the input reads as it did. -/
def fnExactAgreeOnUptoRow : OpenClaim := { program := "ytbaojaadmooogaa", sum := "5436b63e566c0a57f278019acf50f969bbf2af78326051f031d86688d05c8e9c", func := "loop.example/g00641/laws.FnExactAgreeOn", spec := "fnExactAgreeOn", unfollowed := true, recurses := true, apart := false, narrowed := true }
def FnExactAgreeOnUptoSaid : Prop := fnExactAgreeOnUptoRow.holds Try.pinned (OpenSpec.upto fnExactAgreeOnSpec)

/-- 'laws.FnExactGoodHeard', WHERE WHAT IT READS IS OF BULK AT MOST 1048576: true; the input reads as it did. -/
def fnExactGoodHeardUptoRow : OpenClaim := { program := "ytbaojaadmooogaa", sum := "5436b63e566c0a57f278019acf50f969bbf2af78326051f031d86688d05c8e9c", func := "loop.example/g00641/laws.FnExactGoodHeard", spec := "fnExactGoodHeard", unfollowed := true, recurses := true, apart := false, narrowed := true }
def FnExactGoodHeardUptoSaid : Prop := fnExactGoodHeardUptoRow.holds Try.pinned (OpenSpec.upto fnExactGoodHeardSpec)

/-- 'laws.FnExactNeedsOf', WHERE WHAT IT READS IS OF BULK AT MOST 1048576: true; the input reads as it did. -/
def fnExactNeedsOfUptoRow : OpenClaim := { program := "ytbaojaadmooogaa", sum := "5436b63e566c0a57f278019acf50f969bbf2af78326051f031d86688d05c8e9c", func := "loop.example/g00641/laws.FnExactNeedsOf", spec := "fnExactNeedsOf", recurses := true, apart := false, narrowed := true }
def FnExactNeedsOfUptoSaid : Prop := fnExactNeedsOfUptoRow.holds Try.pinned (OpenSpec.upto fnExactNeedsOfSpec)

/-- 'laws.FnExactMissedBy', WHERE WHAT IT READS IS OF BULK AT MOST 1048576: true; the input reads as it did. -/
def fnExactMissedByUptoRow : OpenClaim := { program := "ytbaojaadmooogaa", sum := "5436b63e566c0a57f278019acf50f969bbf2af78326051f031d86688d05c8e9c", func := "loop.example/g00641/laws.FnExactMissedBy", spec := "fnExactMissedBy", unfollowed := true, recurses := true, apart := false, narrowed := true }
def FnExactMissedByUptoSaid : Prop := fnExactMissedByUptoRow.holds Try.pinned (OpenSpec.upto fnExactMissedBySpec)

/-- 'laws.FnExactCanSplit', WHERE WHAT IT READS IS OF BULK AT MOST 1048576: true; the input reads as it did. -/
def fnExactCanSplitUptoRow : OpenClaim := { program := "ytbaojaadmooogaa", sum := "5436b63e566c0a57f278019acf50f969bbf2af78326051f031d86688d05c8e9c", func := "loop.example/g00641/laws.FnExactCanSplit", spec := "fnExactCanSplit", unfollowed := true, recurses := true, apart := false, narrowed := true }
def FnExactCanSplitUptoSaid : Prop := fnExactCanSplitUptoRow.holds Try.pinned (OpenSpec.upto fnExactCanSplitSpec)

/-- 'laws.FnExactRunPieces', WHERE WHAT IT READS IS OF BULK AT MOST 1048576: true; the input reads as it did. -/
def fnExactRunPiecesUptoRow : OpenClaim := { program := "ytbaojaadmooogaa", sum := "5436b63e566c0a57f278019acf50f969bbf2af78326051f031d86688d05c8e9c", func := "loop.example/g00641/laws.FnExactRunPieces", spec := "fnExactRunPieces", unfollowed := true, recurses := true, apart := false, narrowed := true }
def FnExactRunPiecesUptoSaid : Prop := fnExactRunPiecesUptoRow.holds Try.pinned (OpenSpec.upto fnExactRunPiecesSpec)

end Rows
end Go.Proofs.Ytbaojaadmooogaa
