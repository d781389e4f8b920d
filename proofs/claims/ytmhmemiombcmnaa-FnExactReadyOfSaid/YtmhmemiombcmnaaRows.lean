/-
  No cell of these rows narrows 'for every input' (looked for: loops, veiled, ifaces, maps, wideKeys, modest, calm, conditions, laid).
  DERIVED. THE GIVEN ROWS OF THIS SEAT. 22 by the template 'for every input the law returns true; each argument reads behind the call as it read before'; 0 by the template 'total and deterministic' (their statements: YtmhmemiombcmnaaTotals.lean).
  GIVEN WITH THE SEED: the statements are not yours to turn. If you find one false, say at which input.
  Laid BY PROGRAM, IN A SANDBOX (cutbox-rows.mjs): the forced cells as the released guide's own fill.sh prints them over the translation 251ad9fa7c02c75c… (all of the seat's roots in one cut). By AI agents, Wed Nov 11 2026. No macro, syntax, notation, axiom, sorry.
-/
import Derived.Test.YtmhmemiombcmnaaChecked
import GoSem.Claim
import GoSem.ClaimJoined
import GoSem.ClaimMapViews
import Derived.JoinedTies
import Derived.KernelRfl
namespace Go.Proofs.Ytmhmemiombcmnaa
/- THE CELL 'sum', in the pinned program and in every row, IS THE sha256 OF THE DUMP (.gsa) THAT YtmhmemiombcmnaaProg.lean LOADS. Nothing in Lean hashes anything: it is a label: what it is worth is what the hold of that sum in a sandbox is worth. -/
noncomputable def Try.pinned : Pinned := { name := "ytmhmemiombcmnaa", sum := "251ad9fa7c02c75c51309ba69f6beabeb966aae1e235c25e79f013cc2c0666fc", checked := Try.checked }
namespace Rows
def none {H : Type} : Left H := { results := [], args := [] }

/-- 'laws.FnExactReachOf': WHATEVER THE INPUT: true; the input reads as it did. -/
def fnExactReachOfSpec : ChangeSpec := { name := "fnExactReachOf", fn := fun _ => fun
  | [d1, d2] => { results := [.lit (.bool true)], args := [d1, d2] }
  | _ => none }
def fnExactReachOfRow : OpenClaim := { program := "ytmhmemiombcmnaa", sum := "251ad9fa7c02c75c51309ba69f6beabeb966aae1e235c25e79f013cc2c0666fc", func := "loop.example/g00641/laws.FnExactReachOf", spec := "fnExactReachOf", unfollowed := true, recurses := true, apart := false }
def FnExactReachOfSaid : Prop := fnExactReachOfRow.holds Try.pinned (OpenSpec.ofChange fnExactReachOfSpec)

/-- ITS FALSE NEIGHBOUR: 'it returns false'. Refute it at one input. -/
def fnExactReachOfWrong : ChangeSpec := { name := "fnExactReachOf", fn := fun _ => fun
  | [d1, d2] => { results := [.lit (.bool false)], args := [d1, d2] }
  | _ => none }
def FnExactReachOfWrongFalsely : Prop := fnExactReachOfRow.holds Try.pinned (OpenSpec.ofChange fnExactReachOfWrong)

/-- 'laws.FnExactIsRoundless': WHATEVER THE INPUT: true; the input reads as it did. -/
def fnExactIsRoundlessSpec : ChangeSpec := { name := "fnExactIsRoundless", fn := fun _ => fun
  | [d] => { results := [.lit (.bool true)], args := [d] }
  | _ => none }
def fnExactIsRoundlessRow : OpenClaim := { program := "ytmhmemiombcmnaa", sum := "251ad9fa7c02c75c51309ba69f6beabeb966aae1e235c25e79f013cc2c0666fc", func := "loop.example/g00641/laws.FnExactIsRoundless", spec := "fnExactIsRoundless", unfollowed := true, recurses := true, apart := false }
def FnExactIsRoundlessSaid : Prop := fnExactIsRoundlessRow.holds Try.pinned (OpenSpec.ofChange fnExactIsRoundlessSpec)

/-- ITS FALSE NEIGHBOUR: 'it returns false'. Refute it at one input. -/
def fnExactIsRoundlessWrong : ChangeSpec := { name := "fnExactIsRoundless", fn := fun _ => fun
  | [d] => { results := [.lit (.bool false)], args := [d] }
  | _ => none }
def FnExactIsRoundlessWrongFalsely : Prop := fnExactIsRoundlessRow.holds Try.pinned (OpenSpec.ofChange fnExactIsRoundlessWrong)

/-- 'laws.FnExactGroupAt': WHATEVER THE INPUT: true; the input reads as it did. -/
def fnExactGroupAtSpec : ChangeSpec := { name := "fnExactGroupAt", fn := fun _ => fun
  | [d1, d2] => { results := [.lit (.bool true)], args := [d1, d2] }
  | _ => none }
def fnExactGroupAtRow : OpenClaim := { program := "ytmhmemiombcmnaa", sum := "251ad9fa7c02c75c51309ba69f6beabeb966aae1e235c25e79f013cc2c0666fc", func := "loop.example/g00641/laws.FnExactGroupAt", spec := "fnExactGroupAt", unfollowed := true, recurses := true, apart := false }
def FnExactGroupAtSaid : Prop := fnExactGroupAtRow.holds Try.pinned (OpenSpec.ofChange fnExactGroupAtSpec)

/-- ITS FALSE NEIGHBOUR: 'it returns false'. Refute it at one input. -/
def fnExactGroupAtWrong : ChangeSpec := { name := "fnExactGroupAt", fn := fun _ => fun
  | [d1, d2] => { results := [.lit (.bool false)], args := [d1, d2] }
  | _ => none }
def FnExactGroupAtWrongFalsely : Prop := fnExactGroupAtRow.holds Try.pinned (OpenSpec.ofChange fnExactGroupAtWrong)

/-- 'laws.FnExactWaitsOn': WHATEVER THE INPUT: true; the input reads as it did. -/
def fnExactWaitsOnSpec : ChangeSpec := { name := "fnExactWaitsOn", fn := fun _ => fun
  | [d1, d2, d3] => { results := [.lit (.bool true)], args := [d1, d2, d3] }
  | _ => none }
def fnExactWaitsOnRow : OpenClaim := { program := "ytmhmemiombcmnaa", sum := "251ad9fa7c02c75c51309ba69f6beabeb966aae1e235c25e79f013cc2c0666fc", func := "loop.example/g00641/laws.FnExactWaitsOn", spec := "fnExactWaitsOn", unfollowed := true, recurses := true, apart := false }
def FnExactWaitsOnSaid : Prop := fnExactWaitsOnRow.holds Try.pinned (OpenSpec.ofChange fnExactWaitsOnSpec)

/-- ITS FALSE NEIGHBOUR: 'it returns false'. Refute it at one input. -/
def fnExactWaitsOnWrong : ChangeSpec := { name := "fnExactWaitsOn", fn := fun _ => fun
  | [d1, d2, d3] => { results := [.lit (.bool false)], args := [d1, d2, d3] }
  | _ => none }
def FnExactWaitsOnWrongFalsely : Prop := fnExactWaitsOnRow.holds Try.pinned (OpenSpec.ofChange fnExactWaitsOnWrong)

/-- 'laws.FnExactReadyOf': WHATEVER THE INPUT: true; the input reads as it did. -/
def fnExactReadyOfSpec : ChangeSpec := { name := "fnExactReadyOf", fn := fun _ => fun
  | [d1, d2] => { results := [.lit (.bool true)], args := [d1, d2] }
  | _ => none }
def fnExactReadyOfRow : OpenClaim := { program := "ytmhmemiombcmnaa", sum := "251ad9fa7c02c75c51309ba69f6beabeb966aae1e235c25e79f013cc2c0666fc", func := "loop.example/g00641/laws.FnExactReadyOf", spec := "fnExactReadyOf", unfollowed := true, recurses := true, apart := false }
def FnExactReadyOfSaid : Prop := fnExactReadyOfRow.holds Try.pinned (OpenSpec.ofChange fnExactReadyOfSpec)

/-- ITS FALSE NEIGHBOUR: 'it returns false'. Refute it at one input. -/
def fnExactReadyOfWrong : ChangeSpec := { name := "fnExactReadyOf", fn := fun _ => fun
  | [d1, d2] => { results := [.lit (.bool false)], args := [d1, d2] }
  | _ => none }
def FnExactReadyOfWrongFalsely : Prop := fnExactReadyOfRow.holds Try.pinned (OpenSpec.ofChange fnExactReadyOfWrong)

/-- 'laws.FnExactOrderBy': WHATEVER THE INPUT: true; the input reads as it did. -/
def fnExactOrderBySpec : ChangeSpec := { name := "fnExactOrderBy", fn := fun _ => fun
  | [d] => { results := [.lit (.bool true)], args := [d] }
  | _ => none }
def fnExactOrderByRow : OpenClaim := { program := "ytmhmemiombcmnaa", sum := "251ad9fa7c02c75c51309ba69f6beabeb966aae1e235c25e79f013cc2c0666fc", func := "loop.example/g00641/laws.FnExactOrderBy", spec := "fnExactOrderBy", unfollowed := true, recurses := true, apart := false }
def FnExactOrderBySaid : Prop := fnExactOrderByRow.holds Try.pinned (OpenSpec.ofChange fnExactOrderBySpec)

/-- ITS FALSE NEIGHBOUR: 'it returns false'. Refute it at one input. -/
def fnExactOrderByWrong : ChangeSpec := { name := "fnExactOrderBy", fn := fun _ => fun
  | [d] => { results := [.lit (.bool false)], args := [d] }
  | _ => none }
def FnExactOrderByWrongFalsely : Prop := fnExactOrderByRow.holds Try.pinned (OpenSpec.ofChange fnExactOrderByWrong)

/-- 'laws.FnExactWholeOrder': WHATEVER THE INPUT: true; the input reads as it did. -/
def fnExactWholeOrderSpec : ChangeSpec := { name := "fnExactWholeOrder", fn := fun _ => fun
  | [d] => { results := [.lit (.bool true)], args := [d] }
  | _ => none }
def fnExactWholeOrderRow : OpenClaim := { program := "ytmhmemiombcmnaa", sum := "251ad9fa7c02c75c51309ba69f6beabeb966aae1e235c25e79f013cc2c0666fc", func := "loop.example/g00641/laws.FnExactWholeOrder", spec := "fnExactWholeOrder", unfollowed := true, recurses := true, apart := false }
def FnExactWholeOrderSaid : Prop := fnExactWholeOrderRow.holds Try.pinned (OpenSpec.ofChange fnExactWholeOrderSpec)

/-- ITS FALSE NEIGHBOUR: 'it returns false'. Refute it at one input. -/
def fnExactWholeOrderWrong : ChangeSpec := { name := "fnExactWholeOrder", fn := fun _ => fun
  | [d] => { results := [.lit (.bool false)], args := [d] }
  | _ => none }
def FnExactWholeOrderWrongFalsely : Prop := fnExactWholeOrderRow.holds Try.pinned (OpenSpec.ofChange fnExactWholeOrderWrong)

/-- 'laws.FnExactGroupsOf': WHATEVER THE INPUT: true; the input reads as it did. -/
def fnExactGroupsOfSpec : ChangeSpec := { name := "fnExactGroupsOf", fn := fun _ => fun
  | [d] => { results := [.lit (.bool true)], args := [d] }
  | _ => none }
def fnExactGroupsOfRow : OpenClaim := { program := "ytmhmemiombcmnaa", sum := "251ad9fa7c02c75c51309ba69f6beabeb966aae1e235c25e79f013cc2c0666fc", func := "loop.example/g00641/laws.FnExactGroupsOf", spec := "fnExactGroupsOf", unfollowed := true, recurses := true, apart := false }
def FnExactGroupsOfSaid : Prop := fnExactGroupsOfRow.holds Try.pinned (OpenSpec.ofChange fnExactGroupsOfSpec)

/-- ITS FALSE NEIGHBOUR: 'it returns false'. Refute it at one input. -/
def fnExactGroupsOfWrong : ChangeSpec := { name := "fnExactGroupsOf", fn := fun _ => fun
  | [d] => { results := [.lit (.bool false)], args := [d] }
  | _ => none }
def FnExactGroupsOfWrongFalsely : Prop := fnExactGroupsOfRow.holds Try.pinned (OpenSpec.ofChange fnExactGroupsOfWrong)

/-- 'laws.FnExactShrink': WHATEVER THE INPUT: true; the input reads as it did. -/
def fnExactShrinkSpec : ChangeSpec := { name := "fnExactShrink", fn := fun _ => fun
  | [d] => { results := [.lit (.bool true)], args := [d] }
  | _ => none }
def fnExactShrinkRow : OpenClaim := { program := "ytmhmemiombcmnaa", sum := "251ad9fa7c02c75c51309ba69f6beabeb966aae1e235c25e79f013cc2c0666fc", func := "loop.example/g00641/laws.FnExactShrink", spec := "fnExactShrink", unfollowed := true, recurses := true, apart := false }
def FnExactShrinkSaid : Prop := fnExactShrinkRow.holds Try.pinned (OpenSpec.ofChange fnExactShrinkSpec)

/-- ITS FALSE NEIGHBOUR: 'it returns false'. Refute it at one input. -/
def fnExactShrinkWrong : ChangeSpec := { name := "fnExactShrink", fn := fun _ => fun
  | [d] => { results := [.lit (.bool false)], args := [d] }
  | _ => none }
def FnExactShrinkWrongFalsely : Prop := fnExactShrinkRow.holds Try.pinned (OpenSpec.ofChange fnExactShrinkWrong)

/-- 'laws.FnExactNextDone': WHATEVER THE INPUT: true; the input reads as it did. -/
def fnExactNextDoneSpec : ChangeSpec := { name := "fnExactNextDone", fn := fun _ => fun
  | [d1, d2, d3] => { results := [.lit (.bool true)], args := [d1, d2, d3] }
  | _ => none }
def fnExactNextDoneRow : OpenClaim := { program := "ytmhmemiombcmnaa", sum := "251ad9fa7c02c75c51309ba69f6beabeb966aae1e235c25e79f013cc2c0666fc", func := "loop.example/g00641/laws.FnExactNextDone", spec := "fnExactNextDone", unfollowed := true, recurses := true, apart := false }
def FnExactNextDoneSaid : Prop := fnExactNextDoneRow.holds Try.pinned (OpenSpec.ofChange fnExactNextDoneSpec)

/-- ITS FALSE NEIGHBOUR: 'it returns false'. Refute it at one input. -/
def fnExactNextDoneWrong : ChangeSpec := { name := "fnExactNextDone", fn := fun _ => fun
  | [d1, d2, d3] => { results := [.lit (.bool false)], args := [d1, d2, d3] }
  | _ => none }
def FnExactNextDoneWrongFalsely : Prop := fnExactNextDoneRow.holds Try.pinned (OpenSpec.ofChange fnExactNextDoneWrong)

/-- 'laws.FnExactDoneBy': WHATEVER THE INPUT: true; the input reads as it did. -/
def fnExactDoneBySpec : ChangeSpec := { name := "fnExactDoneBy", fn := fun _ => fun
  | [d1, d2] => { results := [.lit (.bool true)], args := [d1, d2] }
  | _ => none }
def fnExactDoneByRow : OpenClaim := { program := "ytmhmemiombcmnaa", sum := "251ad9fa7c02c75c51309ba69f6beabeb966aae1e235c25e79f013cc2c0666fc", func := "loop.example/g00641/laws.FnExactDoneBy", spec := "fnExactDoneBy", unfollowed := true, recurses := true, apart := false }
def FnExactDoneBySaid : Prop := fnExactDoneByRow.holds Try.pinned (OpenSpec.ofChange fnExactDoneBySpec)

/-- ITS FALSE NEIGHBOUR: 'it returns false'. Refute it at one input. -/
def fnExactDoneByWrong : ChangeSpec := { name := "fnExactDoneBy", fn := fun _ => fun
  | [d1, d2] => { results := [.lit (.bool false)], args := [d1, d2] }
  | _ => none }
def FnExactDoneByWrongFalsely : Prop := fnExactDoneByRow.holds Try.pinned (OpenSpec.ofChange fnExactDoneByWrong)

/-- 'laws.FnExactAgreeOn': WHATEVER THE INPUT: true; the input reads as it did. -/
def fnExactAgreeOnSpec : ChangeSpec := { name := "fnExactAgreeOn", fn := fun _ => fun
  | [d1, d2, d3] => { results := [.lit (.bool true)], args := [d1, d2, d3] }
  | _ => none }
def fnExactAgreeOnRow : OpenClaim := { program := "ytmhmemiombcmnaa", sum := "251ad9fa7c02c75c51309ba69f6beabeb966aae1e235c25e79f013cc2c0666fc", func := "loop.example/g00641/laws.FnExactAgreeOn", spec := "fnExactAgreeOn", unfollowed := true, recurses := true, apart := false }
def FnExactAgreeOnSaid : Prop := fnExactAgreeOnRow.holds Try.pinned (OpenSpec.ofChange fnExactAgreeOnSpec)

/-- ITS FALSE NEIGHBOUR: 'it returns false'. Refute it at one input. -/
def fnExactAgreeOnWrong : ChangeSpec := { name := "fnExactAgreeOn", fn := fun _ => fun
  | [d1, d2, d3] => { results := [.lit (.bool false)], args := [d1, d2, d3] }
  | _ => none }
def FnExactAgreeOnWrongFalsely : Prop := fnExactAgreeOnRow.holds Try.pinned (OpenSpec.ofChange fnExactAgreeOnWrong)

/-- 'laws.FnExactGoodSteps': WHATEVER THE INPUT: true; the input reads as it did. -/
def fnExactGoodStepsSpec : ChangeSpec := { name := "fnExactGoodSteps", fn := fun _ => fun
  | [d] => { results := [.lit (.bool true)], args := [d] }
  | _ => none }
def fnExactGoodStepsRow : OpenClaim := { program := "ytmhmemiombcmnaa", sum := "251ad9fa7c02c75c51309ba69f6beabeb966aae1e235c25e79f013cc2c0666fc", func := "loop.example/g00641/laws.FnExactGoodSteps", spec := "fnExactGoodSteps", apart := false }
def FnExactGoodStepsSaid : Prop := fnExactGoodStepsRow.holds Try.pinned (OpenSpec.ofChange fnExactGoodStepsSpec)

/-- ITS FALSE NEIGHBOUR: 'it returns false'. Refute it at one input. -/
def fnExactGoodStepsWrong : ChangeSpec := { name := "fnExactGoodSteps", fn := fun _ => fun
  | [d] => { results := [.lit (.bool false)], args := [d] }
  | _ => none }
def FnExactGoodStepsWrongFalsely : Prop := fnExactGoodStepsRow.holds Try.pinned (OpenSpec.ofChange fnExactGoodStepsWrong)

/-- 'laws.FnExactPiecesOf': WHATEVER THE INPUT: true; the input reads as it did. -/
def fnExactPiecesOfSpec : ChangeSpec := { name := "fnExactPiecesOf", fn := fun _ => fun
  | [d] => { results := [.lit (.bool true)], args := [d] }
  | _ => none }
def fnExactPiecesOfRow : OpenClaim := { program := "ytmhmemiombcmnaa", sum := "251ad9fa7c02c75c51309ba69f6beabeb966aae1e235c25e79f013cc2c0666fc", func := "loop.example/g00641/laws.FnExactPiecesOf", spec := "fnExactPiecesOf", apart := false }
def FnExactPiecesOfSaid : Prop := fnExactPiecesOfRow.holds Try.pinned (OpenSpec.ofChange fnExactPiecesOfSpec)

/-- ITS FALSE NEIGHBOUR: 'it returns false'. Refute it at one input. -/
def fnExactPiecesOfWrong : ChangeSpec := { name := "fnExactPiecesOf", fn := fun _ => fun
  | [d] => { results := [.lit (.bool false)], args := [d] }
  | _ => none }
def FnExactPiecesOfWrongFalsely : Prop := fnExactPiecesOfRow.holds Try.pinned (OpenSpec.ofChange fnExactPiecesOfWrong)

/-- 'laws.FnExactRunSteps': WHATEVER THE INPUT: true; the input reads as it did. -/
def fnExactRunStepsSpec : ChangeSpec := { name := "fnExactRunSteps", fn := fun _ => fun
  | [d1, d2] => { results := [.lit (.bool true)], args := [d1, d2] }
  | _ => none }
def fnExactRunStepsRow : OpenClaim := { program := "ytmhmemiombcmnaa", sum := "251ad9fa7c02c75c51309ba69f6beabeb966aae1e235c25e79f013cc2c0666fc", func := "loop.example/g00641/laws.FnExactRunSteps", spec := "fnExactRunSteps", unfollowed := true, recurses := true, apart := false }
def FnExactRunStepsSaid : Prop := fnExactRunStepsRow.holds Try.pinned (OpenSpec.ofChange fnExactRunStepsSpec)

/-- ITS FALSE NEIGHBOUR: 'it returns false'. Refute it at one input. -/
def fnExactRunStepsWrong : ChangeSpec := { name := "fnExactRunSteps", fn := fun _ => fun
  | [d1, d2] => { results := [.lit (.bool false)], args := [d1, d2] }
  | _ => none }
def FnExactRunStepsWrongFalsely : Prop := fnExactRunStepsRow.holds Try.pinned (OpenSpec.ofChange fnExactRunStepsWrong)

/-- 'laws.FnExactKeysUsed': WHATEVER THE INPUT: true; the input reads as it did. -/
def fnExactKeysUsedSpec : ChangeSpec := { name := "fnExactKeysUsed", fn := fun _ => fun
  | [d] => { results := [.lit (.bool true)], args := [d] }
  | _ => none }
def fnExactKeysUsedRow : OpenClaim := { program := "ytmhmemiombcmnaa", sum := "251ad9fa7c02c75c51309ba69f6beabeb966aae1e235c25e79f013cc2c0666fc", func := "loop.example/g00641/laws.FnExactKeysUsed", spec := "fnExactKeysUsed", recurses := true, apart := false }
def FnExactKeysUsedSaid : Prop := fnExactKeysUsedRow.holds Try.pinned (OpenSpec.ofChange fnExactKeysUsedSpec)

/-- ITS FALSE NEIGHBOUR: 'it returns false'. Refute it at one input. -/
def fnExactKeysUsedWrong : ChangeSpec := { name := "fnExactKeysUsed", fn := fun _ => fun
  | [d] => { results := [.lit (.bool false)], args := [d] }
  | _ => none }
def FnExactKeysUsedWrongFalsely : Prop := fnExactKeysUsedRow.holds Try.pinned (OpenSpec.ofChange fnExactKeysUsedWrong)

/-- 'laws.FnExactNeedsOf': WHATEVER THE INPUT: true; the input reads as it did. -/
def fnExactNeedsOfSpec : ChangeSpec := { name := "fnExactNeedsOf", fn := fun _ => fun
  | [d] => { results := [.lit (.bool true)], args := [d] }
  | _ => none }
def fnExactNeedsOfRow : OpenClaim := { program := "ytmhmemiombcmnaa", sum := "251ad9fa7c02c75c51309ba69f6beabeb966aae1e235c25e79f013cc2c0666fc", func := "loop.example/g00641/laws.FnExactNeedsOf", spec := "fnExactNeedsOf", recurses := true, apart := false }
def FnExactNeedsOfSaid : Prop := fnExactNeedsOfRow.holds Try.pinned (OpenSpec.ofChange fnExactNeedsOfSpec)

/-- ITS FALSE NEIGHBOUR: 'it returns false'. Refute it at one input. -/
def fnExactNeedsOfWrong : ChangeSpec := { name := "fnExactNeedsOf", fn := fun _ => fun
  | [d] => { results := [.lit (.bool false)], args := [d] }
  | _ => none }
def FnExactNeedsOfWrongFalsely : Prop := fnExactNeedsOfRow.holds Try.pinned (OpenSpec.ofChange fnExactNeedsOfWrong)

/-- 'laws.FnExactCanSplit': WHATEVER THE INPUT: true; the input reads as it did. -/
def fnExactCanSplitSpec : ChangeSpec := { name := "fnExactCanSplit", fn := fun _ => fun
  | [d] => { results := [.lit (.bool true)], args := [d] }
  | _ => none }
def fnExactCanSplitRow : OpenClaim := { program := "ytmhmemiombcmnaa", sum := "251ad9fa7c02c75c51309ba69f6beabeb966aae1e235c25e79f013cc2c0666fc", func := "loop.example/g00641/laws.FnExactCanSplit", spec := "fnExactCanSplit", unfollowed := true, recurses := true, apart := false }
def FnExactCanSplitSaid : Prop := fnExactCanSplitRow.holds Try.pinned (OpenSpec.ofChange fnExactCanSplitSpec)

/-- ITS FALSE NEIGHBOUR: 'it returns false'. Refute it at one input. -/
def fnExactCanSplitWrong : ChangeSpec := { name := "fnExactCanSplit", fn := fun _ => fun
  | [d] => { results := [.lit (.bool false)], args := [d] }
  | _ => none }
def FnExactCanSplitWrongFalsely : Prop := fnExactCanSplitRow.holds Try.pinned (OpenSpec.ofChange fnExactCanSplitWrong)

/-- 'laws.FnExactRunPieces': WHATEVER THE INPUT: true; the input reads as it did. -/
def fnExactRunPiecesSpec : ChangeSpec := { name := "fnExactRunPieces", fn := fun _ => fun
  | [d1, d2, d3] => { results := [.lit (.bool true)], args := [d1, d2, d3] }
  | _ => none }
def fnExactRunPiecesRow : OpenClaim := { program := "ytmhmemiombcmnaa", sum := "251ad9fa7c02c75c51309ba69f6beabeb966aae1e235c25e79f013cc2c0666fc", func := "loop.example/g00641/laws.FnExactRunPieces", spec := "fnExactRunPieces", unfollowed := true, recurses := true, apart := false }
def FnExactRunPiecesSaid : Prop := fnExactRunPiecesRow.holds Try.pinned (OpenSpec.ofChange fnExactRunPiecesSpec)

/-- ITS FALSE NEIGHBOUR: 'it returns false'. Refute it at one input. -/
def fnExactRunPiecesWrong : ChangeSpec := { name := "fnExactRunPieces", fn := fun _ => fun
  | [d1, d2, d3] => { results := [.lit (.bool false)], args := [d1, d2, d3] }
  | _ => none }
def FnExactRunPiecesWrongFalsely : Prop := fnExactRunPiecesRow.holds Try.pinned (OpenSpec.ofChange fnExactRunPiecesWrong)

/-- 'laws.FnExactGoodHeard': WHATEVER THE INPUT: true; the input reads as it did. -/
def fnExactGoodHeardSpec : ChangeSpec := { name := "fnExactGoodHeard", fn := fun _ => fun
  | [d] => { results := [.lit (.bool true)], args := [d] }
  | _ => none }
def fnExactGoodHeardRow : OpenClaim := { program := "ytmhmemiombcmnaa", sum := "251ad9fa7c02c75c51309ba69f6beabeb966aae1e235c25e79f013cc2c0666fc", func := "loop.example/g00641/laws.FnExactGoodHeard", spec := "fnExactGoodHeard", unfollowed := true, recurses := true, apart := false }
def FnExactGoodHeardSaid : Prop := fnExactGoodHeardRow.holds Try.pinned (OpenSpec.ofChange fnExactGoodHeardSpec)

/-- ITS FALSE NEIGHBOUR: 'it returns false'. Refute it at one input. -/
def fnExactGoodHeardWrong : ChangeSpec := { name := "fnExactGoodHeard", fn := fun _ => fun
  | [d] => { results := [.lit (.bool false)], args := [d] }
  | _ => none }
def FnExactGoodHeardWrongFalsely : Prop := fnExactGoodHeardRow.holds Try.pinned (OpenSpec.ofChange fnExactGoodHeardWrong)

/-- 'laws.FnExactMissedBy': WHATEVER THE INPUT: true; the input reads as it did. -/
def fnExactMissedBySpec : ChangeSpec := { name := "fnExactMissedBy", fn := fun _ => fun
  | [d1, d2] => { results := [.lit (.bool true)], args := [d1, d2] }
  | _ => none }
def fnExactMissedByRow : OpenClaim := { program := "ytmhmemiombcmnaa", sum := "251ad9fa7c02c75c51309ba69f6beabeb966aae1e235c25e79f013cc2c0666fc", func := "loop.example/g00641/laws.FnExactMissedBy", spec := "fnExactMissedBy", unfollowed := true, recurses := true, apart := false }
def FnExactMissedBySaid : Prop := fnExactMissedByRow.holds Try.pinned (OpenSpec.ofChange fnExactMissedBySpec)

/-- ITS FALSE NEIGHBOUR: 'it returns false'. Refute it at one input. -/
def fnExactMissedByWrong : ChangeSpec := { name := "fnExactMissedBy", fn := fun _ => fun
  | [d1, d2] => { results := [.lit (.bool false)], args := [d1, d2] }
  | _ => none }
def FnExactMissedByWrongFalsely : Prop := fnExactMissedByRow.holds Try.pinned (OpenSpec.ofChange fnExactMissedByWrong)

/-- 'laws.FnExactAllDeps': WHATEVER THE INPUT: true; the input reads as it did. -/
def fnExactAllDepsSpec : ChangeSpec := { name := "fnExactAllDeps", fn := fun _ => fun
  | [d1, d2] => { results := [.lit (.bool true)], args := [d1, d2] }
  | _ => none }
def fnExactAllDepsRow : OpenClaim := { program := "ytmhmemiombcmnaa", sum := "251ad9fa7c02c75c51309ba69f6beabeb966aae1e235c25e79f013cc2c0666fc", func := "loop.example/g00641/laws.FnExactAllDeps", spec := "fnExactAllDeps", unfollowed := true, recurses := true, apart := false }
def FnExactAllDepsSaid : Prop := fnExactAllDepsRow.holds Try.pinned (OpenSpec.ofChange fnExactAllDepsSpec)

/-- ITS FALSE NEIGHBOUR: 'it returns false'. Refute it at one input. -/
def fnExactAllDepsWrong : ChangeSpec := { name := "fnExactAllDeps", fn := fun _ => fun
  | [d1, d2] => { results := [.lit (.bool false)], args := [d1, d2] }
  | _ => none }
def FnExactAllDepsWrongFalsely : Prop := fnExactAllDepsRow.holds Try.pinned (OpenSpec.ofChange fnExactAllDepsWrong)

/- THE SECOND FORM. 'bulk': how many values and letters a reading holds, each counted each time it is reached (what is shared counts as often as it is met; a slice's spare places count too). A statement '..UptoSaid' is the law's where the arguments, and the package variables that the reading takes, are together of bulk at most 1048576: NARROWER than '..Said'. Prove '..Said' where nothing that the law and all that it calls make is longer than what came in: it says more and counts as full. Else prove '..UptoSaid'. A law counts once. -/
mutual
def uptoBulk {H : Type} : DataW H → Nat
  | .lit (.string bytes) => bytes.length + 1
  | .lit _ => 1
  | .nil => 1
  | .ptr d => uptoBulk d + 1
  | .slice elems spare => uptoBulkAll elems + uptoBulkAll spare + 1
  | .agg parts => uptoBulkAll parts + 1
  | .iface _ d => uptoBulk d + 1
  | .map entries => uptoBulkEntries entries + 1
  | .held _ => 1
def uptoBulkAll {H : Type} : List (DataW H) → Nat
  | [] => 0
  | d :: r => uptoBulk d + uptoBulkAll r
def uptoBulkEntries {H : Type} : List (Lit × DataW H) → Nat
  | [] => 0
  | x :: r => uptoBulkEntry x + uptoBulkEntries r
def uptoBulkEntry {H : Type} : Lit × DataW H → Nat
  | (.string bytes, d) => bytes.length + uptoBulk d + 1
  | (_, d) => uptoBulk d + 1
 end
def uptoSmall : (H : Type) → List (DataW H) → Bool := fun _ ds => decide (uptoBulkAll ds ≤ 1048576)
def OpenSpec.upto (s : _root_.Go.ChangeSpec) : _root_.Go.OpenSpec := { _root_.Go.OpenSpec.ofChange s with cond := some uptoSmall }

/-- 'laws.FnExactReachOf', WHERE WHAT IT READS IS OF BULK AT MOST 1048576: true; the input reads as it did. -/
def fnExactReachOfUptoRow : OpenClaim := { program := "ytmhmemiombcmnaa", sum := "251ad9fa7c02c75c51309ba69f6beabeb966aae1e235c25e79f013cc2c0666fc", func := "loop.example/g00641/laws.FnExactReachOf", spec := "fnExactReachOf", unfollowed := true, recurses := true, apart := false, narrowed := true }
def FnExactReachOfUptoSaid : Prop := fnExactReachOfUptoRow.holds Try.pinned (OpenSpec.upto fnExactReachOfSpec)

/-- 'laws.FnExactIsRoundless', WHERE WHAT IT READS IS OF BULK AT MOST 1048576: true; the input reads as it did. -/
def fnExactIsRoundlessUptoRow : OpenClaim := { program := "ytmhmemiombcmnaa", sum := "251ad9fa7c02c75c51309ba69f6beabeb966aae1e235c25e79f013cc2c0666fc", func := "loop.example/g00641/laws.FnExactIsRoundless", spec := "fnExactIsRoundless", unfollowed := true, recurses := true, apart := false, narrowed := true }
def FnExactIsRoundlessUptoSaid : Prop := fnExactIsRoundlessUptoRow.holds Try.pinned (OpenSpec.upto fnExactIsRoundlessSpec)

/-- 'laws.FnExactGroupAt', WHERE WHAT IT READS IS OF BULK AT MOST 1048576: true; the input reads as it did. -/
def fnExactGroupAtUptoRow : OpenClaim := { program := "ytmhmemiombcmnaa", sum := "251ad9fa7c02c75c51309ba69f6beabeb966aae1e235c25e79f013cc2c0666fc", func := "loop.example/g00641/laws.FnExactGroupAt", spec := "fnExactGroupAt", unfollowed := true, recurses := true, apart := false, narrowed := true }
def FnExactGroupAtUptoSaid : Prop := fnExactGroupAtUptoRow.holds Try.pinned (OpenSpec.upto fnExactGroupAtSpec)

/-- 'laws.FnExactWaitsOn', WHERE WHAT IT READS IS OF BULK AT MOST 1048576: true; the input reads as it did. -/
def fnExactWaitsOnUptoRow : OpenClaim := { program := "ytmhmemiombcmnaa", sum := "251ad9fa7c02c75c51309ba69f6beabeb966aae1e235c25e79f013cc2c0666fc", func := "loop.example/g00641/laws.FnExactWaitsOn", spec := "fnExactWaitsOn", unfollowed := true, recurses := true, apart := false, narrowed := true }
def FnExactWaitsOnUptoSaid : Prop := fnExactWaitsOnUptoRow.holds Try.pinned (OpenSpec.upto fnExactWaitsOnSpec)

/-- 'laws.FnExactReadyOf', WHERE WHAT IT READS IS OF BULK AT MOST 1048576: true; the input reads as it did. -/
def fnExactReadyOfUptoRow : OpenClaim := { program := "ytmhmemiombcmnaa", sum := "251ad9fa7c02c75c51309ba69f6beabeb966aae1e235c25e79f013cc2c0666fc", func := "loop.example/g00641/laws.FnExactReadyOf", spec := "fnExactReadyOf", unfollowed := true, recurses := true, apart := false, narrowed := true }
def FnExactReadyOfUptoSaid : Prop := fnExactReadyOfUptoRow.holds Try.pinned (OpenSpec.upto fnExactReadyOfSpec)

/-- 'laws.FnExactOrderBy', WHERE WHAT IT READS IS OF BULK AT MOST 1048576: true; the input reads as it did. -/
def fnExactOrderByUptoRow : OpenClaim := { program := "ytmhmemiombcmnaa", sum := "251ad9fa7c02c75c51309ba69f6beabeb966aae1e235c25e79f013cc2c0666fc", func := "loop.example/g00641/laws.FnExactOrderBy", spec := "fnExactOrderBy", unfollowed := true, recurses := true, apart := false, narrowed := true }
def FnExactOrderByUptoSaid : Prop := fnExactOrderByUptoRow.holds Try.pinned (OpenSpec.upto fnExactOrderBySpec)

/-- 'laws.FnExactWholeOrder', WHERE WHAT IT READS IS OF BULK AT MOST 1048576: true; the input reads as it did. -/
def fnExactWholeOrderUptoRow : OpenClaim := { program := "ytmhmemiombcmnaa", sum := "251ad9fa7c02c75c51309ba69f6beabeb966aae1e235c25e79f013cc2c0666fc", func := "loop.example/g00641/laws.FnExactWholeOrder", spec := "fnExactWholeOrder", unfollowed := true, recurses := true, apart := false, narrowed := true }
def FnExactWholeOrderUptoSaid : Prop := fnExactWholeOrderUptoRow.holds Try.pinned (OpenSpec.upto fnExactWholeOrderSpec)

/-- 'laws.FnExactGroupsOf', WHERE WHAT IT READS IS OF BULK AT MOST 1048576: true; the input reads as it did. -/
def fnExactGroupsOfUptoRow : OpenClaim := { program := "ytmhmemiombcmnaa", sum := "251ad9fa7c02c75c51309ba69f6beabeb966aae1e235c25e79f013cc2c0666fc", func := "loop.example/g00641/laws.FnExactGroupsOf", spec := "fnExactGroupsOf", unfollowed := true, recurses := true, apart := false, narrowed := true }
def FnExactGroupsOfUptoSaid : Prop := fnExactGroupsOfUptoRow.holds Try.pinned (OpenSpec.upto fnExactGroupsOfSpec)

/-- 'laws.FnExactShrink', WHERE WHAT IT READS IS OF BULK AT MOST 1048576: true; the input reads as it did. -/
def fnExactShrinkUptoRow : OpenClaim := { program := "ytmhmemiombcmnaa", sum := "251ad9fa7c02c75c51309ba69f6beabeb966aae1e235c25e79f013cc2c0666fc", func := "loop.example/g00641/laws.FnExactShrink", spec := "fnExactShrink", unfollowed := true, recurses := true, apart := false, narrowed := true }
def FnExactShrinkUptoSaid : Prop := fnExactShrinkUptoRow.holds Try.pinned (OpenSpec.upto fnExactShrinkSpec)

/-- 'laws.FnExactNextDone', WHERE WHAT IT READS IS OF BULK AT MOST 1048576: true; the input reads as it did. -/
def fnExactNextDoneUptoRow : OpenClaim := { program := "ytmhmemiombcmnaa", sum := "251ad9fa7c02c75c51309ba69f6beabeb966aae1e235c25e79f013cc2c0666fc", func := "loop.example/g00641/laws.FnExactNextDone", spec := "fnExactNextDone", unfollowed := true, recurses := true, apart := false, narrowed := true }
def FnExactNextDoneUptoSaid : Prop := fnExactNextDoneUptoRow.holds Try.pinned (OpenSpec.upto fnExactNextDoneSpec)

/-- 'laws.FnExactDoneBy', WHERE WHAT IT READS IS OF BULK AT MOST 1048576: true; the input reads as it did. -/
def fnExactDoneByUptoRow : OpenClaim := { program := "ytmhmemiombcmnaa", sum := "251ad9fa7c02c75c51309ba69f6beabeb966aae1e235c25e79f013cc2c0666fc", func := "loop.example/g00641/laws.FnExactDoneBy", spec := "fnExactDoneBy", unfollowed := true, recurses := true, apart := false, narrowed := true }
def FnExactDoneByUptoSaid : Prop := fnExactDoneByUptoRow.holds Try.pinned (OpenSpec.upto fnExactDoneBySpec)

/-- 'laws.FnExactAgreeOn', WHERE WHAT IT READS IS OF BULK AT MOST 1048576: true; the input reads as it did. -/
def fnExactAgreeOnUptoRow : OpenClaim := { program := "ytmhmemiombcmnaa", sum := "251ad9fa7c02c75c51309ba69f6beabeb966aae1e235c25e79f013cc2c0666fc", func := "loop.example/g00641/laws.FnExactAgreeOn", spec := "fnExactAgreeOn", unfollowed := true, recurses := true, apart := false, narrowed := true }
def FnExactAgreeOnUptoSaid : Prop := fnExactAgreeOnUptoRow.holds Try.pinned (OpenSpec.upto fnExactAgreeOnSpec)

/-- 'laws.FnExactGoodSteps', WHERE WHAT IT READS IS OF BULK AT MOST 1048576: true; the input reads as it did. -/
def fnExactGoodStepsUptoRow : OpenClaim := { program := "ytmhmemiombcmnaa", sum := "251ad9fa7c02c75c51309ba69f6beabeb966aae1e235c25e79f013cc2c0666fc", func := "loop.example/g00641/laws.FnExactGoodSteps", spec := "fnExactGoodSteps", apart := false, narrowed := true }
def FnExactGoodStepsUptoSaid : Prop := fnExactGoodStepsUptoRow.holds Try.pinned (OpenSpec.upto fnExactGoodStepsSpec)

/-- 'laws.FnExactPiecesOf', WHERE WHAT IT READS IS OF BULK AT MOST 1048576: true; the input reads as it did. -/
def fnExactPiecesOfUptoRow : OpenClaim := { program := "ytmhmemiombcmnaa", sum := "251ad9fa7c02c75c51309ba69f6beabeb966aae1e235c25e79f013cc2c0666fc", func := "loop.example/g00641/laws.FnExactPiecesOf", spec := "fnExactPiecesOf", apart := false, narrowed := true }
def FnExactPiecesOfUptoSaid : Prop := fnExactPiecesOfUptoRow.holds Try.pinned (OpenSpec.upto fnExactPiecesOfSpec)

/-- 'laws.FnExactRunSteps', WHERE WHAT IT READS IS OF BULK AT MOST 1048576: true; the input reads as it did. -/
def fnExactRunStepsUptoRow : OpenClaim := { program := "ytmhmemiombcmnaa", sum := "251ad9fa7c02c75c51309ba69f6beabeb966aae1e235c25e79f013cc2c0666fc", func := "loop.example/g00641/laws.FnExactRunSteps", spec := "fnExactRunSteps", unfollowed := true, recurses := true, apart := false, narrowed := true }
def FnExactRunStepsUptoSaid : Prop := fnExactRunStepsUptoRow.holds Try.pinned (OpenSpec.upto fnExactRunStepsSpec)

/-- 'laws.FnExactKeysUsed', WHERE WHAT IT READS IS OF BULK AT MOST 1048576: true; the input reads as it did. -/
def fnExactKeysUsedUptoRow : OpenClaim := { program := "ytmhmemiombcmnaa", sum := "251ad9fa7c02c75c51309ba69f6beabeb966aae1e235c25e79f013cc2c0666fc", func := "loop.example/g00641/laws.FnExactKeysUsed", spec := "fnExactKeysUsed", recurses := true, apart := false, narrowed := true }
def FnExactKeysUsedUptoSaid : Prop := fnExactKeysUsedUptoRow.holds Try.pinned (OpenSpec.upto fnExactKeysUsedSpec)

/-- 'laws.FnExactNeedsOf', WHERE WHAT IT READS IS OF BULK AT MOST 1048576: true; the input reads as it did. -/
def fnExactNeedsOfUptoRow : OpenClaim := { program := "ytmhmemiombcmnaa", sum := "251ad9fa7c02c75c51309ba69f6beabeb966aae1e235c25e79f013cc2c0666fc", func := "loop.example/g00641/laws.FnExactNeedsOf", spec := "fnExactNeedsOf", recurses := true, apart := false, narrowed := true }
def FnExactNeedsOfUptoSaid : Prop := fnExactNeedsOfUptoRow.holds Try.pinned (OpenSpec.upto fnExactNeedsOfSpec)

/-- 'laws.FnExactCanSplit', WHERE WHAT IT READS IS OF BULK AT MOST 1048576: true; the input reads as it did. -/
def fnExactCanSplitUptoRow : OpenClaim := { program := "ytmhmemiombcmnaa", sum := "251ad9fa7c02c75c51309ba69f6beabeb966aae1e235c25e79f013cc2c0666fc", func := "loop.example/g00641/laws.FnExactCanSplit", spec := "fnExactCanSplit", unfollowed := true, recurses := true, apart := false, narrowed := true }
def FnExactCanSplitUptoSaid : Prop := fnExactCanSplitUptoRow.holds Try.pinned (OpenSpec.upto fnExactCanSplitSpec)

/-- 'laws.FnExactRunPieces', WHERE WHAT IT READS IS OF BULK AT MOST 1048576: true; the input reads as it did. -/
def fnExactRunPiecesUptoRow : OpenClaim := { program := "ytmhmemiombcmnaa", sum := "251ad9fa7c02c75c51309ba69f6beabeb966aae1e235c25e79f013cc2c0666fc", func := "loop.example/g00641/laws.FnExactRunPieces", spec := "fnExactRunPieces", unfollowed := true, recurses := true, apart := false, narrowed := true }
def FnExactRunPiecesUptoSaid : Prop := fnExactRunPiecesUptoRow.holds Try.pinned (OpenSpec.upto fnExactRunPiecesSpec)

/-- 'laws.FnExactGoodHeard', WHERE WHAT IT READS IS OF BULK AT MOST 1048576: true; the input reads as it did. -/
def fnExactGoodHeardUptoRow : OpenClaim := { program := "ytmhmemiombcmnaa", sum := "251ad9fa7c02c75c51309ba69f6beabeb966aae1e235c25e79f013cc2c0666fc", func := "loop.example/g00641/laws.FnExactGoodHeard", spec := "fnExactGoodHeard", unfollowed := true, recurses := true, apart := false, narrowed := true }
def FnExactGoodHeardUptoSaid : Prop := fnExactGoodHeardUptoRow.holds Try.pinned (OpenSpec.upto fnExactGoodHeardSpec)

/-- 'laws.FnExactMissedBy', WHERE WHAT IT READS IS OF BULK AT MOST 1048576: true; the input reads as it did. -/
def fnExactMissedByUptoRow : OpenClaim := { program := "ytmhmemiombcmnaa", sum := "251ad9fa7c02c75c51309ba69f6beabeb966aae1e235c25e79f013cc2c0666fc", func := "loop.example/g00641/laws.FnExactMissedBy", spec := "fnExactMissedBy", unfollowed := true, recurses := true, apart := false, narrowed := true }
def FnExactMissedByUptoSaid : Prop := fnExactMissedByUptoRow.holds Try.pinned (OpenSpec.upto fnExactMissedBySpec)

/-- 'laws.FnExactAllDeps', WHERE WHAT IT READS IS OF BULK AT MOST 1048576: true; the input reads as it did. -/
def fnExactAllDepsUptoRow : OpenClaim := { program := "ytmhmemiombcmnaa", sum := "251ad9fa7c02c75c51309ba69f6beabeb966aae1e235c25e79f013cc2c0666fc", func := "loop.example/g00641/laws.FnExactAllDeps", spec := "fnExactAllDeps", unfollowed := true, recurses := true, apart := false, narrowed := true }
def FnExactAllDepsUptoSaid : Prop := fnExactAllDepsUptoRow.holds Try.pinned (OpenSpec.upto fnExactAllDepsSpec)

end Rows
end Go.Proofs.Ytmhmemiombcmnaa
