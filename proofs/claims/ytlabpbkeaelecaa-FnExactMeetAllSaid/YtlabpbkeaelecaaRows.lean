/-
  No cell of these rows narrows 'for every input' (looked for: loops, veiled, ifaces, maps, wideKeys, modest, calm, conditions, laid).
  DERIVED. THE GIVEN ROWS OF THIS SEAT. 16 by the template 'for every input the law returns true; each argument reads behind the call as it read before'; 0 by the template 'total and deterministic' (their statements: YtlabpbkeaelecaaTotals.lean).
  GIVEN WITH THE SEED: the statements are not yours to turn. If you find one false, say at which input.
  Laid BY PROGRAM, IN A SANDBOX (cutbox-rows.mjs): the forced cells as the released guide's own fill.sh prints them over the translation c828a0666a5ddb80… (all of the seat's roots in one cut). By AI agents, Wed Nov 11 2026. No macro, syntax, notation, axiom, sorry.
-/
import Derived.Test.YtlabpbkeaelecaaChecked
import GoSem.Claim
import GoSem.ClaimJoined
import GoSem.ClaimMapViews
import Derived.JoinedTies
import Derived.KernelRfl
namespace Go.Proofs.Ytlabpbkeaelecaa
/- THE CELL 'sum', in the pinned program and in every row, IS THE sha256 OF THE DUMP (.gsa) THAT YtlabpbkeaelecaaProg.lean LOADS. Nothing in Lean hashes anything: it is a label: what it is worth is what the hold of that sum in a sandbox is worth. -/
noncomputable def Try.pinned : Pinned := { name := "ytlabpbkeaelecaa", sum := "c828a0666a5ddb80e9efd59364659a62404dfca41af7ce2c6326cc09f23b7b99", checked := Try.checked }
namespace Rows
def none {H : Type} : Left H := { results := [], args := [] }

/-- 'laws.FnExactNewPlaces': WHATEVER THE INPUT: true; the input reads as it did. -/
def fnExactNewPlacesSpec : ChangeSpec := { name := "fnExactNewPlaces", fn := fun _ => fun
  | [d] => { results := [.lit (.bool true)], args := [d] }
  | _ => none }
def fnExactNewPlacesRow : OpenClaim := { program := "ytlabpbkeaelecaa", sum := "c828a0666a5ddb80e9efd59364659a62404dfca41af7ce2c6326cc09f23b7b99", func := "loop.example/g00641/laws.FnExactNewPlaces", spec := "fnExactNewPlaces", apart := false }
def FnExactNewPlacesSaid : Prop := fnExactNewPlacesRow.holds Try.pinned (OpenSpec.ofChange fnExactNewPlacesSpec)

/-- ITS FALSE NEIGHBOUR: 'it returns false'. Refute it at one input. -/
def fnExactNewPlacesWrong : ChangeSpec := { name := "fnExactNewPlaces", fn := fun _ => fun
  | [d] => { results := [.lit (.bool false)], args := [d] }
  | _ => none }
def FnExactNewPlacesWrongFalsely : Prop := fnExactNewPlacesRow.holds Try.pinned (OpenSpec.ofChange fnExactNewPlacesWrong)

/-- 'laws.FnExactNewCommit': WHATEVER THE INPUT: true; the input reads as it did. -/
def fnExactNewCommitSpec : ChangeSpec := { name := "fnExactNewCommit", fn := fun _ => fun
  | [d] => { results := [.lit (.bool true)], args := [d] }
  | _ => none }
def fnExactNewCommitRow : OpenClaim := { program := "ytlabpbkeaelecaa", sum := "c828a0666a5ddb80e9efd59364659a62404dfca41af7ce2c6326cc09f23b7b99", func := "loop.example/g00641/laws.FnExactNewCommit", spec := "fnExactNewCommit", apart := false }
def FnExactNewCommitSaid : Prop := fnExactNewCommitRow.holds Try.pinned (OpenSpec.ofChange fnExactNewCommitSpec)

/-- ITS FALSE NEIGHBOUR: 'it returns false'. Refute it at one input. -/
def fnExactNewCommitWrong : ChangeSpec := { name := "fnExactNewCommit", fn := fun _ => fun
  | [d] => { results := [.lit (.bool false)], args := [d] }
  | _ => none }
def FnExactNewCommitWrongFalsely : Prop := fnExactNewCommitRow.holds Try.pinned (OpenSpec.ofChange fnExactNewCommitWrong)

/-- 'laws.FnExactGoodPlaces': WHATEVER THE INPUT: true; the input reads as it did. -/
def fnExactGoodPlacesSpec : ChangeSpec := { name := "fnExactGoodPlaces", fn := fun _ => fun
  | [d] => { results := [.lit (.bool true)], args := [d] }
  | _ => none }
def fnExactGoodPlacesRow : OpenClaim := { program := "ytlabpbkeaelecaa", sum := "c828a0666a5ddb80e9efd59364659a62404dfca41af7ce2c6326cc09f23b7b99", func := "loop.example/g00641/laws.FnExactGoodPlaces", spec := "fnExactGoodPlaces", unfollowed := true, recurses := true, apart := false }
def FnExactGoodPlacesSaid : Prop := fnExactGoodPlacesRow.holds Try.pinned (OpenSpec.ofChange fnExactGoodPlacesSpec)

/-- ITS FALSE NEIGHBOUR: 'it returns false'. Refute it at one input. -/
def fnExactGoodPlacesWrong : ChangeSpec := { name := "fnExactGoodPlaces", fn := fun _ => fun
  | [d] => { results := [.lit (.bool false)], args := [d] }
  | _ => none }
def FnExactGoodPlacesWrongFalsely : Prop := fnExactGoodPlacesRow.holds Try.pinned (OpenSpec.ofChange fnExactGoodPlacesWrong)

/-- 'laws.FnExactGoodCommit': WHATEVER THE INPUT: true; the input reads as it did. -/
def fnExactGoodCommitSpec : ChangeSpec := { name := "fnExactGoodCommit", fn := fun _ => fun
  | [d] => { results := [.lit (.bool true)], args := [d] }
  | _ => none }
def fnExactGoodCommitRow : OpenClaim := { program := "ytlabpbkeaelecaa", sum := "c828a0666a5ddb80e9efd59364659a62404dfca41af7ce2c6326cc09f23b7b99", func := "loop.example/g00641/laws.FnExactGoodCommit", spec := "fnExactGoodCommit", apart := false }
def FnExactGoodCommitSaid : Prop := fnExactGoodCommitRow.holds Try.pinned (OpenSpec.ofChange fnExactGoodCommitSpec)

/-- ITS FALSE NEIGHBOUR: 'it returns false'. Refute it at one input. -/
def fnExactGoodCommitWrong : ChangeSpec := { name := "fnExactGoodCommit", fn := fun _ => fun
  | [d] => { results := [.lit (.bool false)], args := [d] }
  | _ => none }
def FnExactGoodCommitWrongFalsely : Prop := fnExactGoodCommitRow.holds Try.pinned (OpenSpec.ofChange fnExactGoodCommitWrong)

/-- 'laws.FnExactChosenIn': WHATEVER THE INPUT: true; the input reads as it did. -/
def fnExactChosenInSpec : ChangeSpec := { name := "fnExactChosenIn", fn := fun _ => fun
  | [d] => { results := [.lit (.bool true)], args := [d] }
  | _ => none }
def fnExactChosenInRow : OpenClaim := { program := "ytlabpbkeaelecaa", sum := "c828a0666a5ddb80e9efd59364659a62404dfca41af7ce2c6326cc09f23b7b99", func := "loop.example/g00641/laws.FnExactChosenIn", spec := "fnExactChosenIn", unfollowed := true, recurses := true, apart := false }
def FnExactChosenInSaid : Prop := fnExactChosenInRow.holds Try.pinned (OpenSpec.ofChange fnExactChosenInSpec)

/-- ITS FALSE NEIGHBOUR: 'it returns false'. Refute it at one input. -/
def fnExactChosenInWrong : ChangeSpec := { name := "fnExactChosenIn", fn := fun _ => fun
  | [d] => { results := [.lit (.bool false)], args := [d] }
  | _ => none }
def FnExactChosenInWrongFalsely : Prop := fnExactChosenInRow.holds Try.pinned (OpenSpec.ofChange fnExactChosenInWrong)

/-- 'laws.FnExactIsStuck': WHATEVER THE INPUT: true; the input reads as it did. -/
def fnExactIsStuckSpec : ChangeSpec := { name := "fnExactIsStuck", fn := fun _ => fun
  | [d1, d2] => { results := [.lit (.bool true)], args := [d1, d2] }
  | _ => none }
def fnExactIsStuckRow : OpenClaim := { program := "ytlabpbkeaelecaa", sum := "c828a0666a5ddb80e9efd59364659a62404dfca41af7ce2c6326cc09f23b7b99", func := "loop.example/g00641/laws.FnExactIsStuck", spec := "fnExactIsStuck", unfollowed := true, recurses := true, apart := false }
def FnExactIsStuckSaid : Prop := fnExactIsStuckRow.holds Try.pinned (OpenSpec.ofChange fnExactIsStuckSpec)

/-- ITS FALSE NEIGHBOUR: 'it returns false'. Refute it at one input. -/
def fnExactIsStuckWrong : ChangeSpec := { name := "fnExactIsStuck", fn := fun _ => fun
  | [d1, d2] => { results := [.lit (.bool false)], args := [d1, d2] }
  | _ => none }
def FnExactIsStuckWrongFalsely : Prop := fnExactIsStuckRow.holds Try.pinned (OpenSpec.ofChange fnExactIsStuckWrong)

/-- 'laws.FnExactSaysAll': WHATEVER THE INPUT: true; the input reads as it did. -/
def fnExactSaysAllSpec : ChangeSpec := { name := "fnExactSaysAll", fn := fun _ => fun
  | [d] => { results := [.lit (.bool true)], args := [d] }
  | _ => none }
def fnExactSaysAllRow : OpenClaim := { program := "ytlabpbkeaelecaa", sum := "c828a0666a5ddb80e9efd59364659a62404dfca41af7ce2c6326cc09f23b7b99", func := "loop.example/g00641/laws.FnExactSaysAll", spec := "fnExactSaysAll", unfollowed := true, recurses := true, apart := false }
def FnExactSaysAllSaid : Prop := fnExactSaysAllRow.holds Try.pinned (OpenSpec.ofChange fnExactSaysAllSpec)

/-- ITS FALSE NEIGHBOUR: 'it returns false'. Refute it at one input. -/
def fnExactSaysAllWrong : ChangeSpec := { name := "fnExactSaysAll", fn := fun _ => fun
  | [d] => { results := [.lit (.bool false)], args := [d] }
  | _ => none }
def FnExactSaysAllWrongFalsely : Prop := fnExactSaysAllRow.holds Try.pinned (OpenSpec.ofChange fnExactSaysAllWrong)

/-- 'laws.FnExactMeetAll': WHATEVER THE INPUT: true; the input reads as it did. -/
def fnExactMeetAllSpec : ChangeSpec := { name := "fnExactMeetAll", fn := fun _ => fun
  | [d1, d2] => { results := [.lit (.bool true)], args := [d1, d2] }
  | _ => none }
def fnExactMeetAllRow : OpenClaim := { program := "ytlabpbkeaelecaa", sum := "c828a0666a5ddb80e9efd59364659a62404dfca41af7ce2c6326cc09f23b7b99", func := "loop.example/g00641/laws.FnExactMeetAll", spec := "fnExactMeetAll", unfollowed := true, recurses := true, apart := false }
def FnExactMeetAllSaid : Prop := fnExactMeetAllRow.holds Try.pinned (OpenSpec.ofChange fnExactMeetAllSpec)

/-- ITS FALSE NEIGHBOUR: 'it returns false'. Refute it at one input. -/
def fnExactMeetAllWrong : ChangeSpec := { name := "fnExactMeetAll", fn := fun _ => fun
  | [d1, d2] => { results := [.lit (.bool false)], args := [d1, d2] }
  | _ => none }
def FnExactMeetAllWrongFalsely : Prop := fnExactMeetAllRow.holds Try.pinned (OpenSpec.ofChange fnExactMeetAllWrong)

/-- 'laws.FnExactTakeWord': WHATEVER THE INPUT: true; the input reads as it did. -/
def fnExactTakeWordSpec : ChangeSpec := { name := "fnExactTakeWord", fn := fun _ => fun
  | [d1, d2, d3, d4] => { results := [.lit (.bool true)], args := [d1, d2, d3, d4] }
  | _ => none }
def fnExactTakeWordRow : OpenClaim := { program := "ytlabpbkeaelecaa", sum := "c828a0666a5ddb80e9efd59364659a62404dfca41af7ce2c6326cc09f23b7b99", func := "loop.example/g00641/laws.FnExactTakeWord", spec := "fnExactTakeWord", unfollowed := true, recurses := true, apart := false }
def FnExactTakeWordSaid : Prop := fnExactTakeWordRow.holds Try.pinned (OpenSpec.ofChange fnExactTakeWordSpec)

/-- ITS FALSE NEIGHBOUR: 'it returns false'. Refute it at one input. -/
def fnExactTakeWordWrong : ChangeSpec := { name := "fnExactTakeWord", fn := fun _ => fun
  | [d1, d2, d3, d4] => { results := [.lit (.bool false)], args := [d1, d2, d3, d4] }
  | _ => none }
def FnExactTakeWordWrongFalsely : Prop := fnExactTakeWordRow.holds Try.pinned (OpenSpec.ofChange fnExactTakeWordWrong)

/-- 'laws.FnExactAskPlaces': WHATEVER THE INPUT: true; the input reads as it did. -/
def fnExactAskPlacesSpec : ChangeSpec := { name := "fnExactAskPlaces", fn := fun _ => fun
  | [d1, d2, d3] => { results := [.lit (.bool true)], args := [d1, d2, d3] }
  | _ => none }
def fnExactAskPlacesRow : OpenClaim := { program := "ytlabpbkeaelecaa", sum := "c828a0666a5ddb80e9efd59364659a62404dfca41af7ce2c6326cc09f23b7b99", func := "loop.example/g00641/laws.FnExactAskPlaces", spec := "fnExactAskPlaces", unfollowed := true, recurses := true, apart := false }
def FnExactAskPlacesSaid : Prop := fnExactAskPlacesRow.holds Try.pinned (OpenSpec.ofChange fnExactAskPlacesSpec)

/-- ITS FALSE NEIGHBOUR: 'it returns false'. Refute it at one input. -/
def fnExactAskPlacesWrong : ChangeSpec := { name := "fnExactAskPlaces", fn := fun _ => fun
  | [d1, d2, d3] => { results := [.lit (.bool false)], args := [d1, d2, d3] }
  | _ => none }
def FnExactAskPlacesWrongFalsely : Prop := fnExactAskPlacesRow.holds Try.pinned (OpenSpec.ofChange fnExactAskPlacesWrong)

/-- 'laws.FnExactFinishCommit': WHATEVER THE INPUT: true; the input reads as it did. -/
def fnExactFinishCommitSpec : ChangeSpec := { name := "fnExactFinishCommit", fn := fun _ => fun
  | [d] => { results := [.lit (.bool true)], args := [d] }
  | _ => none }
def fnExactFinishCommitRow : OpenClaim := { program := "ytlabpbkeaelecaa", sum := "c828a0666a5ddb80e9efd59364659a62404dfca41af7ce2c6326cc09f23b7b99", func := "loop.example/g00641/laws.FnExactFinishCommit", spec := "fnExactFinishCommit", unfollowed := true, recurses := true, apart := false }
def FnExactFinishCommitSaid : Prop := fnExactFinishCommitRow.holds Try.pinned (OpenSpec.ofChange fnExactFinishCommitSpec)

/-- ITS FALSE NEIGHBOUR: 'it returns false'. Refute it at one input. -/
def fnExactFinishCommitWrong : ChangeSpec := { name := "fnExactFinishCommit", fn := fun _ => fun
  | [d] => { results := [.lit (.bool false)], args := [d] }
  | _ => none }
def FnExactFinishCommitWrongFalsely : Prop := fnExactFinishCommitRow.holds Try.pinned (OpenSpec.ofChange fnExactFinishCommitWrong)

/-- 'laws.FnExactPlayCommit': WHATEVER THE INPUT: true; the input reads as it did. -/
def fnExactPlayCommitSpec : ChangeSpec := { name := "fnExactPlayCommit", fn := fun _ => fun
  | [d1, d2] => { results := [.lit (.bool true)], args := [d1, d2] }
  | _ => none }
def fnExactPlayCommitRow : OpenClaim := { program := "ytlabpbkeaelecaa", sum := "c828a0666a5ddb80e9efd59364659a62404dfca41af7ce2c6326cc09f23b7b99", func := "loop.example/g00641/laws.FnExactPlayCommit", spec := "fnExactPlayCommit", unfollowed := true, recurses := true, apart := false }
def FnExactPlayCommitSaid : Prop := fnExactPlayCommitRow.holds Try.pinned (OpenSpec.ofChange fnExactPlayCommitSpec)

/-- ITS FALSE NEIGHBOUR: 'it returns false'. Refute it at one input. -/
def fnExactPlayCommitWrong : ChangeSpec := { name := "fnExactPlayCommit", fn := fun _ => fun
  | [d1, d2] => { results := [.lit (.bool false)], args := [d1, d2] }
  | _ => none }
def FnExactPlayCommitWrongFalsely : Prop := fnExactPlayCommitRow.holds Try.pinned (OpenSpec.ofChange fnExactPlayCommitWrong)

/-- 'laws.FnExactRunBallot': WHATEVER THE INPUT: true; the input reads as it did. -/
def fnExactRunBallotSpec : ChangeSpec := { name := "fnExactRunBallot", fn := fun _ => fun
  | [d1, d2] => { results := [.lit (.bool true)], args := [d1, d2] }
  | _ => none }
def fnExactRunBallotRow : OpenClaim := { program := "ytlabpbkeaelecaa", sum := "c828a0666a5ddb80e9efd59364659a62404dfca41af7ce2c6326cc09f23b7b99", func := "loop.example/g00641/laws.FnExactRunBallot", spec := "fnExactRunBallot", unfollowed := true, recurses := true, apart := false }
def FnExactRunBallotSaid : Prop := fnExactRunBallotRow.holds Try.pinned (OpenSpec.ofChange fnExactRunBallotSpec)

/-- ITS FALSE NEIGHBOUR: 'it returns false'. Refute it at one input. -/
def fnExactRunBallotWrong : ChangeSpec := { name := "fnExactRunBallot", fn := fun _ => fun
  | [d1, d2] => { results := [.lit (.bool false)], args := [d1, d2] }
  | _ => none }
def FnExactRunBallotWrongFalsely : Prop := fnExactRunBallotRow.holds Try.pinned (OpenSpec.ofChange fnExactRunBallotWrong)

/-- 'laws.FnExactRunBallots': WHATEVER THE INPUT: true; the input reads as it did. -/
def fnExactRunBallotsSpec : ChangeSpec := { name := "fnExactRunBallots", fn := fun _ => fun
  | [d1, d2] => { results := [.lit (.bool true)], args := [d1, d2] }
  | _ => none }
def fnExactRunBallotsRow : OpenClaim := { program := "ytlabpbkeaelecaa", sum := "c828a0666a5ddb80e9efd59364659a62404dfca41af7ce2c6326cc09f23b7b99", func := "loop.example/g00641/laws.FnExactRunBallots", spec := "fnExactRunBallots", apart := false }
def FnExactRunBallotsSaid : Prop := fnExactRunBallotsRow.holds Try.pinned (OpenSpec.ofChange fnExactRunBallotsSpec)

/-- ITS FALSE NEIGHBOUR: 'it returns false'. Refute it at one input. -/
def fnExactRunBallotsWrong : ChangeSpec := { name := "fnExactRunBallots", fn := fun _ => fun
  | [d1, d2] => { results := [.lit (.bool false)], args := [d1, d2] }
  | _ => none }
def FnExactRunBallotsWrongFalsely : Prop := fnExactRunBallotsRow.holds Try.pinned (OpenSpec.ofChange fnExactRunBallotsWrong)

/-- 'laws.FnExactGroupBy': WHATEVER THE INPUT: true; the input reads as it did. -/
def fnExactGroupBySpec : ChangeSpec := { name := "fnExactGroupBy", fn := fun _ => fun
  | [d1, d2, d3] => { results := [.lit (.bool true)], args := [d1, d2, d3] }
  | _ => none }
def fnExactGroupByRow : OpenClaim := { program := "ytlabpbkeaelecaa", sum := "c828a0666a5ddb80e9efd59364659a62404dfca41af7ce2c6326cc09f23b7b99", func := "loop.example/g00641/laws.FnExactGroupBy", spec := "fnExactGroupBy", recurses := true, apart := false }
def FnExactGroupBySaid : Prop := fnExactGroupByRow.holds Try.pinned (OpenSpec.ofChange fnExactGroupBySpec)

/-- ITS FALSE NEIGHBOUR: 'it returns false'. Refute it at one input. -/
def fnExactGroupByWrong : ChangeSpec := { name := "fnExactGroupBy", fn := fun _ => fun
  | [d1, d2, d3] => { results := [.lit (.bool false)], args := [d1, d2, d3] }
  | _ => none }
def FnExactGroupByWrongFalsely : Prop := fnExactGroupByRow.holds Try.pinned (OpenSpec.ofChange fnExactGroupByWrong)

/-- 'laws.FnSizes': WHATEVER THE INPUT: true; the input reads as it did. -/
def fnSizesSpec : ChangeSpec := { name := "fnSizes", fn := fun _ => fun
  | [d1, d2] => { results := [.lit (.bool true)], args := [d1, d2] }
  | _ => none }
def fnSizesRow : OpenClaim := { program := "ytlabpbkeaelecaa", sum := "c828a0666a5ddb80e9efd59364659a62404dfca41af7ce2c6326cc09f23b7b99", func := "loop.example/g00641/laws.FnSizes", spec := "fnSizes", recurses := true, apart := false }
def FnSizesSaid : Prop := fnSizesRow.holds Try.pinned (OpenSpec.ofChange fnSizesSpec)

/-- ITS FALSE NEIGHBOUR: 'it returns false'. Refute it at one input. -/
def fnSizesWrong : ChangeSpec := { name := "fnSizes", fn := fun _ => fun
  | [d1, d2] => { results := [.lit (.bool false)], args := [d1, d2] }
  | _ => none }
def FnSizesWrongFalsely : Prop := fnSizesRow.holds Try.pinned (OpenSpec.ofChange fnSizesWrong)

/- THE SECOND FORM. 'bulk': how many values and letters a reading holds, each counted each time it is reached (what is shared counts as often as it is met; a slice's spare places count too). A statement '..UptoSaid' is the law's where the arguments, and the package variables that the reading takes, are together of bulk at most 1048576: NARROWER than '..Said'. Prove '..Said' where nothing that the law and all that it calls make is longer than what came in: it says more and counts as full. Else prove '..UptoSaid'. A law counts once. -/
mutual
def uptoBulk {H : Type} : DataW H → Nat
  | .lit (.string bytes) => bytes.length + 1
  | .lit _ => 1
  | .nil => 1
  | .ptr d => uptoBulk d + 1
  | .slice elems spare => uptoBulkAll elems + uptoBulkAll spare + 1
  | .agg parts => uptoBulkAll parts + 1
  | .iface _ d => uptoBulk d + 1
  | .map entries => uptoBulkEntries entries + 1
  | .held _ => 1
def uptoBulkAll {H : Type} : List (DataW H) → Nat
  | [] => 0
  | d :: r => uptoBulk d + uptoBulkAll r
def uptoBulkEntries {H : Type} : List (Lit × DataW H) → Nat
  | [] => 0
  | x :: r => uptoBulkEntry x + uptoBulkEntries r
def uptoBulkEntry {H : Type} : Lit × DataW H → Nat
  | (.string bytes, d) => bytes.length + uptoBulk d + 1
  | (_, d) => uptoBulk d + 1
 end
def uptoSmall : (H : Type) → List (DataW H) → Bool := fun _ ds => decide (uptoBulkAll ds ≤ 1048576)
def OpenSpec.upto (s : _root_.Go.ChangeSpec) : _root_.Go.OpenSpec := { _root_.Go.OpenSpec.ofChange s with cond := some uptoSmall }

/-- 'laws.FnExactNewPlaces', WHERE WHAT IT READS IS OF BULK AT MOST 1048576: true; the input reads as it did. -/
def fnExactNewPlacesUptoRow : OpenClaim := { program := "ytlabpbkeaelecaa", sum := "c828a0666a5ddb80e9efd59364659a62404dfca41af7ce2c6326cc09f23b7b99", func := "loop.example/g00641/laws.FnExactNewPlaces", spec := "fnExactNewPlaces", apart := false, narrowed := true }
def FnExactNewPlacesUptoSaid : Prop := fnExactNewPlacesUptoRow.holds Try.pinned (OpenSpec.upto fnExactNewPlacesSpec)

/-- 'laws.FnExactNewCommit', WHERE WHAT IT READS IS OF BULK AT MOST 1048576: true; the input reads as it did. -/
def fnExactNewCommitUptoRow : OpenClaim := { program := "ytlabpbkeaelecaa", sum := "c828a0666a5ddb80e9efd59364659a62404dfca41af7ce2c6326cc09f23b7b99", func := "loop.example/g00641/laws.FnExactNewCommit", spec := "fnExactNewCommit", apart := false, narrowed := true }
def FnExactNewCommitUptoSaid : Prop := fnExactNewCommitUptoRow.holds Try.pinned (OpenSpec.upto fnExactNewCommitSpec)

/-- 'laws.FnExactGoodPlaces', WHERE WHAT IT READS IS OF BULK AT MOST 1048576: true; the input reads as it did. -/
def fnExactGoodPlacesUptoRow : OpenClaim := { program := "ytlabpbkeaelecaa", sum := "c828a0666a5ddb80e9efd59364659a62404dfca41af7ce2c6326cc09f23b7b99", func := "loop.example/g00641/laws.FnExactGoodPlaces", spec := "fnExactGoodPlaces", unfollowed := true, recurses := true, apart := false, narrowed := true }
def FnExactGoodPlacesUptoSaid : Prop := fnExactGoodPlacesUptoRow.holds Try.pinned (OpenSpec.upto fnExactGoodPlacesSpec)

/-- 'laws.FnExactGoodCommit', WHERE WHAT IT READS IS OF BULK AT MOST 1048576: true; the input reads as it did. -/
def fnExactGoodCommitUptoRow : OpenClaim := { program := "ytlabpbkeaelecaa", sum := "c828a0666a5ddb80e9efd59364659a62404dfca41af7ce2c6326cc09f23b7b99", func := "loop.example/g00641/laws.FnExactGoodCommit", spec := "fnExactGoodCommit", apart := false, narrowed := true }
def FnExactGoodCommitUptoSaid : Prop := fnExactGoodCommitUptoRow.holds Try.pinned (OpenSpec.upto fnExactGoodCommitSpec)

/-- 'laws.FnExactChosenIn', WHERE WHAT IT READS IS OF BULK AT MOST 1048576: true; the input reads as it did. -/
def fnExactChosenInUptoRow : OpenClaim := { program := "ytlabpbkeaelecaa", sum := "c828a0666a5ddb80e9efd59364659a62404dfca41af7ce2c6326cc09f23b7b99", func := "loop.example/g00641/laws.FnExactChosenIn", spec := "fnExactChosenIn", unfollowed := true, recurses := true, apart := false, narrowed := true }
def FnExactChosenInUptoSaid : Prop := fnExactChosenInUptoRow.holds Try.pinned (OpenSpec.upto fnExactChosenInSpec)

/-- 'laws.FnExactIsStuck', WHERE WHAT IT READS IS OF BULK AT MOST 1048576: true; the input reads as it did. -/
def fnExactIsStuckUptoRow : OpenClaim := { program := "ytlabpbkeaelecaa", sum := "c828a0666a5ddb80e9efd59364659a62404dfca41af7ce2c6326cc09f23b7b99", func := "loop.example/g00641/laws.FnExactIsStuck", spec := "fnExactIsStuck", unfollowed := true, recurses := true, apart := false, narrowed := true }
def FnExactIsStuckUptoSaid : Prop := fnExactIsStuckUptoRow.holds Try.pinned (OpenSpec.upto fnExactIsStuckSpec)

/-- 'laws.FnExactSaysAll', WHERE WHAT IT READS IS OF BULK AT MOST 1048576: true; the input reads as it did. -/
def fnExactSaysAllUptoRow : OpenClaim := { program := "ytlabpbkeaelecaa", sum := "c828a0666a5ddb80e9efd59364659a62404dfca41af7ce2c6326cc09f23b7b99", func := "loop.example/g00641/laws.FnExactSaysAll", spec := "fnExactSaysAll", unfollowed := true, recurses := true, apart := false, narrowed := true }
def FnExactSaysAllUptoSaid : Prop := fnExactSaysAllUptoRow.holds Try.pinned (OpenSpec.upto fnExactSaysAllSpec)

/-- 'laws.FnExactMeetAll', WHERE WHAT IT READS IS OF BULK AT MOST 1048576: true; the input reads as it did. -/
def fnExactMeetAllUptoRow : OpenClaim := { program := "ytlabpbkeaelecaa", sum := "c828a0666a5ddb80e9efd59364659a62404dfca41af7ce2c6326cc09f23b7b99", func := "loop.example/g00641/laws.FnExactMeetAll", spec := "fnExactMeetAll", unfollowed := true, recurses := true, apart := false, narrowed := true }
def FnExactMeetAllUptoSaid : Prop := fnExactMeetAllUptoRow.holds Try.pinned (OpenSpec.upto fnExactMeetAllSpec)

/-- 'laws.FnExactTakeWord', WHERE WHAT IT READS IS OF BULK AT MOST 1048576: true; the input reads as it did. -/
def fnExactTakeWordUptoRow : OpenClaim := { program := "ytlabpbkeaelecaa", sum := "c828a0666a5ddb80e9efd59364659a62404dfca41af7ce2c6326cc09f23b7b99", func := "loop.example/g00641/laws.FnExactTakeWord", spec := "fnExactTakeWord", unfollowed := true, recurses := true, apart := false, narrowed := true }
def FnExactTakeWordUptoSaid : Prop := fnExactTakeWordUptoRow.holds Try.pinned (OpenSpec.upto fnExactTakeWordSpec)

/-- 'laws.FnExactAskPlaces', WHERE WHAT IT READS IS OF BULK AT MOST 1048576: true; the input reads as it did. -/
def fnExactAskPlacesUptoRow : OpenClaim := { program := "ytlabpbkeaelecaa", sum := "c828a0666a5ddb80e9efd59364659a62404dfca41af7ce2c6326cc09f23b7b99", func := "loop.example/g00641/laws.FnExactAskPlaces", spec := "fnExactAskPlaces", unfollowed := true, recurses := true, apart := false, narrowed := true }
def FnExactAskPlacesUptoSaid : Prop := fnExactAskPlacesUptoRow.holds Try.pinned (OpenSpec.upto fnExactAskPlacesSpec)

/-- 'laws.FnExactFinishCommit', WHERE WHAT IT READS IS OF BULK AT MOST 1048576: true; the input reads as it did. -/
def fnExactFinishCommitUptoRow : OpenClaim := { program := "ytlabpbkeaelecaa", sum := "c828a0666a5ddb80e9efd59364659a62404dfca41af7ce2c6326cc09f23b7b99", func := "loop.example/g00641/laws.FnExactFinishCommit", spec := "fnExactFinishCommit", unfollowed := true, recurses := true, apart := false, narrowed := true }
def FnExactFinishCommitUptoSaid : Prop := fnExactFinishCommitUptoRow.holds Try.pinned (OpenSpec.upto fnExactFinishCommitSpec)

/-- 'laws.FnExactPlayCommit', WHERE WHAT IT READS IS OF BULK AT MOST 1048576: true; the input reads as it did. -/
def fnExactPlayCommitUptoRow : OpenClaim := { program := "ytlabpbkeaelecaa", sum := "c828a0666a5ddb80e9efd59364659a62404dfca41af7ce2c6326cc09f23b7b99", func := "loop.example/g00641/laws.FnExactPlayCommit", spec := "fnExactPlayCommit", unfollowed := true, recurses := true, apart := false, narrowed := true }
def FnExactPlayCommitUptoSaid : Prop := fnExactPlayCommitUptoRow.holds Try.pinned (OpenSpec.upto fnExactPlayCommitSpec)

/-- 'laws.FnExactRunBallot', WHERE WHAT IT READS IS OF BULK AT MOST 1048576: true; the input reads as it did. -/
def fnExactRunBallotUptoRow : OpenClaim := { program := "ytlabpbkeaelecaa", sum := "c828a0666a5ddb80e9efd59364659a62404dfca41af7ce2c6326cc09f23b7b99", func := "loop.example/g00641/laws.FnExactRunBallot", spec := "fnExactRunBallot", unfollowed := true, recurses := true, apart := false, narrowed := true }
def FnExactRunBallotUptoSaid : Prop := fnExactRunBallotUptoRow.holds Try.pinned (OpenSpec.upto fnExactRunBallotSpec)

/-- 'laws.FnExactRunBallots', WHERE WHAT IT READS IS OF BULK AT MOST 1048576: true; the input reads as it did. -/
def fnExactRunBallotsUptoRow : OpenClaim := { program := "ytlabpbkeaelecaa", sum := "c828a0666a5ddb80e9efd59364659a62404dfca41af7ce2c6326cc09f23b7b99", func := "loop.example/g00641/laws.FnExactRunBallots", spec := "fnExactRunBallots", apart := false, narrowed := true }
def FnExactRunBallotsUptoSaid : Prop := fnExactRunBallotsUptoRow.holds Try.pinned (OpenSpec.upto fnExactRunBallotsSpec)

/-- 'laws.FnExactGroupBy', WHERE WHAT IT READS IS OF BULK AT MOST 1048576: true; the input reads as it did. -/
def fnExactGroupByUptoRow : OpenClaim := { program := "ytlabpbkeaelecaa", sum := "c828a0666a5ddb80e9efd59364659a62404dfca41af7ce2c6326cc09f23b7b99", func := "loop.example/g00641/laws.FnExactGroupBy", spec := "fnExactGroupBy", recurses := true, apart := false, narrowed := true }
def FnExactGroupByUptoSaid : Prop := fnExactGroupByUptoRow.holds Try.pinned (OpenSpec.upto fnExactGroupBySpec)

/-- 'laws.FnSizes', WHERE WHAT IT READS IS OF BULK AT MOST 1048576: true; the input reads as it did. -/
def fnSizesUptoRow : OpenClaim := { program := "ytlabpbkeaelecaa", sum := "c828a0666a5ddb80e9efd59364659a62404dfca41af7ce2c6326cc09f23b7b99", func := "loop.example/g00641/laws.FnSizes", spec := "fnSizes", recurses := true, apart := false, narrowed := true }
def FnSizesUptoSaid : Prop := fnSizesUptoRow.holds Try.pinned (OpenSpec.upto fnSizesSpec)

end Rows
end Go.Proofs.Ytlabpbkeaelecaa
