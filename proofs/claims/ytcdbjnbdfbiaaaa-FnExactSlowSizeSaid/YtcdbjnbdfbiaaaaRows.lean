/-
  No cell of these rows narrows 'for every input' (looked for: loops, veiled, ifaces, maps, wideKeys, modest, calm, conditions, laid).
  DERIVED. THE GIVEN ROWS OF THIS SEAT. 6 by the template 'for every input the law returns true; each argument reads behind the call as it read before'; 0 by the template 'total and deterministic' (their statements: YtcdbjnbdfbiaaaaTotals.lean).
  GIVEN WITH THE SEED: the statements are not yours to turn. If you find one false, say at which input.
  Laid BY PROGRAM, IN A SANDBOX (cutbox-rows.mjs): the forced cells as the released guide's own fill.sh prints them over the translation 14a459de764aaa9c… (all of the seat's roots in one cut). By AI agents, Wed Nov 11 2026. No macro, syntax, notation, axiom, sorry.
-/
import Derived.Test.YtcdbjnbdfbiaaaaChecked
import GoSem.Claim
import GoSem.ClaimJoined
import GoSem.ClaimMapViews
import Derived.JoinedTies
import Derived.KernelRfl
namespace Go.Proofs.Ytcdbjnbdfbiaaaa
/- THE CELL 'sum', in the pinned program and in every row, IS THE sha256 OF THE DUMP (.gsa) THAT YtcdbjnbdfbiaaaaProg.lean LOADS. Nothing in Lean hashes anything: it is a label: what it is worth is what the hold of that sum in a sandbox is worth. -/
noncomputable def Try.pinned : Pinned := { name := "ytcdbjnbdfbiaaaa", sum := "14a459de764aaa9c2997d2b2047cf7cb1b4b104ab6803ef00741059537301c2d", checked := Try.checked }
namespace Rows
def none {H : Type} : Left H := { results := [], args := [] }

/-- 'laws.FnExactFastSize': WHATEVER THE INPUT: true; the input reads as it did. -/
def fnExactFastSizeSpec : ChangeSpec := { name := "fnExactFastSize", fn := fun _ => fun
  | [d] => { results := [.lit (.bool true)], args := [d] }
  | _ => none }
def fnExactFastSizeRow : OpenClaim := { program := "ytcdbjnbdfbiaaaa", sum := "14a459de764aaa9c2997d2b2047cf7cb1b4b104ab6803ef00741059537301c2d", func := "loop.example/g00641/laws.FnExactFastSize", spec := "fnExactFastSize", apart := false }
def FnExactFastSizeSaid : Prop := fnExactFastSizeRow.holds Try.pinned (OpenSpec.ofChange fnExactFastSizeSpec)

/-- ITS FALSE NEIGHBOUR: 'it returns false'. Refute it at one input. -/
def fnExactFastSizeWrong : ChangeSpec := { name := "fnExactFastSize", fn := fun _ => fun
  | [d] => { results := [.lit (.bool false)], args := [d] }
  | _ => none }
def FnExactFastSizeWrongFalsely : Prop := fnExactFastSizeRow.holds Try.pinned (OpenSpec.ofChange fnExactFastSizeWrong)

/-- 'laws.FnExactSlowSize': WHATEVER THE INPUT: true; the input reads as it did. -/
def fnExactSlowSizeSpec : ChangeSpec := { name := "fnExactSlowSize", fn := fun _ => fun
  | [d] => { results := [.lit (.bool true)], args := [d] }
  | _ => none }
def fnExactSlowSizeRow : OpenClaim := { program := "ytcdbjnbdfbiaaaa", sum := "14a459de764aaa9c2997d2b2047cf7cb1b4b104ab6803ef00741059537301c2d", func := "loop.example/g00641/laws.FnExactSlowSize", spec := "fnExactSlowSize", apart := false }
def FnExactSlowSizeSaid : Prop := fnExactSlowSizeRow.holds Try.pinned (OpenSpec.ofChange fnExactSlowSizeSpec)

/-- ITS FALSE NEIGHBOUR: 'it returns false'. Refute it at one input. -/
def fnExactSlowSizeWrong : ChangeSpec := { name := "fnExactSlowSize", fn := fun _ => fun
  | [d] => { results := [.lit (.bool false)], args := [d] }
  | _ => none }
def FnExactSlowSizeWrongFalsely : Prop := fnExactSlowSizeRow.holds Try.pinned (OpenSpec.ofChange fnExactSlowSizeWrong)

/-- 'laws.FnExactClashOf': WHATEVER THE INPUT: true; the input reads as it did. -/
def fnExactClashOfSpec : ChangeSpec := { name := "fnExactClashOf", fn := fun _ => fun
  | [d1, d2] => { results := [.lit (.bool true)], args := [d1, d2] }
  | _ => none }
def fnExactClashOfRow : OpenClaim := { program := "ytcdbjnbdfbiaaaa", sum := "14a459de764aaa9c2997d2b2047cf7cb1b4b104ab6803ef00741059537301c2d", func := "loop.example/g00641/laws.FnExactClashOf", spec := "fnExactClashOf", apart := false }
def FnExactClashOfSaid : Prop := fnExactClashOfRow.holds Try.pinned (OpenSpec.ofChange fnExactClashOfSpec)

/-- ITS FALSE NEIGHBOUR: 'it returns false'. Refute it at one input. -/
def fnExactClashOfWrong : ChangeSpec := { name := "fnExactClashOf", fn := fun _ => fun
  | [d1, d2] => { results := [.lit (.bool false)], args := [d1, d2] }
  | _ => none }
def FnExactClashOfWrongFalsely : Prop := fnExactClashOfRow.holds Try.pinned (OpenSpec.ofChange fnExactClashOfWrong)

/-- 'laws.FnExactIsFast': WHATEVER THE INPUT: true; the input reads as it did. -/
def fnExactIsFastSpec : ChangeSpec := { name := "fnExactIsFast", fn := fun _ => fun
  | [d1, d2] => { results := [.lit (.bool true)], args := [d1, d2] }
  | _ => none }
def fnExactIsFastRow : OpenClaim := { program := "ytcdbjnbdfbiaaaa", sum := "14a459de764aaa9c2997d2b2047cf7cb1b4b104ab6803ef00741059537301c2d", func := "loop.example/g00641/laws.FnExactIsFast", spec := "fnExactIsFast", apart := false }
def FnExactIsFastSaid : Prop := fnExactIsFastRow.holds Try.pinned (OpenSpec.ofChange fnExactIsFastSpec)

/-- ITS FALSE NEIGHBOUR: 'it returns false'. Refute it at one input. -/
def fnExactIsFastWrong : ChangeSpec := { name := "fnExactIsFast", fn := fun _ => fun
  | [d1, d2] => { results := [.lit (.bool false)], args := [d1, d2] }
  | _ => none }
def FnExactIsFastWrongFalsely : Prop := fnExactIsFastRow.holds Try.pinned (OpenSpec.ofChange fnExactIsFastWrong)

/-- 'laws.FnExactIsSlow': WHATEVER THE INPUT: true; the input reads as it did. -/
def fnExactIsSlowSpec : ChangeSpec := { name := "fnExactIsSlow", fn := fun _ => fun
  | [d1, d2] => { results := [.lit (.bool true)], args := [d1, d2] }
  | _ => none }
def fnExactIsSlowRow : OpenClaim := { program := "ytcdbjnbdfbiaaaa", sum := "14a459de764aaa9c2997d2b2047cf7cb1b4b104ab6803ef00741059537301c2d", func := "loop.example/g00641/laws.FnExactIsSlow", spec := "fnExactIsSlow", apart := false }
def FnExactIsSlowSaid : Prop := fnExactIsSlowRow.holds Try.pinned (OpenSpec.ofChange fnExactIsSlowSpec)

/-- ITS FALSE NEIGHBOUR: 'it returns false'. Refute it at one input. -/
def fnExactIsSlowWrong : ChangeSpec := { name := "fnExactIsSlow", fn := fun _ => fun
  | [d1, d2] => { results := [.lit (.bool false)], args := [d1, d2] }
  | _ => none }
def FnExactIsSlowWrongFalsely : Prop := fnExactIsSlowRow.holds Try.pinned (OpenSpec.ofChange fnExactIsSlowWrong)

/-- 'laws.FnExactLeastCommon': WHATEVER THE INPUT: true; the input reads as it did. -/
def fnExactLeastCommonSpec : ChangeSpec := { name := "fnExactLeastCommon", fn := fun _ => fun
  | [d1, d2] => { results := [.lit (.bool true)], args := [d1, d2] }
  | _ => none }
def fnExactLeastCommonRow : OpenClaim := { program := "ytcdbjnbdfbiaaaa", sum := "14a459de764aaa9c2997d2b2047cf7cb1b4b104ab6803ef00741059537301c2d", func := "loop.example/g00641/laws.FnExactLeastCommon", spec := "fnExactLeastCommon", apart := false }
def FnExactLeastCommonSaid : Prop := fnExactLeastCommonRow.holds Try.pinned (OpenSpec.ofChange fnExactLeastCommonSpec)

/-- ITS FALSE NEIGHBOUR: 'it returns false'. Refute it at one input. -/
def fnExactLeastCommonWrong : ChangeSpec := { name := "fnExactLeastCommon", fn := fun _ => fun
  | [d1, d2] => { results := [.lit (.bool false)], args := [d1, d2] }
  | _ => none }
def FnExactLeastCommonWrongFalsely : Prop := fnExactLeastCommonRow.holds Try.pinned (OpenSpec.ofChange fnExactLeastCommonWrong)

/- THE SECOND FORM. 'bulk': how many values and letters a reading holds, each counted each time it is reached (what is shared counts as often as it is met; a slice's spare places count too). A statement '..UptoSaid' is the law's where the arguments, and the package variables that the reading takes, are together of bulk at most 1048576: NARROWER than '..Said'. Prove '..Said' where nothing that the law and all that it calls make is longer than what came in: it says more and counts as full. Else prove '..UptoSaid'. A law counts once. -/
mutual
def uptoBulk {H : Type} : DataW H → Nat
  | .lit (.string bytes) => bytes.length + 1
  | .lit _ => 1
  | .nil => 1
  | .ptr d => uptoBulk d + 1
  | .slice elems spare => uptoBulkAll elems + uptoBulkAll spare + 1
  | .agg parts => uptoBulkAll parts + 1
  | .iface _ d => uptoBulk d + 1
  | .map entries => uptoBulkEntries entries + 1
  | .held _ => 1
def uptoBulkAll {H : Type} : List (DataW H) → Nat
  | [] => 0
  | d :: r => uptoBulk d + uptoBulkAll r
def uptoBulkEntries {H : Type} : List (Lit × DataW H) → Nat
  | [] => 0
  | x :: r => uptoBulkEntry x + uptoBulkEntries r
def uptoBulkEntry {H : Type} : Lit × DataW H → Nat
  | (.string bytes, d) => bytes.length + uptoBulk d + 1
  | (_, d) => uptoBulk d + 1
 end
def uptoSmall : (H : Type) → List (DataW H) → Bool := fun _ ds => decide (uptoBulkAll ds ≤ 1048576)
def OpenSpec.upto (s : _root_.Go.ChangeSpec) : _root_.Go.OpenSpec := { _root_.Go.OpenSpec.ofChange s with cond := some uptoSmall }

/-- 'laws.FnExactFastSize', WHERE WHAT IT READS IS OF BULK AT MOST 1048576: true; the input reads as it did. -/
def fnExactFastSizeUptoRow : OpenClaim := { program := "ytcdbjnbdfbiaaaa", sum := "14a459de764aaa9c2997d2b2047cf7cb1b4b104ab6803ef00741059537301c2d", func := "loop.example/g00641/laws.FnExactFastSize", spec := "fnExactFastSize", apart := false, narrowed := true }
def FnExactFastSizeUptoSaid : Prop := fnExactFastSizeUptoRow.holds Try.pinned (OpenSpec.upto fnExactFastSizeSpec)

/-- 'laws.FnExactSlowSize', WHERE WHAT IT READS IS OF BULK AT MOST 1048576: true; the input reads as it did. -/
def fnExactSlowSizeUptoRow : OpenClaim := { program := "ytcdbjnbdfbiaaaa", sum := "14a459de764aaa9c2997d2b2047cf7cb1b4b104ab6803ef00741059537301c2d", func := "loop.example/g00641/laws.FnExactSlowSize", spec := "fnExactSlowSize", apart := false, narrowed := true }
def FnExactSlowSizeUptoSaid : Prop := fnExactSlowSizeUptoRow.holds Try.pinned (OpenSpec.upto fnExactSlowSizeSpec)

/-- 'laws.FnExactClashOf', WHERE WHAT IT READS IS OF BULK AT MOST 1048576: true; the input reads as it did. -/
def fnExactClashOfUptoRow : OpenClaim := { program := "ytcdbjnbdfbiaaaa", sum := "14a459de764aaa9c2997d2b2047cf7cb1b4b104ab6803ef00741059537301c2d", func := "loop.example/g00641/laws.FnExactClashOf", spec := "fnExactClashOf", apart := false, narrowed := true }
def FnExactClashOfUptoSaid : Prop := fnExactClashOfUptoRow.holds Try.pinned (OpenSpec.upto fnExactClashOfSpec)

/-- 'laws.FnExactIsFast', WHERE WHAT IT READS IS OF BULK AT MOST 1048576: true; the input reads as it did. -/
def fnExactIsFastUptoRow : OpenClaim := { program := "ytcdbjnbdfbiaaaa", sum := "14a459de764aaa9c2997d2b2047cf7cb1b4b104ab6803ef00741059537301c2d", func := "loop.example/g00641/laws.FnExactIsFast", spec := "fnExactIsFast", apart := false, narrowed := true }
def FnExactIsFastUptoSaid : Prop := fnExactIsFastUptoRow.holds Try.pinned (OpenSpec.upto fnExactIsFastSpec)

/-- 'laws.FnExactIsSlow', WHERE WHAT IT READS IS OF BULK AT MOST 1048576: true; the input reads as it did. -/
def fnExactIsSlowUptoRow : OpenClaim := { program := "ytcdbjnbdfbiaaaa", sum := "14a459de764aaa9c2997d2b2047cf7cb1b4b104ab6803ef00741059537301c2d", func := "loop.example/g00641/laws.FnExactIsSlow", spec := "fnExactIsSlow", apart := false, narrowed := true }
def FnExactIsSlowUptoSaid : Prop := fnExactIsSlowUptoRow.holds Try.pinned (OpenSpec.upto fnExactIsSlowSpec)

/-- 'laws.FnExactLeastCommon', WHERE WHAT IT READS IS OF BULK AT MOST 1048576: true; the input reads as it did. -/
def fnExactLeastCommonUptoRow : OpenClaim := { program := "ytcdbjnbdfbiaaaa", sum := "14a459de764aaa9c2997d2b2047cf7cb1b4b104ab6803ef00741059537301c2d", func := "loop.example/g00641/laws.FnExactLeastCommon", spec := "fnExactLeastCommon", apart := false, narrowed := true }
def FnExactLeastCommonUptoSaid : Prop := fnExactLeastCommonUptoRow.holds Try.pinned (OpenSpec.upto fnExactLeastCommonSpec)

end Rows
end Go.Proofs.Ytcdbjnbdfbiaaaa
