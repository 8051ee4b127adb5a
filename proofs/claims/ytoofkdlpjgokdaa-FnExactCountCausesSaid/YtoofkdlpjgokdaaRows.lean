/-
  No cell of these rows narrows 'for every input' (looked for: loops, veiled, ifaces, maps, wideKeys, modest, calm, conditions, laid).
  DERIVED. THE GIVEN ROWS OF THIS SEAT. 12 by the template 'for every input the law returns true; each argument reads behind the call as it read before'; 0 by the template 'total and deterministic' (their statements: YtoofkdlpjgokdaaTotals.lean).
  GIVEN WITH THE SEED: the statements are not yours to turn. If you find one false, say at which input.
  Laid BY PROGRAM, IN A SANDBOX (cutbox-rows.mjs): the forced cells as the released guide's own fill.sh prints them over the translation 9c4ba9b6cb9a5538… (all of the seat's roots in one cut). By AI agents, Wed Nov 11 2026. No macro, syntax, notation, axiom, sorry.
-/
import Derived.Test.YtoofkdlpjgokdaaChecked
import GoSem.Claim
import GoSem.ClaimJoined
import GoSem.ClaimMapViews
import Derived.JoinedTies
import Derived.KernelRfl
namespace Go.Proofs.Ytoofkdlpjgokdaa
/- THE CELL 'sum', in the pinned program and in every row, IS THE sha256 OF THE DUMP (.gsa) THAT YtoofkdlpjgokdaaProg.lean LOADS. Nothing in Lean hashes anything: it is a label: what it is worth is what the hold of that sum in a sandbox is worth. -/
noncomputable def Try.pinned : Pinned := { name := "ytoofkdlpjgokdaa", sum := "9c4ba9b6cb9a5538a8505b17c57181ba5382e0062ff90fc2792ba309673b6012", checked := Try.checked }
namespace Rows
def none {H : Type} : Left H := { results := [], args := [] }

/-- 'laws.FnExactIsTrap': WHATEVER THE INPUT: true; the input reads as it did. -/
def fnExactIsTrapSpec : ChangeSpec := { name := "fnExactIsTrap", fn := fun _ => fun
  | [d] => { results := [.lit (.bool true)], args := [d] }
  | _ => none }
def fnExactIsTrapRow : OpenClaim := { program := "ytoofkdlpjgokdaa", sum := "9c4ba9b6cb9a5538a8505b17c57181ba5382e0062ff90fc2792ba309673b6012", func := "loop.example/g00843/laws.FnExactIsTrap", spec := "fnExactIsTrap", apart := false }
def FnExactIsTrapSaid : Prop := fnExactIsTrapRow.holds Try.pinned (OpenSpec.ofChange fnExactIsTrapSpec)

/-- ITS FALSE NEIGHBOUR: 'it returns false'. Refute it at one input. -/
def fnExactIsTrapWrong : ChangeSpec := { name := "fnExactIsTrap", fn := fun _ => fun
  | [d] => { results := [.lit (.bool false)], args := [d] }
  | _ => none }
def FnExactIsTrapWrongFalsely : Prop := fnExactIsTrapRow.holds Try.pinned (OpenSpec.ofChange fnExactIsTrapWrong)

/-- 'laws.FnExactDoesRepeat': WHATEVER THE INPUT: true; the input reads as it did. -/
def fnExactDoesRepeatSpec : ChangeSpec := { name := "fnExactDoesRepeat", fn := fun _ => fun
  | [d] => { results := [.lit (.bool true)], args := [d] }
  | _ => none }
def fnExactDoesRepeatRow : OpenClaim := { program := "ytoofkdlpjgokdaa", sum := "9c4ba9b6cb9a5538a8505b17c57181ba5382e0062ff90fc2792ba309673b6012", func := "loop.example/g00843/laws.FnExactDoesRepeat", spec := "fnExactDoesRepeat", apart := false }
def FnExactDoesRepeatSaid : Prop := fnExactDoesRepeatRow.holds Try.pinned (OpenSpec.ofChange fnExactDoesRepeatSpec)

/-- ITS FALSE NEIGHBOUR: 'it returns false'. Refute it at one input. -/
def fnExactDoesRepeatWrong : ChangeSpec := { name := "fnExactDoesRepeat", fn := fun _ => fun
  | [d] => { results := [.lit (.bool false)], args := [d] }
  | _ => none }
def FnExactDoesRepeatWrongFalsely : Prop := fnExactDoesRepeatRow.holds Try.pinned (OpenSpec.ofChange fnExactDoesRepeatWrong)

/-- 'laws.FnExactTrapName': WHATEVER THE INPUT: true; the input reads as it did. -/
def fnExactTrapNameSpec : ChangeSpec := { name := "fnExactTrapName", fn := fun _ => fun
  | [d] => { results := [.lit (.bool true)], args := [d] }
  | _ => none }
def fnExactTrapNameRow : OpenClaim := { program := "ytoofkdlpjgokdaa", sum := "9c4ba9b6cb9a5538a8505b17c57181ba5382e0062ff90fc2792ba309673b6012", func := "loop.example/g00843/laws.FnExactTrapName", spec := "fnExactTrapName", apart := false }
def FnExactTrapNameSaid : Prop := fnExactTrapNameRow.holds Try.pinned (OpenSpec.ofChange fnExactTrapNameSpec)

/-- ITS FALSE NEIGHBOUR: 'it returns false'. Refute it at one input. -/
def fnExactTrapNameWrong : ChangeSpec := { name := "fnExactTrapName", fn := fun _ => fun
  | [d] => { results := [.lit (.bool false)], args := [d] }
  | _ => none }
def FnExactTrapNameWrongFalsely : Prop := fnExactTrapNameRow.holds Try.pinned (OpenSpec.ofChange fnExactTrapNameWrong)

/-- 'laws.FnExactSyndrome': WHATEVER THE INPUT: true; the input reads as it did. -/
def fnExactSyndromeSpec : ChangeSpec := { name := "fnExactSyndrome", fn := fun _ => fun
  | [d] => { results := [.lit (.bool true)], args := [d] }
  | _ => none }
def fnExactSyndromeRow : OpenClaim := { program := "ytoofkdlpjgokdaa", sum := "9c4ba9b6cb9a5538a8505b17c57181ba5382e0062ff90fc2792ba309673b6012", func := "loop.example/g00843/laws.FnExactSyndrome", spec := "fnExactSyndrome", apart := false }
def FnExactSyndromeSaid : Prop := fnExactSyndromeRow.holds Try.pinned (OpenSpec.ofChange fnExactSyndromeSpec)

/-- ITS FALSE NEIGHBOUR: 'it returns false'. Refute it at one input. -/
def fnExactSyndromeWrong : ChangeSpec := { name := "fnExactSyndrome", fn := fun _ => fun
  | [d] => { results := [.lit (.bool false)], args := [d] }
  | _ => none }
def FnExactSyndromeWrongFalsely : Prop := fnExactSyndromeRow.holds Try.pinned (OpenSpec.ofChange fnExactSyndromeWrong)

/-- 'laws.FnExactDeviceTrap': WHATEVER THE INPUT: true; the input reads as it did. -/
def fnExactDeviceTrapSpec : ChangeSpec := { name := "fnExactDeviceTrap", fn := fun _ => fun
  | [d1, d2, d3, d4] => { results := [.lit (.bool true)], args := [d1, d2, d3, d4] }
  | _ => none }
def fnExactDeviceTrapRow : OpenClaim := { program := "ytoofkdlpjgokdaa", sum := "9c4ba9b6cb9a5538a8505b17c57181ba5382e0062ff90fc2792ba309673b6012", func := "loop.example/g00843/laws.FnExactDeviceTrap", spec := "fnExactDeviceTrap", apart := false }
def FnExactDeviceTrapSaid : Prop := fnExactDeviceTrapRow.holds Try.pinned (OpenSpec.ofChange fnExactDeviceTrapSpec)

/-- ITS FALSE NEIGHBOUR: 'it returns false'. Refute it at one input. -/
def fnExactDeviceTrapWrong : ChangeSpec := { name := "fnExactDeviceTrap", fn := fun _ => fun
  | [d1, d2, d3, d4] => { results := [.lit (.bool false)], args := [d1, d2, d3, d4] }
  | _ => none }
def FnExactDeviceTrapWrongFalsely : Prop := fnExactDeviceTrapRow.holds Try.pinned (OpenSpec.ofChange fnExactDeviceTrapWrong)

/-- 'laws.FnExactFaultTrap': WHATEVER THE INPUT: true; the input reads as it did. -/
def fnExactFaultTrapSpec : ChangeSpec := { name := "fnExactFaultTrap", fn := fun _ => fun
  | [d1, d2] => { results := [.lit (.bool true)], args := [d1, d2] }
  | _ => none }
def fnExactFaultTrapRow : OpenClaim := { program := "ytoofkdlpjgokdaa", sum := "9c4ba9b6cb9a5538a8505b17c57181ba5382e0062ff90fc2792ba309673b6012", func := "loop.example/g00843/laws.FnExactFaultTrap", spec := "fnExactFaultTrap", apart := false }
def FnExactFaultTrapSaid : Prop := fnExactFaultTrapRow.holds Try.pinned (OpenSpec.ofChange fnExactFaultTrapSpec)

/-- ITS FALSE NEIGHBOUR: 'it returns false'. Refute it at one input. -/
def fnExactFaultTrapWrong : ChangeSpec := { name := "fnExactFaultTrap", fn := fun _ => fun
  | [d1, d2] => { results := [.lit (.bool false)], args := [d1, d2] }
  | _ => none }
def FnExactFaultTrapWrongFalsely : Prop := fnExactFaultTrapRow.holds Try.pinned (OpenSpec.ofChange fnExactFaultTrapWrong)

/-- 'laws.FnExactTrapOf': WHATEVER THE INPUT: true; the input reads as it did. -/
def fnExactTrapOfSpec : ChangeSpec := { name := "fnExactTrapOf", fn := fun _ => fun
  | [d] => { results := [.lit (.bool true)], args := [d] }
  | _ => none }
def fnExactTrapOfRow : OpenClaim := { program := "ytoofkdlpjgokdaa", sum := "9c4ba9b6cb9a5538a8505b17c57181ba5382e0062ff90fc2792ba309673b6012", func := "loop.example/g00843/laws.FnExactTrapOf", spec := "fnExactTrapOf", apart := false }
def FnExactTrapOfSaid : Prop := fnExactTrapOfRow.holds Try.pinned (OpenSpec.ofChange fnExactTrapOfSpec)

/-- ITS FALSE NEIGHBOUR: 'it returns false'. Refute it at one input. -/
def fnExactTrapOfWrong : ChangeSpec := { name := "fnExactTrapOf", fn := fun _ => fun
  | [d] => { results := [.lit (.bool false)], args := [d] }
  | _ => none }
def FnExactTrapOfWrongFalsely : Prop := fnExactTrapOfRow.holds Try.pinned (OpenSpec.ofChange fnExactTrapOfWrong)

/-- 'laws.FnExactStoredValue': WHATEVER THE INPUT: true; the input reads as it did. -/
def fnExactStoredValueSpec : ChangeSpec := { name := "fnExactStoredValue", fn := fun _ => fun
  | [d1, d2] => { results := [.lit (.bool true)], args := [d1, d2] }
  | _ => none }
def fnExactStoredValueRow : OpenClaim := { program := "ytoofkdlpjgokdaa", sum := "9c4ba9b6cb9a5538a8505b17c57181ba5382e0062ff90fc2792ba309673b6012", func := "loop.example/g00843/laws.FnExactStoredValue", spec := "fnExactStoredValue", unfollowed := true, recurses := true, apart := false }
def FnExactStoredValueSaid : Prop := fnExactStoredValueRow.holds Try.pinned (OpenSpec.ofChange fnExactStoredValueSpec)

/-- ITS FALSE NEIGHBOUR: 'it returns false'. Refute it at one input. -/
def fnExactStoredValueWrong : ChangeSpec := { name := "fnExactStoredValue", fn := fun _ => fun
  | [d1, d2] => { results := [.lit (.bool false)], args := [d1, d2] }
  | _ => none }
def FnExactStoredValueWrongFalsely : Prop := fnExactStoredValueRow.holds Try.pinned (OpenSpec.ofChange fnExactStoredValueWrong)

/-- 'laws.FnExactLoadValue': WHATEVER THE INPUT: true; the input reads as it did. -/
def fnExactLoadValueSpec : ChangeSpec := { name := "fnExactLoadValue", fn := fun _ => fun
  | [d1, d2, d3] => { results := [.lit (.bool true)], args := [d1, d2, d3] }
  | _ => none }
def fnExactLoadValueRow : OpenClaim := { program := "ytoofkdlpjgokdaa", sum := "9c4ba9b6cb9a5538a8505b17c57181ba5382e0062ff90fc2792ba309673b6012", func := "loop.example/g00843/laws.FnExactLoadValue", spec := "fnExactLoadValue", unfollowed := true, recurses := true, apart := false }
def FnExactLoadValueSaid : Prop := fnExactLoadValueRow.holds Try.pinned (OpenSpec.ofChange fnExactLoadValueSpec)

/-- ITS FALSE NEIGHBOUR: 'it returns false'. Refute it at one input. -/
def fnExactLoadValueWrong : ChangeSpec := { name := "fnExactLoadValue", fn := fun _ => fun
  | [d1, d2, d3] => { results := [.lit (.bool false)], args := [d1, d2, d3] }
  | _ => none }
def FnExactLoadValueWrongFalsely : Prop := fnExactLoadValueRow.holds Try.pinned (OpenSpec.ofChange fnExactLoadValueWrong)

/-- 'laws.FnExactCountCauses': WHATEVER THE INPUT: true; the input reads as it did. -/
def fnExactCountCausesSpec : ChangeSpec := { name := "fnExactCountCauses", fn := fun _ => fun
  | [d] => { results := [.lit (.bool true)], args := [d] }
  | _ => none }
def fnExactCountCausesRow : OpenClaim := { program := "ytoofkdlpjgokdaa", sum := "9c4ba9b6cb9a5538a8505b17c57181ba5382e0062ff90fc2792ba309673b6012", func := "loop.example/g00843/laws.FnExactCountCauses", spec := "fnExactCountCauses", apart := false }
def FnExactCountCausesSaid : Prop := fnExactCountCausesRow.holds Try.pinned (OpenSpec.ofChange fnExactCountCausesSpec)

/-- ITS FALSE NEIGHBOUR: 'it returns false'. Refute it at one input. -/
def fnExactCountCausesWrong : ChangeSpec := { name := "fnExactCountCauses", fn := fun _ => fun
  | [d] => { results := [.lit (.bool false)], args := [d] }
  | _ => none }
def FnExactCountCausesWrongFalsely : Prop := fnExactCountCausesRow.holds Try.pinned (OpenSpec.ofChange fnExactCountCausesWrong)

/-- 'laws.FnTrapValues': WHATEVER THE INPUT: true; the input reads as it did. -/
def fnTrapValuesSpec : ChangeSpec := { name := "fnTrapValues", fn := fun _ => fun
  | [d] => { results := [.lit (.bool true)], args := [d] }
  | _ => none }
def fnTrapValuesRow : OpenClaim := { program := "ytoofkdlpjgokdaa", sum := "9c4ba9b6cb9a5538a8505b17c57181ba5382e0062ff90fc2792ba309673b6012", func := "loop.example/g00843/laws.FnTrapValues", spec := "fnTrapValues", unfollowed := true, recurses := true, apart := false }
def FnTrapValuesSaid : Prop := fnTrapValuesRow.holds Try.pinned (OpenSpec.ofChange fnTrapValuesSpec)

/-- ITS FALSE NEIGHBOUR: 'it returns false'. Refute it at one input. -/
def fnTrapValuesWrong : ChangeSpec := { name := "fnTrapValues", fn := fun _ => fun
  | [d] => { results := [.lit (.bool false)], args := [d] }
  | _ => none }
def FnTrapValuesWrongFalsely : Prop := fnTrapValuesRow.holds Try.pinned (OpenSpec.ofChange fnTrapValuesWrong)

/-- 'laws.FnTraps': WHATEVER THE INPUT: true; the input reads as it did. -/
def fnTrapsSpec : ChangeSpec := { name := "fnTraps", fn := fun _ => fun
  | [d] => { results := [.lit (.bool true)], args := [d] }
  | _ => none }
def fnTrapsRow : OpenClaim := { program := "ytoofkdlpjgokdaa", sum := "9c4ba9b6cb9a5538a8505b17c57181ba5382e0062ff90fc2792ba309673b6012", func := "loop.example/g00843/laws.FnTraps", spec := "fnTraps", apart := false }
def FnTrapsSaid : Prop := fnTrapsRow.holds Try.pinned (OpenSpec.ofChange fnTrapsSpec)

/-- ITS FALSE NEIGHBOUR: 'it returns false'. Refute it at one input. -/
def fnTrapsWrong : ChangeSpec := { name := "fnTraps", fn := fun _ => fun
  | [d] => { results := [.lit (.bool false)], args := [d] }
  | _ => none }
def FnTrapsWrongFalsely : Prop := fnTrapsRow.holds Try.pinned (OpenSpec.ofChange fnTrapsWrong)

/- THE SECOND FORM. 'bulk': how many values and letters a reading holds, each counted each time it is reached (what is shared counts as often as it is met; a slice's spare places count too). A statement '..UptoSaid' is the law's where the arguments, and the package variables that the reading takes, are together of bulk at most 1048576: NARROWER than '..Said'. Prove '..Said' where nothing that the law and all that it calls make is longer than what came in: it says more and counts as full. Else prove '..UptoSaid'. A law counts once. -/
mutual
def uptoBulk {H : Type} : DataW H → Nat
  | .lit (.string bytes) => bytes.length + 1
  | .lit _ => 1
  | .nil => 1
  | .ptr d => uptoBulk d + 1
  | .slice elems spare => uptoBulkAll elems + uptoBulkAll spare + 1
  | .agg parts => uptoBulkAll parts + 1
  | .iface _ d => uptoBulk d + 1
  | .map entries => uptoBulkEntries entries + 1
  | .held _ => 1
def uptoBulkAll {H : Type} : List (DataW H) → Nat
  | [] => 0
  | d :: r => uptoBulk d + uptoBulkAll r
def uptoBulkEntries {H : Type} : List (Lit × DataW H) → Nat
  | [] => 0
  | x :: r => uptoBulkEntry x + uptoBulkEntries r
def uptoBulkEntry {H : Type} : Lit × DataW H → Nat
  | (.string bytes, d) => bytes.length + uptoBulk d + 1
  | (_, d) => uptoBulk d + 1
 end
def uptoSmall : (H : Type) → List (DataW H) → Bool := fun _ ds => decide (uptoBulkAll ds ≤ 1048576)
def OpenSpec.upto (s : _root_.Go.ChangeSpec) : _root_.Go.OpenSpec := { _root_.Go.OpenSpec.ofChange s with cond := some uptoSmall }

/-- 'laws.FnExactIsTrap', WHERE WHAT IT READS IS OF BULK AT MOST 1048576: true; the input reads as it did. -/
def fnExactIsTrapUptoRow : OpenClaim := { program := "ytoofkdlpjgokdaa", sum := "9c4ba9b6cb9a5538a8505b17c57181ba5382e0062ff90fc2792ba309673b6012", func := "loop.example/g00843/laws.FnExactIsTrap", spec := "fnExactIsTrap", apart := false, narrowed := true }
def FnExactIsTrapUptoSaid : Prop := fnExactIsTrapUptoRow.holds Try.pinned (OpenSpec.upto fnExactIsTrapSpec)

/-- 'laws.FnExactDoesRepeat', WHERE WHAT IT READS IS OF BULK AT MOST 1048576: true; the input reads as it did. -/
def fnExactDoesRepeatUptoRow : OpenClaim := { program := "ytoofkdlpjgokdaa", sum := "9c4ba9b6cb9a5538a8505b17c57181ba5382e0062ff90fc2792ba309673b6012", func := "loop.example/g00843/laws.FnExactDoesRepeat", spec := "fnExactDoesRepeat", apart := false, narrowed := true }
def FnExactDoesRepeatUptoSaid : Prop := fnExactDoesRepeatUptoRow.holds Try.pinned (OpenSpec.upto fnExactDoesRepeatSpec)

/-- 'laws.FnExactTrapName', WHERE WHAT IT READS IS OF BULK AT MOST 1048576: true; the input reads as it did. -/
def fnExactTrapNameUptoRow : OpenClaim := { program := "ytoofkdlpjgokdaa", sum := "9c4ba9b6cb9a5538a8505b17c57181ba5382e0062ff90fc2792ba309673b6012", func := "loop.example/g00843/laws.FnExactTrapName", spec := "fnExactTrapName", apart := false, narrowed := true }
def FnExactTrapNameUptoSaid : Prop := fnExactTrapNameUptoRow.holds Try.pinned (OpenSpec.upto fnExactTrapNameSpec)

/-- 'laws.FnExactSyndrome', WHERE WHAT IT READS IS OF BULK AT MOST 1048576: true; the input reads as it did. -/
def fnExactSyndromeUptoRow : OpenClaim := { program := "ytoofkdlpjgokdaa", sum := "9c4ba9b6cb9a5538a8505b17c57181ba5382e0062ff90fc2792ba309673b6012", func := "loop.example/g00843/laws.FnExactSyndrome", spec := "fnExactSyndrome", apart := false, narrowed := true }
def FnExactSyndromeUptoSaid : Prop := fnExactSyndromeUptoRow.holds Try.pinned (OpenSpec.upto fnExactSyndromeSpec)

/-- 'laws.FnExactDeviceTrap', WHERE WHAT IT READS IS OF BULK AT MOST 1048576: true; the input reads as it did. -/
def fnExactDeviceTrapUptoRow : OpenClaim := { program := "ytoofkdlpjgokdaa", sum := "9c4ba9b6cb9a5538a8505b17c57181ba5382e0062ff90fc2792ba309673b6012", func := "loop.example/g00843/laws.FnExactDeviceTrap", spec := "fnExactDeviceTrap", apart := false, narrowed := true }
def FnExactDeviceTrapUptoSaid : Prop := fnExactDeviceTrapUptoRow.holds Try.pinned (OpenSpec.upto fnExactDeviceTrapSpec)

/-- 'laws.FnExactFaultTrap', WHERE WHAT IT READS IS OF BULK AT MOST 1048576: true; the input reads as it did. -/
def fnExactFaultTrapUptoRow : OpenClaim := { program := "ytoofkdlpjgokdaa", sum := "9c4ba9b6cb9a5538a8505b17c57181ba5382e0062ff90fc2792ba309673b6012", func := "loop.example/g00843/laws.FnExactFaultTrap", spec := "fnExactFaultTrap", apart := false, narrowed := true }
def FnExactFaultTrapUptoSaid : Prop := fnExactFaultTrapUptoRow.holds Try.pinned (OpenSpec.upto fnExactFaultTrapSpec)

/-- 'laws.FnExactTrapOf', WHERE WHAT IT READS IS OF BULK AT MOST 1048576: true; the input reads as it did. -/
def fnExactTrapOfUptoRow : OpenClaim := { program := "ytoofkdlpjgokdaa", sum := "9c4ba9b6cb9a5538a8505b17c57181ba5382e0062ff90fc2792ba309673b6012", func := "loop.example/g00843/laws.FnExactTrapOf", spec := "fnExactTrapOf", apart := false, narrowed := true }
def FnExactTrapOfUptoSaid : Prop := fnExactTrapOfUptoRow.holds Try.pinned (OpenSpec.upto fnExactTrapOfSpec)

/-- 'laws.FnExactStoredValue', WHERE WHAT IT READS IS OF BULK AT MOST 1048576: true; the input reads as it did. -/
def fnExactStoredValueUptoRow : OpenClaim := { program := "ytoofkdlpjgokdaa", sum := "9c4ba9b6cb9a5538a8505b17c57181ba5382e0062ff90fc2792ba309673b6012", func := "loop.example/g00843/laws.FnExactStoredValue", spec := "fnExactStoredValue", unfollowed := true, recurses := true, apart := false, narrowed := true }
def FnExactStoredValueUptoSaid : Prop := fnExactStoredValueUptoRow.holds Try.pinned (OpenSpec.upto fnExactStoredValueSpec)

/-- 'laws.FnExactLoadValue', WHERE WHAT IT READS IS OF BULK AT MOST 1048576: true; the input reads as it did. -/
def fnExactLoadValueUptoRow : OpenClaim := { program := "ytoofkdlpjgokdaa", sum := "9c4ba9b6cb9a5538a8505b17c57181ba5382e0062ff90fc2792ba309673b6012", func := "loop.example/g00843/laws.FnExactLoadValue", spec := "fnExactLoadValue", unfollowed := true, recurses := true, apart := false, narrowed := true }
def FnExactLoadValueUptoSaid : Prop := fnExactLoadValueUptoRow.holds Try.pinned (OpenSpec.upto fnExactLoadValueSpec)

/-- 'laws.FnExactCountCauses', WHERE WHAT IT READS IS OF BULK AT MOST 1048576: true; the input reads as it did. -/
def fnExactCountCausesUptoRow : OpenClaim := { program := "ytoofkdlpjgokdaa", sum := "9c4ba9b6cb9a5538a8505b17c57181ba5382e0062ff90fc2792ba309673b6012", func := "loop.example/g00843/laws.FnExactCountCauses", spec := "fnExactCountCauses", apart := false, narrowed := true }
def FnExactCountCausesUptoSaid : Prop := fnExactCountCausesUptoRow.holds Try.pinned (OpenSpec.upto fnExactCountCausesSpec)

/-- 'laws.FnTrapValues', WHERE WHAT IT READS IS OF BULK AT MOST 1048576: true; the input reads as it did. -/
def fnTrapValuesUptoRow : OpenClaim := { program := "ytoofkdlpjgokdaa", sum := "9c4ba9b6cb9a5538a8505b17c57181ba5382e0062ff90fc2792ba309673b6012", func := "loop.example/g00843/laws.FnTrapValues", spec := "fnTrapValues", unfollowed := true, recurses := true, apart := false, narrowed := true }
def FnTrapValuesUptoSaid : Prop := fnTrapValuesUptoRow.holds Try.pinned (OpenSpec.upto fnTrapValuesSpec)

/-- 'laws.FnTraps', WHERE WHAT IT READS IS OF BULK AT MOST 1048576: true; the input reads as it did. -/
def fnTrapsUptoRow : OpenClaim := { program := "ytoofkdlpjgokdaa", sum := "9c4ba9b6cb9a5538a8505b17c57181ba5382e0062ff90fc2792ba309673b6012", func := "loop.example/g00843/laws.FnTraps", spec := "fnTraps", apart := false, narrowed := true }
def FnTrapsUptoSaid : Prop := fnTrapsUptoRow.holds Try.pinned (OpenSpec.upto fnTrapsSpec)

end Rows
end Go.Proofs.Ytoofkdlpjgokdaa
