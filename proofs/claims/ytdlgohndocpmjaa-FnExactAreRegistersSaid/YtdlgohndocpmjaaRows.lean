/-
  No cell of these rows narrows 'for every input' (looked for: loops, veiled, ifaces, maps, wideKeys, modest, calm, conditions, laid).
  DERIVED. THE GIVEN ROWS OF THIS SEAT. 9 by the template 'for every input the law returns true; each argument reads behind the call as it read before'; 0 by the template 'total and deterministic' (their statements: YtdlgohndocpmjaaTotals.lean).
  GIVEN WITH THE SEED: the statements are not yours to turn. If you find one false, say at which input.
  Laid BY PROGRAM, IN A SANDBOX (cutbox-rows.mjs): the forced cells as the released guide's own fill.sh prints them over the translation 8331600db104fa94… (all of the seat's roots in one cut). By AI agents, Wed Nov 11 2026. No macro, syntax, notation, axiom, sorry.
-/
import Derived.Test.YtdlgohndocpmjaaChecked
import GoSem.Claim
import GoSem.ClaimJoined
import GoSem.ClaimMapViews
import Derived.JoinedTies
import Derived.KernelRfl
namespace Go.Proofs.Ytdlgohndocpmjaa
/- THE CELL 'sum', in the pinned program and in every row, IS THE sha256 OF THE DUMP (.gsa) THAT YtdlgohndocpmjaaProg.lean LOADS. Nothing in Lean hashes anything: it is a label: what it is worth is what the hold of that sum in a sandbox is worth. -/
noncomputable def Try.pinned : Pinned := { name := "ytdlgohndocpmjaa", sum := "8331600db104fa9402c8fb1bac15b9b406ec9b02cd2c5570d88ce053989f999c", checked := Try.checked }
namespace Rows
def none {H : Type} : Left H := { results := [], args := [] }

/-- 'laws.FnExactIsInstruction': WHATEVER THE INPUT: true; the input reads as it did. -/
def fnExactIsInstructionSpec : ChangeSpec := { name := "fnExactIsInstruction", fn := fun _ => fun
  | [d] => { results := [.lit (.bool true)], args := [d] }
  | _ => none }
def fnExactIsInstructionRow : OpenClaim := { program := "ytdlgohndocpmjaa", sum := "8331600db104fa9402c8fb1bac15b9b406ec9b02cd2c5570d88ce053989f999c", func := "loop.example/g00843/laws.FnExactIsInstruction", spec := "fnExactIsInstruction", apart := false }
def FnExactIsInstructionSaid : Prop := fnExactIsInstructionRow.holds Try.pinned (OpenSpec.ofChange fnExactIsInstructionSpec)

/-- ITS FALSE NEIGHBOUR: 'it returns false'. Refute it at one input. -/
def fnExactIsInstructionWrong : ChangeSpec := { name := "fnExactIsInstruction", fn := fun _ => fun
  | [d] => { results := [.lit (.bool false)], args := [d] }
  | _ => none }
def FnExactIsInstructionWrongFalsely : Prop := fnExactIsInstructionRow.holds Try.pinned (OpenSpec.ofChange fnExactIsInstructionWrong)

/-- 'laws.FnExactPackInstruction': WHATEVER THE INPUT: true; the input reads as it did. -/
def fnExactPackInstructionSpec : ChangeSpec := { name := "fnExactPackInstruction", fn := fun _ => fun
  | [d] => { results := [.lit (.bool true)], args := [d] }
  | _ => none }
def fnExactPackInstructionRow : OpenClaim := { program := "ytdlgohndocpmjaa", sum := "8331600db104fa9402c8fb1bac15b9b406ec9b02cd2c5570d88ce053989f999c", func := "loop.example/g00843/laws.FnExactPackInstruction", spec := "fnExactPackInstruction", apart := false }
def FnExactPackInstructionSaid : Prop := fnExactPackInstructionRow.holds Try.pinned (OpenSpec.ofChange fnExactPackInstructionSpec)

/-- ITS FALSE NEIGHBOUR: 'it returns false'. Refute it at one input. -/
def fnExactPackInstructionWrong : ChangeSpec := { name := "fnExactPackInstruction", fn := fun _ => fun
  | [d] => { results := [.lit (.bool false)], args := [d] }
  | _ => none }
def FnExactPackInstructionWrongFalsely : Prop := fnExactPackInstructionRow.holds Try.pinned (OpenSpec.ofChange fnExactPackInstructionWrong)

/-- 'laws.FnExactUnpackInstruction': WHATEVER THE INPUT: true; the input reads as it did. -/
def fnExactUnpackInstructionSpec : ChangeSpec := { name := "fnExactUnpackInstruction", fn := fun _ => fun
  | [d] => { results := [.lit (.bool true)], args := [d] }
  | _ => none }
def fnExactUnpackInstructionRow : OpenClaim := { program := "ytdlgohndocpmjaa", sum := "8331600db104fa9402c8fb1bac15b9b406ec9b02cd2c5570d88ce053989f999c", func := "loop.example/g00843/laws.FnExactUnpackInstruction", spec := "fnExactUnpackInstruction", apart := false }
def FnExactUnpackInstructionSaid : Prop := fnExactUnpackInstructionRow.holds Try.pinned (OpenSpec.ofChange fnExactUnpackInstructionSpec)

/-- ITS FALSE NEIGHBOUR: 'it returns false'. Refute it at one input. -/
def fnExactUnpackInstructionWrong : ChangeSpec := { name := "fnExactUnpackInstruction", fn := fun _ => fun
  | [d] => { results := [.lit (.bool false)], args := [d] }
  | _ => none }
def FnExactUnpackInstructionWrongFalsely : Prop := fnExactUnpackInstructionRow.holds Try.pinned (OpenSpec.ofChange fnExactUnpackInstructionWrong)

/-- 'laws.FnExactIsProgram': WHATEVER THE INPUT: true; the input reads as it did. -/
def fnExactIsProgramSpec : ChangeSpec := { name := "fnExactIsProgram", fn := fun _ => fun
  | [d] => { results := [.lit (.bool true)], args := [d] }
  | _ => none }
def fnExactIsProgramRow : OpenClaim := { program := "ytdlgohndocpmjaa", sum := "8331600db104fa9402c8fb1bac15b9b406ec9b02cd2c5570d88ce053989f999c", func := "loop.example/g00843/laws.FnExactIsProgram", spec := "fnExactIsProgram", unfollowed := true, recurses := true, apart := false }
def FnExactIsProgramSaid : Prop := fnExactIsProgramRow.holds Try.pinned (OpenSpec.ofChange fnExactIsProgramSpec)

/-- ITS FALSE NEIGHBOUR: 'it returns false'. Refute it at one input. -/
def fnExactIsProgramWrong : ChangeSpec := { name := "fnExactIsProgram", fn := fun _ => fun
  | [d] => { results := [.lit (.bool false)], args := [d] }
  | _ => none }
def FnExactIsProgramWrongFalsely : Prop := fnExactIsProgramRow.holds Try.pinned (OpenSpec.ofChange fnExactIsProgramWrong)

/-- 'laws.FnExactAreRegisters': WHATEVER THE INPUT: true; the input reads as it did. -/
def fnExactAreRegistersSpec : ChangeSpec := { name := "fnExactAreRegisters", fn := fun _ => fun
  | [d1, d2] => { results := [.lit (.bool true)], args := [d1, d2] }
  | _ => none }
def fnExactAreRegistersRow : OpenClaim := { program := "ytdlgohndocpmjaa", sum := "8331600db104fa9402c8fb1bac15b9b406ec9b02cd2c5570d88ce053989f999c", func := "loop.example/g00843/laws.FnExactAreRegisters", spec := "fnExactAreRegisters", unfollowed := true, recurses := true, apart := false }
def FnExactAreRegistersSaid : Prop := fnExactAreRegistersRow.holds Try.pinned (OpenSpec.ofChange fnExactAreRegistersSpec)

/-- ITS FALSE NEIGHBOUR: 'it returns false'. Refute it at one input. -/
def fnExactAreRegistersWrong : ChangeSpec := { name := "fnExactAreRegisters", fn := fun _ => fun
  | [d1, d2] => { results := [.lit (.bool false)], args := [d1, d2] }
  | _ => none }
def FnExactAreRegistersWrongFalsely : Prop := fnExactAreRegistersRow.holds Try.pinned (OpenSpec.ofChange fnExactAreRegistersWrong)

/-- 'laws.FnExactStepGuest': WHATEVER THE INPUT: true; the input reads as it did. -/
def fnExactStepGuestSpec : ChangeSpec := { name := "fnExactStepGuest", fn := fun _ => fun
  | [d1, d2] => { results := [.lit (.bool true)], args := [d1, d2] }
  | _ => none }
def fnExactStepGuestRow : OpenClaim := { program := "ytdlgohndocpmjaa", sum := "8331600db104fa9402c8fb1bac15b9b406ec9b02cd2c5570d88ce053989f999c", func := "loop.example/g00843/laws.FnExactStepGuest", spec := "fnExactStepGuest", unfollowed := true, recurses := true, apart := false }
def FnExactStepGuestSaid : Prop := fnExactStepGuestRow.holds Try.pinned (OpenSpec.ofChange fnExactStepGuestSpec)

/-- ITS FALSE NEIGHBOUR: 'it returns false'. Refute it at one input. -/
def fnExactStepGuestWrong : ChangeSpec := { name := "fnExactStepGuest", fn := fun _ => fun
  | [d1, d2] => { results := [.lit (.bool false)], args := [d1, d2] }
  | _ => none }
def FnExactStepGuestWrongFalsely : Prop := fnExactStepGuestRow.holds Try.pinned (OpenSpec.ofChange fnExactStepGuestWrong)

/-- 'laws.FnExactRunGuest': WHATEVER THE INPUT: true; the input reads as it did. -/
def fnExactRunGuestSpec : ChangeSpec := { name := "fnExactRunGuest", fn := fun _ => fun
  | [d1, d2, d3] => { results := [.lit (.bool true)], args := [d1, d2, d3] }
  | _ => none }
def fnExactRunGuestRow : OpenClaim := { program := "ytdlgohndocpmjaa", sum := "8331600db104fa9402c8fb1bac15b9b406ec9b02cd2c5570d88ce053989f999c", func := "loop.example/g00843/laws.FnExactRunGuest", spec := "fnExactRunGuest", unfollowed := true, recurses := true, apart := false }
def FnExactRunGuestSaid : Prop := fnExactRunGuestRow.holds Try.pinned (OpenSpec.ofChange fnExactRunGuestSpec)

/-- ITS FALSE NEIGHBOUR: 'it returns false'. Refute it at one input. -/
def fnExactRunGuestWrong : ChangeSpec := { name := "fnExactRunGuest", fn := fun _ => fun
  | [d1, d2, d3] => { results := [.lit (.bool false)], args := [d1, d2, d3] }
  | _ => none }
def FnExactRunGuestWrongFalsely : Prop := fnExactRunGuestRow.holds Try.pinned (OpenSpec.ofChange fnExactRunGuestWrong)

/-- 'laws.FnExactReachedBy': WHATEVER THE INPUT: true; the input reads as it did. -/
def fnExactReachedBySpec : ChangeSpec := { name := "fnExactReachedBy", fn := fun _ => fun
  | [d] => { results := [.lit (.bool true)], args := [d] }
  | _ => none }
def fnExactReachedByRow : OpenClaim := { program := "ytdlgohndocpmjaa", sum := "8331600db104fa9402c8fb1bac15b9b406ec9b02cd2c5570d88ce053989f999c", func := "loop.example/g00843/laws.FnExactReachedBy", spec := "fnExactReachedBy", unfollowed := true, recurses := true, apart := false }
def FnExactReachedBySaid : Prop := fnExactReachedByRow.holds Try.pinned (OpenSpec.ofChange fnExactReachedBySpec)

/-- ITS FALSE NEIGHBOUR: 'it returns false'. Refute it at one input. -/
def fnExactReachedByWrong : ChangeSpec := { name := "fnExactReachedBy", fn := fun _ => fun
  | [d] => { results := [.lit (.bool false)], args := [d] }
  | _ => none }
def FnExactReachedByWrongFalsely : Prop := fnExactReachedByRow.holds Try.pinned (OpenSpec.ofChange fnExactReachedByWrong)

/-- 'laws.FnGuestRuns': WHATEVER THE INPUT: true; the input reads as it did. -/
def fnGuestRunsSpec : ChangeSpec := { name := "fnGuestRuns", fn := fun _ => fun
  | [d] => { results := [.lit (.bool true)], args := [d] }
  | _ => none }
def fnGuestRunsRow : OpenClaim := { program := "ytdlgohndocpmjaa", sum := "8331600db104fa9402c8fb1bac15b9b406ec9b02cd2c5570d88ce053989f999c", func := "loop.example/g00843/laws.FnGuestRuns", spec := "fnGuestRuns", unfollowed := true, recurses := true, apart := false }
def FnGuestRunsSaid : Prop := fnGuestRunsRow.holds Try.pinned (OpenSpec.ofChange fnGuestRunsSpec)

/-- ITS FALSE NEIGHBOUR: 'it returns false'. Refute it at one input. -/
def fnGuestRunsWrong : ChangeSpec := { name := "fnGuestRuns", fn := fun _ => fun
  | [d] => { results := [.lit (.bool false)], args := [d] }
  | _ => none }
def FnGuestRunsWrongFalsely : Prop := fnGuestRunsRow.holds Try.pinned (OpenSpec.ofChange fnGuestRunsWrong)

/- THE SECOND FORM. 'bulk': how many values and letters a reading holds, each counted each time it is reached (what is shared counts as often as it is met; a slice's spare places count too). A statement '..UptoSaid' is the law's where the arguments, and the package variables that the reading takes, are together of bulk at most 1048576: NARROWER than '..Said'. Prove '..Said' where nothing that the law and all that it calls make is longer than what came in: it says more and counts as full. Else prove '..UptoSaid'. A law counts once. -/
mutual
def uptoBulk {H : Type} : DataW H → Nat
  | .lit (.string bytes) => bytes.length + 1
  | .lit _ => 1
  | .nil => 1
  | .ptr d => uptoBulk d + 1
  | .slice elems spare => uptoBulkAll elems + uptoBulkAll spare + 1
  | .agg parts => uptoBulkAll parts + 1
  | .iface _ d => uptoBulk d + 1
  | .map entries => uptoBulkEntries entries + 1
  | .held _ => 1
def uptoBulkAll {H : Type} : List (DataW H) → Nat
  | [] => 0
  | d :: r => uptoBulk d + uptoBulkAll r
def uptoBulkEntries {H : Type} : List (Lit × DataW H) → Nat
  | [] => 0
  | x :: r => uptoBulkEntry x + uptoBulkEntries r
def uptoBulkEntry {H : Type} : Lit × DataW H → Nat
  | (.string bytes, d) => bytes.length + uptoBulk d + 1
  | (_, d) => uptoBulk d + 1
 end
def uptoSmall : (H : Type) → List (DataW H) → Bool := fun _ ds => decide (uptoBulkAll ds ≤ 1048576)
def OpenSpec.upto (s : _root_.Go.ChangeSpec) : _root_.Go.OpenSpec := { _root_.Go.OpenSpec.ofChange s with cond := some uptoSmall }

/-- 'laws.FnExactIsInstruction', WHERE WHAT IT READS IS OF BULK AT MOST 1048576: true; the input reads as it did. -/
def fnExactIsInstructionUptoRow : OpenClaim := { program := "ytdlgohndocpmjaa", sum := "8331600db104fa9402c8fb1bac15b9b406ec9b02cd2c5570d88ce053989f999c", func := "loop.example/g00843/laws.FnExactIsInstruction", spec := "fnExactIsInstruction", apart := false, narrowed := true }
def FnExactIsInstructionUptoSaid : Prop := fnExactIsInstructionUptoRow.holds Try.pinned (OpenSpec.upto fnExactIsInstructionSpec)

/-- 'laws.FnExactPackInstruction', WHERE WHAT IT READS IS OF BULK AT MOST 1048576: true; the input reads as it did. -/
def fnExactPackInstructionUptoRow : OpenClaim := { program := "ytdlgohndocpmjaa", sum := "8331600db104fa9402c8fb1bac15b9b406ec9b02cd2c5570d88ce053989f999c", func := "loop.example/g00843/laws.FnExactPackInstruction", spec := "fnExactPackInstruction", apart := false, narrowed := true }
def FnExactPackInstructionUptoSaid : Prop := fnExactPackInstructionUptoRow.holds Try.pinned (OpenSpec.upto fnExactPackInstructionSpec)

/-- 'laws.FnExactUnpackInstruction', WHERE WHAT IT READS IS OF BULK AT MOST 1048576: true; the input reads as it did. -/
def fnExactUnpackInstructionUptoRow : OpenClaim := { program := "ytdlgohndocpmjaa", sum := "8331600db104fa9402c8fb1bac15b9b406ec9b02cd2c5570d88ce053989f999c", func := "loop.example/g00843/laws.FnExactUnpackInstruction", spec := "fnExactUnpackInstruction", apart := false, narrowed := true }
def FnExactUnpackInstructionUptoSaid : Prop := fnExactUnpackInstructionUptoRow.holds Try.pinned (OpenSpec.upto fnExactUnpackInstructionSpec)

/-- 'laws.FnExactIsProgram', WHERE WHAT IT READS IS OF BULK AT MOST 1048576: true; the input reads as it did. -/
def fnExactIsProgramUptoRow : OpenClaim := { program := "ytdlgohndocpmjaa", sum := "8331600db104fa9402c8fb1bac15b9b406ec9b02cd2c5570d88ce053989f999c", func := "loop.example/g00843/laws.FnExactIsProgram", spec := "fnExactIsProgram", unfollowed := true, recurses := true, apart := false, narrowed := true }
def FnExactIsProgramUptoSaid : Prop := fnExactIsProgramUptoRow.holds Try.pinned (OpenSpec.upto fnExactIsProgramSpec)

/-- 'laws.FnExactAreRegisters', WHERE WHAT IT READS IS OF BULK AT MOST 1048576: true; the input reads as it did. -/
def fnExactAreRegistersUptoRow : OpenClaim := { program := "ytdlgohndocpmjaa", sum := "8331600db104fa9402c8fb1bac15b9b406ec9b02cd2c5570d88ce053989f999c", func := "loop.example/g00843/laws.FnExactAreRegisters", spec := "fnExactAreRegisters", unfollowed := true, recurses := true, apart := false, narrowed := true }
def FnExactAreRegistersUptoSaid : Prop := fnExactAreRegistersUptoRow.holds Try.pinned (OpenSpec.upto fnExactAreRegistersSpec)

/-- 'laws.FnExactStepGuest', WHERE WHAT IT READS IS OF BULK AT MOST 1048576: true; the input reads as it did. -/
def fnExactStepGuestUptoRow : OpenClaim := { program := "ytdlgohndocpmjaa", sum := "8331600db104fa9402c8fb1bac15b9b406ec9b02cd2c5570d88ce053989f999c", func := "loop.example/g00843/laws.FnExactStepGuest", spec := "fnExactStepGuest", unfollowed := true, recurses := true, apart := false, narrowed := true }
def FnExactStepGuestUptoSaid : Prop := fnExactStepGuestUptoRow.holds Try.pinned (OpenSpec.upto fnExactStepGuestSpec)

/-- 'laws.FnExactRunGuest', WHERE WHAT IT READS IS OF BULK AT MOST 1048576: true; the input reads as it did. -/
def fnExactRunGuestUptoRow : OpenClaim := { program := "ytdlgohndocpmjaa", sum := "8331600db104fa9402c8fb1bac15b9b406ec9b02cd2c5570d88ce053989f999c", func := "loop.example/g00843/laws.FnExactRunGuest", spec := "fnExactRunGuest", unfollowed := true, recurses := true, apart := false, narrowed := true }
def FnExactRunGuestUptoSaid : Prop := fnExactRunGuestUptoRow.holds Try.pinned (OpenSpec.upto fnExactRunGuestSpec)

/-- 'laws.FnExactReachedBy', WHERE WHAT IT READS IS OF BULK AT MOST 1048576: true; the input reads as it did. -/
def fnExactReachedByUptoRow : OpenClaim := { program := "ytdlgohndocpmjaa", sum := "8331600db104fa9402c8fb1bac15b9b406ec9b02cd2c5570d88ce053989f999c", func := "loop.example/g00843/laws.FnExactReachedBy", spec := "fnExactReachedBy", unfollowed := true, recurses := true, apart := false, narrowed := true }
def FnExactReachedByUptoSaid : Prop := fnExactReachedByUptoRow.holds Try.pinned (OpenSpec.upto fnExactReachedBySpec)

/-- 'laws.FnGuestRuns', WHERE WHAT IT READS IS OF BULK AT MOST 1048576: true; the input reads as it did. -/
def fnGuestRunsUptoRow : OpenClaim := { program := "ytdlgohndocpmjaa", sum := "8331600db104fa9402c8fb1bac15b9b406ec9b02cd2c5570d88ce053989f999c", func := "loop.example/g00843/laws.FnGuestRuns", spec := "fnGuestRuns", unfollowed := true, recurses := true, apart := false, narrowed := true }
def FnGuestRunsUptoSaid : Prop := fnGuestRunsUptoRow.holds Try.pinned (OpenSpec.upto fnGuestRunsSpec)

end Rows
end Go.Proofs.Ytdlgohndocpmjaa
