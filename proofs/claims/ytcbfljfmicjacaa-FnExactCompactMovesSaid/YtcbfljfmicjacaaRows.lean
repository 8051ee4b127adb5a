/-
  No cell of these rows narrows 'for every input' (looked for: loops, veiled, ifaces, maps, wideKeys, modest, calm, conditions, laid).
  DERIVED. THE GIVEN ROWS OF THIS SEAT. 12 by the template 'for every input the law returns true; each argument reads behind the call as it read before'; 0 by the template 'total and deterministic' (their statements: YtcbfljfmicjacaaTotals.lean).
  GIVEN WITH THE SEED: the statements are not yours to turn. If you find one false, say at which input.
  Laid BY PROGRAM, IN A SANDBOX (cutbox-rows.mjs): the forced cells as the released guide's own fill.sh prints them over the translation cbd50feb294ba5a6… (all of the seat's roots in one cut). By AI agents, Wed Nov 11 2026. No macro, syntax, notation, axiom, sorry.
-/
import Derived.Test.YtcbfljfmicjacaaChecked
import GoSem.Claim
import GoSem.ClaimJoined
import GoSem.ClaimMapViews
import Derived.JoinedTies
import Derived.KernelRfl
namespace Go.Proofs.Ytcbfljfmicjacaa
/- THE CELL 'sum', in the pinned program and in every row, IS THE sha256 OF THE DUMP (.gsa) THAT YtcbfljfmicjacaaProg.lean LOADS. Nothing in Lean hashes anything: it is a label: what it is worth is what the hold of that sum in a sandbox is worth. -/
noncomputable def Try.pinned : Pinned := { name := "ytcbfljfmicjacaa", sum := "cbd50feb294ba5a6ea95c8f37f205287065bc4e931045e31319952c0ed07c6da", checked := Try.checked }
namespace Rows
def none {H : Type} : Left H := { results := [], args := [] }

/-- 'laws.FnExactAreOwners': WHATEVER THE INPUT: true; the input reads as it did. -/
def fnExactAreOwnersSpec : ChangeSpec := { name := "fnExactAreOwners", fn := fun _ => fun
  | [d] => { results := [.lit (.bool true)], args := [d] }
  | _ => none }
def fnExactAreOwnersRow : OpenClaim := { program := "ytcbfljfmicjacaa", sum := "cbd50feb294ba5a6ea95c8f37f205287065bc4e931045e31319952c0ed07c6da", func := "loop.example/g00843/laws.FnExactAreOwners", spec := "fnExactAreOwners", unfollowed := true, recurses := true, apart := false }
def FnExactAreOwnersSaid : Prop := fnExactAreOwnersRow.holds Try.pinned (OpenSpec.ofChange fnExactAreOwnersSpec)

/-- ITS FALSE NEIGHBOUR: 'it returns false'. Refute it at one input. -/
def fnExactAreOwnersWrong : ChangeSpec := { name := "fnExactAreOwners", fn := fun _ => fun
  | [d] => { results := [.lit (.bool false)], args := [d] }
  | _ => none }
def FnExactAreOwnersWrongFalsely : Prop := fnExactAreOwnersRow.holds Try.pinned (OpenSpec.ofChange fnExactAreOwnersWrong)

/-- 'laws.FnExactOwnersText': WHATEVER THE INPUT: true; the input reads as it did. -/
def fnExactOwnersTextSpec : ChangeSpec := { name := "fnExactOwnersText", fn := fun _ => fun
  | [d] => { results := [.lit (.bool true)], args := [d] }
  | _ => none }
def fnExactOwnersTextRow : OpenClaim := { program := "ytcbfljfmicjacaa", sum := "cbd50feb294ba5a6ea95c8f37f205287065bc4e931045e31319952c0ed07c6da", func := "loop.example/g00843/laws.FnExactOwnersText", spec := "fnExactOwnersText", unfollowed := true, recurses := true, apart := false }
def FnExactOwnersTextSaid : Prop := fnExactOwnersTextRow.holds Try.pinned (OpenSpec.ofChange fnExactOwnersTextSpec)

/-- ITS FALSE NEIGHBOUR: 'it returns false'. Refute it at one input. -/
def fnExactOwnersTextWrong : ChangeSpec := { name := "fnExactOwnersText", fn := fun _ => fun
  | [d] => { results := [.lit (.bool false)], args := [d] }
  | _ => none }
def FnExactOwnersTextWrongFalsely : Prop := fnExactOwnersTextRow.holds Try.pinned (OpenSpec.ofChange fnExactOwnersTextWrong)

/-- 'laws.FnExactLongestFree': WHATEVER THE INPUT: true; the input reads as it did. -/
def fnExactLongestFreeSpec : ChangeSpec := { name := "fnExactLongestFree", fn := fun _ => fun
  | [d] => { results := [.lit (.bool true)], args := [d] }
  | _ => none }
def fnExactLongestFreeRow : OpenClaim := { program := "ytcbfljfmicjacaa", sum := "cbd50feb294ba5a6ea95c8f37f205287065bc4e931045e31319952c0ed07c6da", func := "loop.example/g00843/laws.FnExactLongestFree", spec := "fnExactLongestFree", unfollowed := true, recurses := true, apart := false }
def FnExactLongestFreeSaid : Prop := fnExactLongestFreeRow.holds Try.pinned (OpenSpec.ofChange fnExactLongestFreeSpec)

/-- ITS FALSE NEIGHBOUR: 'it returns false'. Refute it at one input. -/
def fnExactLongestFreeWrong : ChangeSpec := { name := "fnExactLongestFree", fn := fun _ => fun
  | [d] => { results := [.lit (.bool false)], args := [d] }
  | _ => none }
def FnExactLongestFreeWrongFalsely : Prop := fnExactLongestFreeRow.holds Try.pinned (OpenSpec.ofChange fnExactLongestFreeWrong)

/-- 'laws.FnExactTakeFrame': WHATEVER THE INPUT: true; the input reads as it did. -/
def fnExactTakeFrameSpec : ChangeSpec := { name := "fnExactTakeFrame", fn := fun _ => fun
  | [d1, d2, d3] => { results := [.lit (.bool true)], args := [d1, d2, d3] }
  | _ => none }
def fnExactTakeFrameRow : OpenClaim := { program := "ytcbfljfmicjacaa", sum := "cbd50feb294ba5a6ea95c8f37f205287065bc4e931045e31319952c0ed07c6da", func := "loop.example/g00843/laws.FnExactTakeFrame", spec := "fnExactTakeFrame", unfollowed := true, recurses := true, apart := false }
def FnExactTakeFrameSaid : Prop := fnExactTakeFrameRow.holds Try.pinned (OpenSpec.ofChange fnExactTakeFrameSpec)

/-- ITS FALSE NEIGHBOUR: 'it returns false'. Refute it at one input. -/
def fnExactTakeFrameWrong : ChangeSpec := { name := "fnExactTakeFrame", fn := fun _ => fun
  | [d1, d2, d3] => { results := [.lit (.bool false)], args := [d1, d2, d3] }
  | _ => none }
def FnExactTakeFrameWrongFalsely : Prop := fnExactTakeFrameRow.holds Try.pinned (OpenSpec.ofChange fnExactTakeFrameWrong)

/-- 'laws.FnExactFramesOf': WHATEVER THE INPUT: true; the input reads as it did. -/
def fnExactFramesOfSpec : ChangeSpec := { name := "fnExactFramesOf", fn := fun _ => fun
  | [d1, d2] => { results := [.lit (.bool true)], args := [d1, d2] }
  | _ => none }
def fnExactFramesOfRow : OpenClaim := { program := "ytcbfljfmicjacaa", sum := "cbd50feb294ba5a6ea95c8f37f205287065bc4e931045e31319952c0ed07c6da", func := "loop.example/g00843/laws.FnExactFramesOf", spec := "fnExactFramesOf", unfollowed := true, recurses := true, apart := false }
def FnExactFramesOfSaid : Prop := fnExactFramesOfRow.holds Try.pinned (OpenSpec.ofChange fnExactFramesOfSpec)

/-- ITS FALSE NEIGHBOUR: 'it returns false'. Refute it at one input. -/
def fnExactFramesOfWrong : ChangeSpec := { name := "fnExactFramesOf", fn := fun _ => fun
  | [d1, d2] => { results := [.lit (.bool false)], args := [d1, d2] }
  | _ => none }
def FnExactFramesOfWrongFalsely : Prop := fnExactFramesOfRow.holds Try.pinned (OpenSpec.ofChange fnExactFramesOfWrong)

/-- 'laws.FnExactParseOwners': WHATEVER THE INPUT: true; the input reads as it did. -/
def fnExactParseOwnersSpec : ChangeSpec := { name := "fnExactParseOwners", fn := fun _ => fun
  | [d] => { results := [.lit (.bool true)], args := [d] }
  | _ => none }
def fnExactParseOwnersRow : OpenClaim := { program := "ytcbfljfmicjacaa", sum := "cbd50feb294ba5a6ea95c8f37f205287065bc4e931045e31319952c0ed07c6da", func := "loop.example/g00843/laws.FnExactParseOwners", spec := "fnExactParseOwners", unfollowed := true, recurses := true, apart := false }
def FnExactParseOwnersSaid : Prop := fnExactParseOwnersRow.holds Try.pinned (OpenSpec.ofChange fnExactParseOwnersSpec)

/-- ITS FALSE NEIGHBOUR: 'it returns false'. Refute it at one input. -/
def fnExactParseOwnersWrong : ChangeSpec := { name := "fnExactParseOwners", fn := fun _ => fun
  | [d] => { results := [.lit (.bool false)], args := [d] }
  | _ => none }
def FnExactParseOwnersWrongFalsely : Prop := fnExactParseOwnersRow.holds Try.pinned (OpenSpec.ofChange fnExactParseOwnersWrong)

/-- 'laws.FnExactFreeGuest': WHATEVER THE INPUT: true; the input reads as it did. -/
def fnExactFreeGuestSpec : ChangeSpec := { name := "fnExactFreeGuest", fn := fun _ => fun
  | [d1, d2] => { results := [.lit (.bool true)], args := [d1, d2] }
  | _ => none }
def fnExactFreeGuestRow : OpenClaim := { program := "ytcbfljfmicjacaa", sum := "cbd50feb294ba5a6ea95c8f37f205287065bc4e931045e31319952c0ed07c6da", func := "loop.example/g00843/laws.FnExactFreeGuest", spec := "fnExactFreeGuest", unfollowed := true, recurses := true, apart := false }
def FnExactFreeGuestSaid : Prop := fnExactFreeGuestRow.holds Try.pinned (OpenSpec.ofChange fnExactFreeGuestSpec)

/-- ITS FALSE NEIGHBOUR: 'it returns false'. Refute it at one input. -/
def fnExactFreeGuestWrong : ChangeSpec := { name := "fnExactFreeGuest", fn := fun _ => fun
  | [d1, d2] => { results := [.lit (.bool false)], args := [d1, d2] }
  | _ => none }
def FnExactFreeGuestWrongFalsely : Prop := fnExactFreeGuestRow.holds Try.pinned (OpenSpec.ofChange fnExactFreeGuestWrong)

/-- 'laws.FnExactGrantFrames': WHATEVER THE INPUT: true; the input reads as it did. -/
def fnExactGrantFramesSpec : ChangeSpec := { name := "fnExactGrantFrames", fn := fun _ => fun
  | [d1, d2, d3] => { results := [.lit (.bool true)], args := [d1, d2, d3] }
  | _ => none }
def fnExactGrantFramesRow : OpenClaim := { program := "ytcbfljfmicjacaa", sum := "cbd50feb294ba5a6ea95c8f37f205287065bc4e931045e31319952c0ed07c6da", func := "loop.example/g00843/laws.FnExactGrantFrames", spec := "fnExactGrantFrames", unfollowed := true, recurses := true, apart := false }
def FnExactGrantFramesSaid : Prop := fnExactGrantFramesRow.holds Try.pinned (OpenSpec.ofChange fnExactGrantFramesSpec)

/-- ITS FALSE NEIGHBOUR: 'it returns false'. Refute it at one input. -/
def fnExactGrantFramesWrong : ChangeSpec := { name := "fnExactGrantFrames", fn := fun _ => fun
  | [d1, d2, d3] => { results := [.lit (.bool false)], args := [d1, d2, d3] }
  | _ => none }
def FnExactGrantFramesWrongFalsely : Prop := fnExactGrantFramesRow.holds Try.pinned (OpenSpec.ofChange fnExactGrantFramesWrong)

/-- 'laws.FnExactGrantRun': WHATEVER THE INPUT: true; the input reads as it did. -/
def fnExactGrantRunSpec : ChangeSpec := { name := "fnExactGrantRun", fn := fun _ => fun
  | [d1, d2, d3] => { results := [.lit (.bool true)], args := [d1, d2, d3] }
  | _ => none }
def fnExactGrantRunRow : OpenClaim := { program := "ytcbfljfmicjacaa", sum := "cbd50feb294ba5a6ea95c8f37f205287065bc4e931045e31319952c0ed07c6da", func := "loop.example/g00843/laws.FnExactGrantRun", spec := "fnExactGrantRun", unfollowed := true, recurses := true, apart := false }
def FnExactGrantRunSaid : Prop := fnExactGrantRunRow.holds Try.pinned (OpenSpec.ofChange fnExactGrantRunSpec)

/-- ITS FALSE NEIGHBOUR: 'it returns false'. Refute it at one input. -/
def fnExactGrantRunWrong : ChangeSpec := { name := "fnExactGrantRun", fn := fun _ => fun
  | [d1, d2, d3] => { results := [.lit (.bool false)], args := [d1, d2, d3] }
  | _ => none }
def FnExactGrantRunWrongFalsely : Prop := fnExactGrantRunRow.holds Try.pinned (OpenSpec.ofChange fnExactGrantRunWrong)

/-- 'laws.FnExactCompactMoves': WHATEVER THE INPUT: true; the input reads as it did. -/
def fnExactCompactMovesSpec : ChangeSpec := { name := "fnExactCompactMoves", fn := fun _ => fun
  | [d] => { results := [.lit (.bool true)], args := [d] }
  | _ => none }
def fnExactCompactMovesRow : OpenClaim := { program := "ytcbfljfmicjacaa", sum := "cbd50feb294ba5a6ea95c8f37f205287065bc4e931045e31319952c0ed07c6da", func := "loop.example/g00843/laws.FnExactCompactMoves", spec := "fnExactCompactMoves", unfollowed := true, recurses := true, apart := false }
def FnExactCompactMovesSaid : Prop := fnExactCompactMovesRow.holds Try.pinned (OpenSpec.ofChange fnExactCompactMovesSpec)

/-- ITS FALSE NEIGHBOUR: 'it returns false'. Refute it at one input. -/
def fnExactCompactMovesWrong : ChangeSpec := { name := "fnExactCompactMoves", fn := fun _ => fun
  | [d] => { results := [.lit (.bool false)], args := [d] }
  | _ => none }
def FnExactCompactMovesWrongFalsely : Prop := fnExactCompactMovesRow.holds Try.pinned (OpenSpec.ofChange fnExactCompactMovesWrong)

/-- 'laws.FnFrames': WHATEVER THE INPUT: true; the input reads as it did. -/
def fnFramesSpec : ChangeSpec := { name := "fnFrames", fn := fun _ => fun
  | [d] => { results := [.lit (.bool true)], args := [d] }
  | _ => none }
def fnFramesRow : OpenClaim := { program := "ytcbfljfmicjacaa", sum := "cbd50feb294ba5a6ea95c8f37f205287065bc4e931045e31319952c0ed07c6da", func := "loop.example/g00843/laws.FnFrames", spec := "fnFrames", unfollowed := true, recurses := true, apart := false }
def FnFramesSaid : Prop := fnFramesRow.holds Try.pinned (OpenSpec.ofChange fnFramesSpec)

/-- ITS FALSE NEIGHBOUR: 'it returns false'. Refute it at one input. -/
def fnFramesWrong : ChangeSpec := { name := "fnFrames", fn := fun _ => fun
  | [d] => { results := [.lit (.bool false)], args := [d] }
  | _ => none }
def FnFramesWrongFalsely : Prop := fnFramesRow.holds Try.pinned (OpenSpec.ofChange fnFramesWrong)

/-- 'laws.FnRuns': WHATEVER THE INPUT: true; the input reads as it did. -/
def fnRunsSpec : ChangeSpec := { name := "fnRuns", fn := fun _ => fun
  | [d] => { results := [.lit (.bool true)], args := [d] }
  | _ => none }
def fnRunsRow : OpenClaim := { program := "ytcbfljfmicjacaa", sum := "cbd50feb294ba5a6ea95c8f37f205287065bc4e931045e31319952c0ed07c6da", func := "loop.example/g00843/laws.FnRuns", spec := "fnRuns", unfollowed := true, recurses := true, apart := false }
def FnRunsSaid : Prop := fnRunsRow.holds Try.pinned (OpenSpec.ofChange fnRunsSpec)

/-- ITS FALSE NEIGHBOUR: 'it returns false'. Refute it at one input. -/
def fnRunsWrong : ChangeSpec := { name := "fnRuns", fn := fun _ => fun
  | [d] => { results := [.lit (.bool false)], args := [d] }
  | _ => none }
def FnRunsWrongFalsely : Prop := fnRunsRow.holds Try.pinned (OpenSpec.ofChange fnRunsWrong)

/- THE SECOND FORM. 'bulk': how many values and letters a reading holds, each counted each time it is reached (what is shared counts as often as it is met; a slice's spare places count too). A statement '..UptoSaid' is the law's where the arguments, and the package variables that the reading takes, are together of bulk at most 1048576: NARROWER than '..Said'. Prove '..Said' where nothing that the law and all that it calls make is longer than what came in: it says more and counts as full. Else prove '..UptoSaid'. A law counts once. -/
mutual
def uptoBulk {H : Type} : DataW H → Nat
  | .lit (.string bytes) => bytes.length + 1
  | .lit _ => 1
  | .nil => 1
  | .ptr d => uptoBulk d + 1
  | .slice elems spare => uptoBulkAll elems + uptoBulkAll spare + 1
  | .agg parts => uptoBulkAll parts + 1
  | .iface _ d => uptoBulk d + 1
  | .map entries => uptoBulkEntries entries + 1
  | .held _ => 1
def uptoBulkAll {H : Type} : List (DataW H) → Nat
  | [] => 0
  | d :: r => uptoBulk d + uptoBulkAll r
def uptoBulkEntries {H : Type} : List (Lit × DataW H) → Nat
  | [] => 0
  | x :: r => uptoBulkEntry x + uptoBulkEntries r
def uptoBulkEntry {H : Type} : Lit × DataW H → Nat
  | (.string bytes, d) => bytes.length + uptoBulk d + 1
  | (_, d) => uptoBulk d + 1
 end
def uptoSmall : (H : Type) → List (DataW H) → Bool := fun _ ds => decide (uptoBulkAll ds ≤ 1048576)
def OpenSpec.upto (s : _root_.Go.ChangeSpec) : _root_.Go.OpenSpec := { _root_.Go.OpenSpec.ofChange s with cond := some uptoSmall }

/-- 'laws.FnExactAreOwners', WHERE WHAT IT READS IS OF BULK AT MOST 1048576: true; the input reads as it did. -/
def fnExactAreOwnersUptoRow : OpenClaim := { program := "ytcbfljfmicjacaa", sum := "cbd50feb294ba5a6ea95c8f37f205287065bc4e931045e31319952c0ed07c6da", func := "loop.example/g00843/laws.FnExactAreOwners", spec := "fnExactAreOwners", unfollowed := true, recurses := true, apart := false, narrowed := true }
def FnExactAreOwnersUptoSaid : Prop := fnExactAreOwnersUptoRow.holds Try.pinned (OpenSpec.upto fnExactAreOwnersSpec)

/-- 'laws.FnExactOwnersText', WHERE WHAT IT READS IS OF BULK AT MOST 1048576: true; the input reads as it did. -/
def fnExactOwnersTextUptoRow : OpenClaim := { program := "ytcbfljfmicjacaa", sum := "cbd50feb294ba5a6ea95c8f37f205287065bc4e931045e31319952c0ed07c6da", func := "loop.example/g00843/laws.FnExactOwnersText", spec := "fnExactOwnersText", unfollowed := true, recurses := true, apart := false, narrowed := true }
def FnExactOwnersTextUptoSaid : Prop := fnExactOwnersTextUptoRow.holds Try.pinned (OpenSpec.upto fnExactOwnersTextSpec)

/-- 'laws.FnExactLongestFree', WHERE WHAT IT READS IS OF BULK AT MOST 1048576: true; the input reads as it did. -/
def fnExactLongestFreeUptoRow : OpenClaim := { program := "ytcbfljfmicjacaa", sum := "cbd50feb294ba5a6ea95c8f37f205287065bc4e931045e31319952c0ed07c6da", func := "loop.example/g00843/laws.FnExactLongestFree", spec := "fnExactLongestFree", unfollowed := true, recurses := true, apart := false, narrowed := true }
def FnExactLongestFreeUptoSaid : Prop := fnExactLongestFreeUptoRow.holds Try.pinned (OpenSpec.upto fnExactLongestFreeSpec)

/-- 'laws.FnExactTakeFrame', WHERE WHAT IT READS IS OF BULK AT MOST 1048576: true; the input reads as it did. -/
def fnExactTakeFrameUptoRow : OpenClaim := { program := "ytcbfljfmicjacaa", sum := "cbd50feb294ba5a6ea95c8f37f205287065bc4e931045e31319952c0ed07c6da", func := "loop.example/g00843/laws.FnExactTakeFrame", spec := "fnExactTakeFrame", unfollowed := true, recurses := true, apart := false, narrowed := true }
def FnExactTakeFrameUptoSaid : Prop := fnExactTakeFrameUptoRow.holds Try.pinned (OpenSpec.upto fnExactTakeFrameSpec)

/-- 'laws.FnExactFramesOf', WHERE WHAT IT READS IS OF BULK AT MOST 1048576: true; the input reads as it did. -/
def fnExactFramesOfUptoRow : OpenClaim := { program := "ytcbfljfmicjacaa", sum := "cbd50feb294ba5a6ea95c8f37f205287065bc4e931045e31319952c0ed07c6da", func := "loop.example/g00843/laws.FnExactFramesOf", spec := "fnExactFramesOf", unfollowed := true, recurses := true, apart := false, narrowed := true }
def FnExactFramesOfUptoSaid : Prop := fnExactFramesOfUptoRow.holds Try.pinned (OpenSpec.upto fnExactFramesOfSpec)

/-- 'laws.FnExactParseOwners', WHERE WHAT IT READS IS OF BULK AT MOST 1048576: true; the input reads as it did. -/
def fnExactParseOwnersUptoRow : OpenClaim := { program := "ytcbfljfmicjacaa", sum := "cbd50feb294ba5a6ea95c8f37f205287065bc4e931045e31319952c0ed07c6da", func := "loop.example/g00843/laws.FnExactParseOwners", spec := "fnExactParseOwners", unfollowed := true, recurses := true, apart := false, narrowed := true }
def FnExactParseOwnersUptoSaid : Prop := fnExactParseOwnersUptoRow.holds Try.pinned (OpenSpec.upto fnExactParseOwnersSpec)

/-- 'laws.FnExactFreeGuest', WHERE WHAT IT READS IS OF BULK AT MOST 1048576: true; the input reads as it did. -/
def fnExactFreeGuestUptoRow : OpenClaim := { program := "ytcbfljfmicjacaa", sum := "cbd50feb294ba5a6ea95c8f37f205287065bc4e931045e31319952c0ed07c6da", func := "loop.example/g00843/laws.FnExactFreeGuest", spec := "fnExactFreeGuest", unfollowed := true, recurses := true, apart := false, narrowed := true }
def FnExactFreeGuestUptoSaid : Prop := fnExactFreeGuestUptoRow.holds Try.pinned (OpenSpec.upto fnExactFreeGuestSpec)

/-- 'laws.FnExactGrantFrames', WHERE WHAT IT READS IS OF BULK AT MOST 1048576: true; the input reads as it did. -/
def fnExactGrantFramesUptoRow : OpenClaim := { program := "ytcbfljfmicjacaa", sum := "cbd50feb294ba5a6ea95c8f37f205287065bc4e931045e31319952c0ed07c6da", func := "loop.example/g00843/laws.FnExactGrantFrames", spec := "fnExactGrantFrames", unfollowed := true, recurses := true, apart := false, narrowed := true }
def FnExactGrantFramesUptoSaid : Prop := fnExactGrantFramesUptoRow.holds Try.pinned (OpenSpec.upto fnExactGrantFramesSpec)

/-- 'laws.FnExactGrantRun', WHERE WHAT IT READS IS OF BULK AT MOST 1048576: true; the input reads as it did. -/
def fnExactGrantRunUptoRow : OpenClaim := { program := "ytcbfljfmicjacaa", sum := "cbd50feb294ba5a6ea95c8f37f205287065bc4e931045e31319952c0ed07c6da", func := "loop.example/g00843/laws.FnExactGrantRun", spec := "fnExactGrantRun", unfollowed := true, recurses := true, apart := false, narrowed := true }
def FnExactGrantRunUptoSaid : Prop := fnExactGrantRunUptoRow.holds Try.pinned (OpenSpec.upto fnExactGrantRunSpec)

/-- 'laws.FnExactCompactMoves', WHERE WHAT IT READS IS OF BULK AT MOST 1048576: true; the input reads as it did. -/
def fnExactCompactMovesUptoRow : OpenClaim := { program := "ytcbfljfmicjacaa", sum := "cbd50feb294ba5a6ea95c8f37f205287065bc4e931045e31319952c0ed07c6da", func := "loop.example/g00843/laws.FnExactCompactMoves", spec := "fnExactCompactMoves", unfollowed := true, recurses := true, apart := false, narrowed := true }
def FnExactCompactMovesUptoSaid : Prop := fnExactCompactMovesUptoRow.holds Try.pinned (OpenSpec.upto fnExactCompactMovesSpec)

/-- 'laws.FnFrames', WHERE WHAT IT READS IS OF BULK AT MOST 1048576: true; the input reads as it did. -/
def fnFramesUptoRow : OpenClaim := { program := "ytcbfljfmicjacaa", sum := "cbd50feb294ba5a6ea95c8f37f205287065bc4e931045e31319952c0ed07c6da", func := "loop.example/g00843/laws.FnFrames", spec := "fnFrames", unfollowed := true, recurses := true, apart := false, narrowed := true }
def FnFramesUptoSaid : Prop := fnFramesUptoRow.holds Try.pinned (OpenSpec.upto fnFramesSpec)

/-- 'laws.FnRuns', WHERE WHAT IT READS IS OF BULK AT MOST 1048576: true; the input reads as it did. -/
def fnRunsUptoRow : OpenClaim := { program := "ytcbfljfmicjacaa", sum := "cbd50feb294ba5a6ea95c8f37f205287065bc4e931045e31319952c0ed07c6da", func := "loop.example/g00843/laws.FnRuns", spec := "fnRuns", unfollowed := true, recurses := true, apart := false, narrowed := true }
def FnRunsUptoSaid : Prop := fnRunsUptoRow.holds Try.pinned (OpenSpec.upto fnRunsSpec)

end Rows
end Go.Proofs.Ytcbfljfmicjacaa
