/-
  No cell of these rows narrows 'for every input' (looked for: loops, veiled, ifaces, maps, wideKeys, modest, calm, conditions, laid).
  DERIVED. THE GIVEN ROWS OF THIS SEAT. 12 by the template 'for every input the law returns true; each argument reads behind the call as it read before'; 0 by the template 'total and deterministic' (their statements: YtkgpdiajnjekcaaTotals.lean).
  GIVEN WITH THE SEED: the statements are not yours to turn. If you find one false, say at which input.
  Laid BY PROGRAM, IN A SANDBOX (cutbox-rows.mjs): the forced cells as the released guide's own fill.sh prints them over the translation 33eb0715226f22d0… (all of the seat's roots in one cut). By AI agents, Wed Nov 11 2026. No macro, syntax, notation, axiom, sorry.
-/
import Derived.Test.YtkgpdiajnjekcaaChecked
import GoSem.Claim
import GoSem.ClaimJoined
import GoSem.ClaimMapViews
import Derived.JoinedTies
import Derived.KernelRfl
namespace Go.Proofs.Ytkgpdiajnjekcaa
/- THE CELL 'sum', in the pinned program and in every row, IS THE sha256 OF THE DUMP (.gsa) THAT YtkgpdiajnjekcaaProg.lean LOADS. Nothing in Lean hashes anything: it is a label: what it is worth is what the hold of that sum in a sandbox is worth. -/
noncomputable def Try.pinned : Pinned := { name := "ytkgpdiajnjekcaa", sum := "33eb0715226f22d0d11a4b1825fe7f1613a749803e8bc031a2575a0c0b8c10f8", checked := Try.checked }
namespace Rows
def none {H : Type} : Left H := { results := [], args := [] }

/-- 'laws.FnTables': WHATEVER THE INPUT: true; the input reads as it did. -/
def fnTablesSpec : ChangeSpec := { name := "fnTables", fn := fun _ => fun
  | [d] => { results := [.lit (.bool true)], args := [d] }
  | _ => none }
def fnTablesRow : OpenClaim := { program := "ytkgpdiajnjekcaa", sum := "33eb0715226f22d0d11a4b1825fe7f1613a749803e8bc031a2575a0c0b8c10f8", func := "loop.example/g00843/laws.FnTables", spec := "fnTables", unfollowed := true, recurses := true, apart := false }
def FnTablesSaid : Prop := fnTablesRow.holds Try.pinned (OpenSpec.ofChange fnTablesSpec)

/-- ITS FALSE NEIGHBOUR: 'it returns false'. Refute it at one input. -/
def fnTablesWrong : ChangeSpec := { name := "fnTables", fn := fun _ => fun
  | [d] => { results := [.lit (.bool false)], args := [d] }
  | _ => none }
def FnTablesWrongFalsely : Prop := fnTablesRow.holds Try.pinned (OpenSpec.ofChange fnTablesWrong)

/-- 'laws.FnExactIsTable': WHATEVER THE INPUT: true; the input reads as it did. -/
def fnExactIsTableSpec : ChangeSpec := { name := "fnExactIsTable", fn := fun _ => fun
  | [d] => { results := [.lit (.bool true)], args := [d] }
  | _ => none }
def fnExactIsTableRow : OpenClaim := { program := "ytkgpdiajnjekcaa", sum := "33eb0715226f22d0d11a4b1825fe7f1613a749803e8bc031a2575a0c0b8c10f8", func := "loop.example/g00843/laws.FnExactIsTable", spec := "fnExactIsTable", unfollowed := true, recurses := true, apart := false }
def FnExactIsTableSaid : Prop := fnExactIsTableRow.holds Try.pinned (OpenSpec.ofChange fnExactIsTableSpec)

/-- ITS FALSE NEIGHBOUR: 'it returns false'. Refute it at one input. -/
def fnExactIsTableWrong : ChangeSpec := { name := "fnExactIsTable", fn := fun _ => fun
  | [d] => { results := [.lit (.bool false)], args := [d] }
  | _ => none }
def FnExactIsTableWrongFalsely : Prop := fnExactIsTableRow.holds Try.pinned (OpenSpec.ofChange fnExactIsTableWrong)

/-- 'laws.FnExactTranslate': WHATEVER THE INPUT: true; the input reads as it did. -/
def fnExactTranslateSpec : ChangeSpec := { name := "fnExactTranslate", fn := fun _ => fun
  | [d1, d2, d3] => { results := [.lit (.bool true)], args := [d1, d2, d3] }
  | _ => none }
def fnExactTranslateRow : OpenClaim := { program := "ytkgpdiajnjekcaa", sum := "33eb0715226f22d0d11a4b1825fe7f1613a749803e8bc031a2575a0c0b8c10f8", func := "loop.example/g00843/laws.FnExactTranslate", spec := "fnExactTranslate", unfollowed := true, recurses := true, apart := false }
def FnExactTranslateSaid : Prop := fnExactTranslateRow.holds Try.pinned (OpenSpec.ofChange fnExactTranslateSpec)

/-- ITS FALSE NEIGHBOUR: 'it returns false'. Refute it at one input. -/
def fnExactTranslateWrong : ChangeSpec := { name := "fnExactTranslate", fn := fun _ => fun
  | [d1, d2, d3] => { results := [.lit (.bool false)], args := [d1, d2, d3] }
  | _ => none }
def FnExactTranslateWrongFalsely : Prop := fnExactTranslateRow.holds Try.pinned (OpenSpec.ofChange fnExactTranslateWrong)

/-- 'laws.FnExactTableOf': WHATEVER THE INPUT: true; the input reads as it did. -/
def fnExactTableOfSpec : ChangeSpec := { name := "fnExactTableOf", fn := fun _ => fun
  | [d1, d2] => { results := [.lit (.bool true)], args := [d1, d2] }
  | _ => none }
def fnExactTableOfRow : OpenClaim := { program := "ytkgpdiajnjekcaa", sum := "33eb0715226f22d0d11a4b1825fe7f1613a749803e8bc031a2575a0c0b8c10f8", func := "loop.example/g00843/laws.FnExactTableOf", spec := "fnExactTableOf", apart := false }
def FnExactTableOfSaid : Prop := fnExactTableOfRow.holds Try.pinned (OpenSpec.ofChange fnExactTableOfSpec)

/-- ITS FALSE NEIGHBOUR: 'it returns false'. Refute it at one input. -/
def fnExactTableOfWrong : ChangeSpec := { name := "fnExactTableOf", fn := fun _ => fun
  | [d1, d2] => { results := [.lit (.bool false)], args := [d1, d2] }
  | _ => none }
def FnExactTableOfWrongFalsely : Prop := fnExactTableOfRow.holds Try.pinned (OpenSpec.ofChange fnExactTableOfWrong)

/-- 'laws.FnExactIsWithin': WHATEVER THE INPUT: true; the input reads as it did. -/
def fnExactIsWithinSpec : ChangeSpec := { name := "fnExactIsWithin", fn := fun _ => fun
  | [d1, d2, d3] => { results := [.lit (.bool true)], args := [d1, d2, d3] }
  | _ => none }
def fnExactIsWithinRow : OpenClaim := { program := "ytkgpdiajnjekcaa", sum := "33eb0715226f22d0d11a4b1825fe7f1613a749803e8bc031a2575a0c0b8c10f8", func := "loop.example/g00843/laws.FnExactIsWithin", spec := "fnExactIsWithin", unfollowed := true, recurses := true, apart := false }
def FnExactIsWithinSaid : Prop := fnExactIsWithinRow.holds Try.pinned (OpenSpec.ofChange fnExactIsWithinSpec)

/-- ITS FALSE NEIGHBOUR: 'it returns false'. Refute it at one input. -/
def fnExactIsWithinWrong : ChangeSpec := { name := "fnExactIsWithin", fn := fun _ => fun
  | [d1, d2, d3] => { results := [.lit (.bool false)], args := [d1, d2, d3] }
  | _ => none }
def FnExactIsWithinWrongFalsely : Prop := fnExactIsWithinRow.holds Try.pinned (OpenSpec.ofChange fnExactIsWithinWrong)

/-- 'laws.FnExactPagesOn': WHATEVER THE INPUT: true; the input reads as it did. -/
def fnExactPagesOnSpec : ChangeSpec := { name := "fnExactPagesOn", fn := fun _ => fun
  | [d1, d2] => { results := [.lit (.bool true)], args := [d1, d2] }
  | _ => none }
def fnExactPagesOnRow : OpenClaim := { program := "ytkgpdiajnjekcaa", sum := "33eb0715226f22d0d11a4b1825fe7f1613a749803e8bc031a2575a0c0b8c10f8", func := "loop.example/g00843/laws.FnExactPagesOn", spec := "fnExactPagesOn", unfollowed := true, recurses := true, apart := false }
def FnExactPagesOnSaid : Prop := fnExactPagesOnRow.holds Try.pinned (OpenSpec.ofChange fnExactPagesOnSpec)

/-- ITS FALSE NEIGHBOUR: 'it returns false'. Refute it at one input. -/
def fnExactPagesOnWrong : ChangeSpec := { name := "fnExactPagesOn", fn := fun _ => fun
  | [d1, d2] => { results := [.lit (.bool false)], args := [d1, d2] }
  | _ => none }
def FnExactPagesOnWrongFalsely : Prop := fnExactPagesOnRow.holds Try.pinned (OpenSpec.ofChange fnExactPagesOnWrong)

/-- 'laws.FnExactMappedPages': WHATEVER THE INPUT: true; the input reads as it did. -/
def fnExactMappedPagesSpec : ChangeSpec := { name := "fnExactMappedPages", fn := fun _ => fun
  | [d] => { results := [.lit (.bool true)], args := [d] }
  | _ => none }
def fnExactMappedPagesRow : OpenClaim := { program := "ytkgpdiajnjekcaa", sum := "33eb0715226f22d0d11a4b1825fe7f1613a749803e8bc031a2575a0c0b8c10f8", func := "loop.example/g00843/laws.FnExactMappedPages", spec := "fnExactMappedPages", unfollowed := true, recurses := true, apart := false }
def FnExactMappedPagesSaid : Prop := fnExactMappedPagesRow.holds Try.pinned (OpenSpec.ofChange fnExactMappedPagesSpec)

/-- ITS FALSE NEIGHBOUR: 'it returns false'. Refute it at one input. -/
def fnExactMappedPagesWrong : ChangeSpec := { name := "fnExactMappedPages", fn := fun _ => fun
  | [d] => { results := [.lit (.bool false)], args := [d] }
  | _ => none }
def FnExactMappedPagesWrongFalsely : Prop := fnExactMappedPagesRow.holds Try.pinned (OpenSpec.ofChange fnExactMappedPagesWrong)

/-- 'laws.FnExactProtectPage': WHATEVER THE INPUT: true; the input reads as it did. -/
def fnExactProtectPageSpec : ChangeSpec := { name := "fnExactProtectPage", fn := fun _ => fun
  | [d1, d2, d3] => { results := [.lit (.bool true)], args := [d1, d2, d3] }
  | _ => none }
def fnExactProtectPageRow : OpenClaim := { program := "ytkgpdiajnjekcaa", sum := "33eb0715226f22d0d11a4b1825fe7f1613a749803e8bc031a2575a0c0b8c10f8", func := "loop.example/g00843/laws.FnExactProtectPage", spec := "fnExactProtectPage", unfollowed := true, recurses := true, apart := false }
def FnExactProtectPageSaid : Prop := fnExactProtectPageRow.holds Try.pinned (OpenSpec.ofChange fnExactProtectPageSpec)

/-- ITS FALSE NEIGHBOUR: 'it returns false'. Refute it at one input. -/
def fnExactProtectPageWrong : ChangeSpec := { name := "fnExactProtectPage", fn := fun _ => fun
  | [d1, d2, d3] => { results := [.lit (.bool false)], args := [d1, d2, d3] }
  | _ => none }
def FnExactProtectPageWrongFalsely : Prop := fnExactProtectPageRow.holds Try.pinned (OpenSpec.ofChange fnExactProtectPageWrong)

/-- 'laws.FnExactMapPage': WHATEVER THE INPUT: true; the input reads as it did. -/
def fnExactMapPageSpec : ChangeSpec := { name := "fnExactMapPage", fn := fun _ => fun
  | [d1, d2, d3, d4] => { results := [.lit (.bool true)], args := [d1, d2, d3, d4] }
  | _ => none }
def fnExactMapPageRow : OpenClaim := { program := "ytkgpdiajnjekcaa", sum := "33eb0715226f22d0d11a4b1825fe7f1613a749803e8bc031a2575a0c0b8c10f8", func := "loop.example/g00843/laws.FnExactMapPage", spec := "fnExactMapPage", unfollowed := true, recurses := true, apart := false }
def FnExactMapPageSaid : Prop := fnExactMapPageRow.holds Try.pinned (OpenSpec.ofChange fnExactMapPageSpec)

/-- ITS FALSE NEIGHBOUR: 'it returns false'. Refute it at one input. -/
def fnExactMapPageWrong : ChangeSpec := { name := "fnExactMapPage", fn := fun _ => fun
  | [d1, d2, d3, d4] => { results := [.lit (.bool false)], args := [d1, d2, d3, d4] }
  | _ => none }
def FnExactMapPageWrongFalsely : Prop := fnExactMapPageRow.holds Try.pinned (OpenSpec.ofChange fnExactMapPageWrong)

/-- 'laws.FnExactMapRun': WHATEVER THE INPUT: true; the input reads as it did. -/
def fnExactMapRunSpec : ChangeSpec := { name := "fnExactMapRun", fn := fun _ => fun
  | [d1, d2, d3, d4, d5] => { results := [.lit (.bool true)], args := [d1, d2, d3, d4, d5] }
  | _ => none }
def fnExactMapRunRow : OpenClaim := { program := "ytkgpdiajnjekcaa", sum := "33eb0715226f22d0d11a4b1825fe7f1613a749803e8bc031a2575a0c0b8c10f8", func := "loop.example/g00843/laws.FnExactMapRun", spec := "fnExactMapRun", unfollowed := true, recurses := true, apart := false }
def FnExactMapRunSaid : Prop := fnExactMapRunRow.holds Try.pinned (OpenSpec.ofChange fnExactMapRunSpec)

/-- ITS FALSE NEIGHBOUR: 'it returns false'. Refute it at one input. -/
def fnExactMapRunWrong : ChangeSpec := { name := "fnExactMapRun", fn := fun _ => fun
  | [d1, d2, d3, d4, d5] => { results := [.lit (.bool false)], args := [d1, d2, d3, d4, d5] }
  | _ => none }
def FnExactMapRunWrongFalsely : Prop := fnExactMapRunRow.holds Try.pinned (OpenSpec.ofChange fnExactMapRunWrong)

/-- 'laws.FnExactUnmapPage': WHATEVER THE INPUT: true; the input reads as it did. -/
def fnExactUnmapPageSpec : ChangeSpec := { name := "fnExactUnmapPage", fn := fun _ => fun
  | [d1, d2] => { results := [.lit (.bool true)], args := [d1, d2] }
  | _ => none }
def fnExactUnmapPageRow : OpenClaim := { program := "ytkgpdiajnjekcaa", sum := "33eb0715226f22d0d11a4b1825fe7f1613a749803e8bc031a2575a0c0b8c10f8", func := "loop.example/g00843/laws.FnExactUnmapPage", spec := "fnExactUnmapPage", unfollowed := true, recurses := true, apart := false }
def FnExactUnmapPageSaid : Prop := fnExactUnmapPageRow.holds Try.pinned (OpenSpec.ofChange fnExactUnmapPageSpec)

/-- ITS FALSE NEIGHBOUR: 'it returns false'. Refute it at one input. -/
def fnExactUnmapPageWrong : ChangeSpec := { name := "fnExactUnmapPage", fn := fun _ => fun
  | [d1, d2] => { results := [.lit (.bool false)], args := [d1, d2] }
  | _ => none }
def FnExactUnmapPageWrongFalsely : Prop := fnExactUnmapPageRow.holds Try.pinned (OpenSpec.ofChange fnExactUnmapPageWrong)

/-- 'laws.FnMappings': WHATEVER THE INPUT: true; the input reads as it did. -/
def fnMappingsSpec : ChangeSpec := { name := "fnMappings", fn := fun _ => fun
  | [d] => { results := [.lit (.bool true)], args := [d] }
  | _ => none }
def fnMappingsRow : OpenClaim := { program := "ytkgpdiajnjekcaa", sum := "33eb0715226f22d0d11a4b1825fe7f1613a749803e8bc031a2575a0c0b8c10f8", func := "loop.example/g00843/laws.FnMappings", spec := "fnMappings", unfollowed := true, recurses := true, apart := false }
def FnMappingsSaid : Prop := fnMappingsRow.holds Try.pinned (OpenSpec.ofChange fnMappingsSpec)

/-- ITS FALSE NEIGHBOUR: 'it returns false'. Refute it at one input. -/
def fnMappingsWrong : ChangeSpec := { name := "fnMappings", fn := fun _ => fun
  | [d] => { results := [.lit (.bool false)], args := [d] }
  | _ => none }
def FnMappingsWrongFalsely : Prop := fnMappingsRow.holds Try.pinned (OpenSpec.ofChange fnMappingsWrong)

/- THE SECOND FORM. 'bulk': how many values and letters a reading holds, each counted each time it is reached (what is shared counts as often as it is met; a slice's spare places count too). A statement '..UptoSaid' is the law's where the arguments, and the package variables that the reading takes, are together of bulk at most 1048576: NARROWER than '..Said'. Prove '..Said' where nothing that the law and all that it calls make is longer than what came in: it says more and counts as full. Else prove '..UptoSaid'. A law counts once. -/
mutual
def uptoBulk {H : Type} : DataW H → Nat
  | .lit (.string bytes) => bytes.length + 1
  | .lit _ => 1
  | .nil => 1
  | .ptr d => uptoBulk d + 1
  | .slice elems spare => uptoBulkAll elems + uptoBulkAll spare + 1
  | .agg parts => uptoBulkAll parts + 1
  | .iface _ d => uptoBulk d + 1
  | .map entries => uptoBulkEntries entries + 1
  | .held _ => 1
def uptoBulkAll {H : Type} : List (DataW H) → Nat
  | [] => 0
  | d :: r => uptoBulk d + uptoBulkAll r
def uptoBulkEntries {H : Type} : List (Lit × DataW H) → Nat
  | [] => 0
  | x :: r => uptoBulkEntry x + uptoBulkEntries r
def uptoBulkEntry {H : Type} : Lit × DataW H → Nat
  | (.string bytes, d) => bytes.length + uptoBulk d + 1
  | (_, d) => uptoBulk d + 1
 end
def uptoSmall : (H : Type) → List (DataW H) → Bool := fun _ ds => decide (uptoBulkAll ds ≤ 1048576)
def OpenSpec.upto (s : _root_.Go.ChangeSpec) : _root_.Go.OpenSpec := { _root_.Go.OpenSpec.ofChange s with cond := some uptoSmall }

/-- 'laws.FnTables', WHERE WHAT IT READS IS OF BULK AT MOST 1048576: true; the input reads as it did. -/
def fnTablesUptoRow : OpenClaim := { program := "ytkgpdiajnjekcaa", sum := "33eb0715226f22d0d11a4b1825fe7f1613a749803e8bc031a2575a0c0b8c10f8", func := "loop.example/g00843/laws.FnTables", spec := "fnTables", unfollowed := true, recurses := true, apart := false, narrowed := true }
def FnTablesUptoSaid : Prop := fnTablesUptoRow.holds Try.pinned (OpenSpec.upto fnTablesSpec)

/-- 'laws.FnExactIsTable', WHERE WHAT IT READS IS OF BULK AT MOST 1048576: true; the input reads as it did. -/
def fnExactIsTableUptoRow : OpenClaim := { program := "ytkgpdiajnjekcaa", sum := "33eb0715226f22d0d11a4b1825fe7f1613a749803e8bc031a2575a0c0b8c10f8", func := "loop.example/g00843/laws.FnExactIsTable", spec := "fnExactIsTable", unfollowed := true, recurses := true, apart := false, narrowed := true }
def FnExactIsTableUptoSaid : Prop := fnExactIsTableUptoRow.holds Try.pinned (OpenSpec.upto fnExactIsTableSpec)

/-- 'laws.FnExactTranslate', WHERE WHAT IT READS IS OF BULK AT MOST 1048576: true; the input reads as it did. -/
def fnExactTranslateUptoRow : OpenClaim := { program := "ytkgpdiajnjekcaa", sum := "33eb0715226f22d0d11a4b1825fe7f1613a749803e8bc031a2575a0c0b8c10f8", func := "loop.example/g00843/laws.FnExactTranslate", spec := "fnExactTranslate", unfollowed := true, recurses := true, apart := false, narrowed := true }
def FnExactTranslateUptoSaid : Prop := fnExactTranslateUptoRow.holds Try.pinned (OpenSpec.upto fnExactTranslateSpec)

/-- 'laws.FnExactTableOf', WHERE WHAT IT READS IS OF BULK AT MOST 1048576: true; the input reads as it did. -/
def fnExactTableOfUptoRow : OpenClaim := { program := "ytkgpdiajnjekcaa", sum := "33eb0715226f22d0d11a4b1825fe7f1613a749803e8bc031a2575a0c0b8c10f8", func := "loop.example/g00843/laws.FnExactTableOf", spec := "fnExactTableOf", apart := false, narrowed := true }
def FnExactTableOfUptoSaid : Prop := fnExactTableOfUptoRow.holds Try.pinned (OpenSpec.upto fnExactTableOfSpec)

/-- 'laws.FnExactIsWithin', WHERE WHAT IT READS IS OF BULK AT MOST 1048576: true; the input reads as it did. -/
def fnExactIsWithinUptoRow : OpenClaim := { program := "ytkgpdiajnjekcaa", sum := "33eb0715226f22d0d11a4b1825fe7f1613a749803e8bc031a2575a0c0b8c10f8", func := "loop.example/g00843/laws.FnExactIsWithin", spec := "fnExactIsWithin", unfollowed := true, recurses := true, apart := false, narrowed := true }
def FnExactIsWithinUptoSaid : Prop := fnExactIsWithinUptoRow.holds Try.pinned (OpenSpec.upto fnExactIsWithinSpec)

/-- 'laws.FnExactPagesOn', WHERE WHAT IT READS IS OF BULK AT MOST 1048576: true; the input reads as it did. -/
def fnExactPagesOnUptoRow : OpenClaim := { program := "ytkgpdiajnjekcaa", sum := "33eb0715226f22d0d11a4b1825fe7f1613a749803e8bc031a2575a0c0b8c10f8", func := "loop.example/g00843/laws.FnExactPagesOn", spec := "fnExactPagesOn", unfollowed := true, recurses := true, apart := false, narrowed := true }
def FnExactPagesOnUptoSaid : Prop := fnExactPagesOnUptoRow.holds Try.pinned (OpenSpec.upto fnExactPagesOnSpec)

/-- 'laws.FnExactMappedPages', WHERE WHAT IT READS IS OF BULK AT MOST 1048576: true; the input reads as it did. -/
def fnExactMappedPagesUptoRow : OpenClaim := { program := "ytkgpdiajnjekcaa", sum := "33eb0715226f22d0d11a4b1825fe7f1613a749803e8bc031a2575a0c0b8c10f8", func := "loop.example/g00843/laws.FnExactMappedPages", spec := "fnExactMappedPages", unfollowed := true, recurses := true, apart := false, narrowed := true }
def FnExactMappedPagesUptoSaid : Prop := fnExactMappedPagesUptoRow.holds Try.pinned (OpenSpec.upto fnExactMappedPagesSpec)

/-- 'laws.FnExactProtectPage', WHERE WHAT IT READS IS OF BULK AT MOST 1048576: true; the input reads as it did. -/
def fnExactProtectPageUptoRow : OpenClaim := { program := "ytkgpdiajnjekcaa", sum := "33eb0715226f22d0d11a4b1825fe7f1613a749803e8bc031a2575a0c0b8c10f8", func := "loop.example/g00843/laws.FnExactProtectPage", spec := "fnExactProtectPage", unfollowed := true, recurses := true, apart := false, narrowed := true }
def FnExactProtectPageUptoSaid : Prop := fnExactProtectPageUptoRow.holds Try.pinned (OpenSpec.upto fnExactProtectPageSpec)

/-- 'laws.FnExactMapPage', WHERE WHAT IT READS IS OF BULK AT MOST 1048576: true; the input reads as it did. -/
def fnExactMapPageUptoRow : OpenClaim := { program := "ytkgpdiajnjekcaa", sum := "33eb0715226f22d0d11a4b1825fe7f1613a749803e8bc031a2575a0c0b8c10f8", func := "loop.example/g00843/laws.FnExactMapPage", spec := "fnExactMapPage", unfollowed := true, recurses := true, apart := false, narrowed := true }
def FnExactMapPageUptoSaid : Prop := fnExactMapPageUptoRow.holds Try.pinned (OpenSpec.upto fnExactMapPageSpec)

/-- 'laws.FnExactMapRun', WHERE WHAT IT READS IS OF BULK AT MOST 1048576: true; the input reads as it did. -/
def fnExactMapRunUptoRow : OpenClaim := { program := "ytkgpdiajnjekcaa", sum := "33eb0715226f22d0d11a4b1825fe7f1613a749803e8bc031a2575a0c0b8c10f8", func := "loop.example/g00843/laws.FnExactMapRun", spec := "fnExactMapRun", unfollowed := true, recurses := true, apart := false, narrowed := true }
def FnExactMapRunUptoSaid : Prop := fnExactMapRunUptoRow.holds Try.pinned (OpenSpec.upto fnExactMapRunSpec)

/-- 'laws.FnExactUnmapPage', WHERE WHAT IT READS IS OF BULK AT MOST 1048576: true; the input reads as it did. -/
def fnExactUnmapPageUptoRow : OpenClaim := { program := "ytkgpdiajnjekcaa", sum := "33eb0715226f22d0d11a4b1825fe7f1613a749803e8bc031a2575a0c0b8c10f8", func := "loop.example/g00843/laws.FnExactUnmapPage", spec := "fnExactUnmapPage", unfollowed := true, recurses := true, apart := false, narrowed := true }
def FnExactUnmapPageUptoSaid : Prop := fnExactUnmapPageUptoRow.holds Try.pinned (OpenSpec.upto fnExactUnmapPageSpec)

/-- 'laws.FnMappings', WHERE WHAT IT READS IS OF BULK AT MOST 1048576: true; the input reads as it did. -/
def fnMappingsUptoRow : OpenClaim := { program := "ytkgpdiajnjekcaa", sum := "33eb0715226f22d0d11a4b1825fe7f1613a749803e8bc031a2575a0c0b8c10f8", func := "loop.example/g00843/laws.FnMappings", spec := "fnMappings", unfollowed := true, recurses := true, apart := false, narrowed := true }
def FnMappingsUptoSaid : Prop := fnMappingsUptoRow.holds Try.pinned (OpenSpec.upto fnMappingsSpec)

end Rows
end Go.Proofs.Ytkgpdiajnjekcaa
