/-
  No cell of these rows narrows 'for every input' (looked for: loops, veiled, ifaces, maps, wideKeys, modest, calm, conditions, laid).
  DERIVED. THE GIVEN ROWS OF THIS SEAT. 5 by the template 'for every input the law returns true; each argument reads behind the call as it read before'; 0 by the template 'total and deterministic' (their statements: YtlelonbakckkgaaTotals.lean).
  GIVEN WITH THE SEED: the statements are not yours to turn. If you find one false, say at which input.
  Laid BY PROGRAM, IN A SANDBOX (cutbox-rows.mjs): the forced cells as the released guide's own fill.sh prints them over the translation 7f8610ef5feeeae9… (all of the seat's roots in one cut). By AI agents, Wed Nov 11 2026. No macro, syntax, notation, axiom, sorry.
-/
import Derived.Test.YtlelonbakckkgaaChecked
import GoSem.Claim
import GoSem.ClaimJoined
import GoSem.ClaimMapViews
import Derived.JoinedTies
import Derived.KernelRfl
namespace Go.Proofs.Ytlelonbakckkgaa
/- THE CELL 'sum', in the pinned program and in every row, IS THE sha256 OF THE DUMP (.gsa) THAT YtlelonbakckkgaaProg.lean LOADS. Nothing in Lean hashes anything: it is a label: what it is worth is what the hold of that sum in a sandbox is worth. -/
noncomputable def Try.pinned : Pinned := { name := "ytlelonbakckkgaa", sum := "7f8610ef5feeeae9222fd998af2299bda211a4fd5a4223af1bf806705d847c27", checked := Try.checked }
namespace Rows
def none {H : Type} : Left H := { results := [], args := [] }

/-- 'laws.FnDistinctCells': WHATEVER THE INPUT: true; the input reads as it did. -/
def fnDistinctCellsSpec : ChangeSpec := { name := "fnDistinctCells", fn := fun _ => fun
  | [d] => { results := [.lit (.bool true)], args := [d] }
  | _ => none }
def fnDistinctCellsRow : OpenClaim := { program := "ytlelonbakckkgaa", sum := "7f8610ef5feeeae9222fd998af2299bda211a4fd5a4223af1bf806705d847c27", func := "loop.example/loopnests/laws.FnDistinctCells", spec := "fnDistinctCells", recurses := true, apart := false }
def FnDistinctCellsSaid : Prop := fnDistinctCellsRow.holds Try.pinned (OpenSpec.ofChange fnDistinctCellsSpec)

/-- ITS FALSE NEIGHBOUR: 'it returns false'. Refute it at one input. -/
def fnDistinctCellsWrong : ChangeSpec := { name := "fnDistinctCells", fn := fun _ => fun
  | [d] => { results := [.lit (.bool false)], args := [d] }
  | _ => none }
def FnDistinctCellsWrongFalsely : Prop := fnDistinctCellsRow.holds Try.pinned (OpenSpec.ofChange fnDistinctCellsWrong)

/-- 'laws.FnTraceRename': WHATEVER THE INPUT: true; the input reads as it did. -/
def fnTraceRenameSpec : ChangeSpec := { name := "fnTraceRename", fn := fun _ => fun
  | [d] => { results := [.lit (.bool true)], args := [d] }
  | _ => none }
def fnTraceRenameRow : OpenClaim := { program := "ytlelonbakckkgaa", sum := "7f8610ef5feeeae9222fd998af2299bda211a4fd5a4223af1bf806705d847c27", func := "loop.example/loopnests/laws.FnTraceRename", spec := "fnTraceRename", recurses := true, apart := false }
def FnTraceRenameSaid : Prop := fnTraceRenameRow.holds Try.pinned (OpenSpec.ofChange fnTraceRenameSpec)

/-- ITS FALSE NEIGHBOUR: 'it returns false'. Refute it at one input. -/
def fnTraceRenameWrong : ChangeSpec := { name := "fnTraceRename", fn := fun _ => fun
  | [d] => { results := [.lit (.bool false)], args := [d] }
  | _ => none }
def FnTraceRenameWrongFalsely : Prop := fnTraceRenameRow.holds Try.pinned (OpenSpec.ofChange fnTraceRenameWrong)

/-- 'laws.FnTraceConcat': WHATEVER THE INPUT: true; the input reads as it did. -/
def fnTraceConcatSpec : ChangeSpec := { name := "fnTraceConcat", fn := fun _ => fun
  | [d1, d2] => { results := [.lit (.bool true)], args := [d1, d2] }
  | _ => none }
def fnTraceConcatRow : OpenClaim := { program := "ytlelonbakckkgaa", sum := "7f8610ef5feeeae9222fd998af2299bda211a4fd5a4223af1bf806705d847c27", func := "loop.example/loopnests/laws.FnTraceConcat", spec := "fnTraceConcat", recurses := true, apart := false }
def FnTraceConcatSaid : Prop := fnTraceConcatRow.holds Try.pinned (OpenSpec.ofChange fnTraceConcatSpec)

/-- ITS FALSE NEIGHBOUR: 'it returns false'. Refute it at one input. -/
def fnTraceConcatWrong : ChangeSpec := { name := "fnTraceConcat", fn := fun _ => fun
  | [d1, d2] => { results := [.lit (.bool false)], args := [d1, d2] }
  | _ => none }
def FnTraceConcatWrongFalsely : Prop := fnTraceConcatRow.holds Try.pinned (OpenSpec.ofChange fnTraceConcatWrong)

/-- 'laws.FnLruSimulate': WHATEVER THE INPUT: true; the input reads as it did. -/
def fnLruSimulateSpec : ChangeSpec := { name := "fnLruSimulate", fn := fun _ => fun
  | [d] => { results := [.lit (.bool true)], args := [d] }
  | _ => none }
def fnLruSimulateRow : OpenClaim := { program := "ytlelonbakckkgaa", sum := "7f8610ef5feeeae9222fd998af2299bda211a4fd5a4223af1bf806705d847c27", func := "loop.example/loopnests/laws.FnLruSimulate", spec := "fnLruSimulate", recurses := true, apart := false }
def FnLruSimulateSaid : Prop := fnLruSimulateRow.holds Try.pinned (OpenSpec.ofChange fnLruSimulateSpec)

/-- ITS FALSE NEIGHBOUR: 'it returns false'. Refute it at one input. -/
def fnLruSimulateWrong : ChangeSpec := { name := "fnLruSimulate", fn := fun _ => fun
  | [d] => { results := [.lit (.bool false)], args := [d] }
  | _ => none }
def FnLruSimulateWrongFalsely : Prop := fnLruSimulateRow.holds Try.pinned (OpenSpec.ofChange fnLruSimulateWrong)

/-- 'laws.FnLruMisses': WHATEVER THE INPUT: true; the input reads as it did. -/
def fnLruMissesSpec : ChangeSpec := { name := "fnLruMisses", fn := fun _ => fun
  | [d] => { results := [.lit (.bool true)], args := [d] }
  | _ => none }
def fnLruMissesRow : OpenClaim := { program := "ytlelonbakckkgaa", sum := "7f8610ef5feeeae9222fd998af2299bda211a4fd5a4223af1bf806705d847c27", func := "loop.example/loopnests/laws.FnLruMisses", spec := "fnLruMisses", recurses := true, apart := false }
def FnLruMissesSaid : Prop := fnLruMissesRow.holds Try.pinned (OpenSpec.ofChange fnLruMissesSpec)

/-- ITS FALSE NEIGHBOUR: 'it returns false'. Refute it at one input. -/
def fnLruMissesWrong : ChangeSpec := { name := "fnLruMisses", fn := fun _ => fun
  | [d] => { results := [.lit (.bool false)], args := [d] }
  | _ => none }
def FnLruMissesWrongFalsely : Prop := fnLruMissesRow.holds Try.pinned (OpenSpec.ofChange fnLruMissesWrong)

/- THE SECOND FORM. 'bulk': how many values and letters a reading holds, each counted each time it is reached (what is shared counts as often as it is met; a slice's spare places count too). A statement '..UptoSaid' is the law's where the arguments, and the package variables that the reading takes, are together of bulk at most 1048576: NARROWER than '..Said'. Prove '..Said' where nothing that the law and all that it calls make is longer than what came in: it says more and counts as full. Else prove '..UptoSaid'. A law counts once. -/
mutual
def uptoBulk {H : Type} : DataW H → Nat
  | .lit (.string bytes) => bytes.length + 1
  | .lit _ => 1
  | .nil => 1
  | .ptr d => uptoBulk d + 1
  | .slice elems spare => uptoBulkAll elems + uptoBulkAll spare + 1
  | .agg parts => uptoBulkAll parts + 1
  | .iface _ d => uptoBulk d + 1
  | .map entries => uptoBulkEntries entries + 1
  | .held _ => 1
def uptoBulkAll {H : Type} : List (DataW H) → Nat
  | [] => 0
  | d :: r => uptoBulk d + uptoBulkAll r
def uptoBulkEntries {H : Type} : List (Lit × DataW H) → Nat
  | [] => 0
  | x :: r => uptoBulkEntry x + uptoBulkEntries r
def uptoBulkEntry {H : Type} : Lit × DataW H → Nat
  | (.string bytes, d) => bytes.length + uptoBulk d + 1
  | (_, d) => uptoBulk d + 1
 end
def uptoSmall : (H : Type) → List (DataW H) → Bool := fun _ ds => decide (uptoBulkAll ds ≤ 1048576)
def OpenSpec.upto (s : _root_.Go.ChangeSpec) : _root_.Go.OpenSpec := { _root_.Go.OpenSpec.ofChange s with cond := some uptoSmall }

/-- 'laws.FnDistinctCells', WHERE WHAT IT READS IS OF BULK AT MOST 1048576: true; the input reads as it did. -/
def fnDistinctCellsUptoRow : OpenClaim := { program := "ytlelonbakckkgaa", sum := "7f8610ef5feeeae9222fd998af2299bda211a4fd5a4223af1bf806705d847c27", func := "loop.example/loopnests/laws.FnDistinctCells", spec := "fnDistinctCells", recurses := true, apart := false, narrowed := true }
def FnDistinctCellsUptoSaid : Prop := fnDistinctCellsUptoRow.holds Try.pinned (OpenSpec.upto fnDistinctCellsSpec)

/-- 'laws.FnTraceRename', WHERE WHAT IT READS IS OF BULK AT MOST 1048576: true; the input reads as it did. -/
def fnTraceRenameUptoRow : OpenClaim := { program := "ytlelonbakckkgaa", sum := "7f8610ef5feeeae9222fd998af2299bda211a4fd5a4223af1bf806705d847c27", func := "loop.example/loopnests/laws.FnTraceRename", spec := "fnTraceRename", recurses := true, apart := false, narrowed := true }
def FnTraceRenameUptoSaid : Prop := fnTraceRenameUptoRow.holds Try.pinned (OpenSpec.upto fnTraceRenameSpec)

/-- 'laws.FnTraceConcat', WHERE WHAT IT READS IS OF BULK AT MOST 1048576: true; the input reads as it did. -/
def fnTraceConcatUptoRow : OpenClaim := { program := "ytlelonbakckkgaa", sum := "7f8610ef5feeeae9222fd998af2299bda211a4fd5a4223af1bf806705d847c27", func := "loop.example/loopnests/laws.FnTraceConcat", spec := "fnTraceConcat", recurses := true, apart := false, narrowed := true }
def FnTraceConcatUptoSaid : Prop := fnTraceConcatUptoRow.holds Try.pinned (OpenSpec.upto fnTraceConcatSpec)

/-- 'laws.FnLruSimulate', WHERE WHAT IT READS IS OF BULK AT MOST 1048576: true; the input reads as it did. -/
def fnLruSimulateUptoRow : OpenClaim := { program := "ytlelonbakckkgaa", sum := "7f8610ef5feeeae9222fd998af2299bda211a4fd5a4223af1bf806705d847c27", func := "loop.example/loopnests/laws.FnLruSimulate", spec := "fnLruSimulate", recurses := true, apart := false, narrowed := true }
def FnLruSimulateUptoSaid : Prop := fnLruSimulateUptoRow.holds Try.pinned (OpenSpec.upto fnLruSimulateSpec)

/-- 'laws.FnLruMisses', WHERE WHAT IT READS IS OF BULK AT MOST 1048576: true; the input reads as it did. -/
def fnLruMissesUptoRow : OpenClaim := { program := "ytlelonbakckkgaa", sum := "7f8610ef5feeeae9222fd998af2299bda211a4fd5a4223af1bf806705d847c27", func := "loop.example/loopnests/laws.FnLruMisses", spec := "fnLruMisses", recurses := true, apart := false, narrowed := true }
def FnLruMissesUptoSaid : Prop := fnLruMissesUptoRow.holds Try.pinned (OpenSpec.upto fnLruMissesSpec)

end Rows
end Go.Proofs.Ytlelonbakckkgaa
