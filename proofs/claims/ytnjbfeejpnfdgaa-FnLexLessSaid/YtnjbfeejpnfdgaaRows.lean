/-
  No cell of these rows narrows 'for every input' (looked for: loops, veiled, ifaces, maps, wideKeys, modest, calm, conditions, laid).
  DERIVED. THE GIVEN ROWS OF THIS SEAT. 6 by the template 'for every input the law returns true; each argument reads behind the call as it read before'; 0 by the template 'total and deterministic' (their statements: YtnjbfeejpnfdgaaTotals.lean).
  GIVEN WITH THE SEED: the statements are not yours to turn. If you find one false, say at which input.
  Laid BY PROGRAM, IN A SANDBOX (cutbox-rows.mjs): the forced cells as the released guide's own fill.sh prints them over the translation 678118f157aa4714… (all of the seat's roots in one cut). By AI agents, Wed Nov 11 2026. No macro, syntax, notation, axiom, sorry.
-/
import Derived.Test.YtnjbfeejpnfdgaaChecked
import GoSem.Claim
import GoSem.ClaimJoined
import GoSem.ClaimMapViews
import Derived.JoinedTies
import Derived.KernelRfl
namespace Go.Proofs.Ytnjbfeejpnfdgaa
/- THE CELL 'sum', in the pinned program and in every row, IS THE sha256 OF THE DUMP (.gsa) THAT YtnjbfeejpnfdgaaProg.lean LOADS. Nothing in Lean hashes anything: it is a label: what it is worth is what the hold of that sum in a sandbox is worth. -/
noncomputable def Try.pinned : Pinned := { name := "ytnjbfeejpnfdgaa", sum := "678118f157aa4714fe2c89f3f615ab2fd9db2aa17821b18e2f40f6992474fc4e", checked := Try.checked }
namespace Rows
def none {H : Type} : Left H := { results := [], args := [] }

/-- 'laws.FnExactDistinctCells': WHATEVER THE INPUT: true; the input reads as it did. -/
def fnExactDistinctCellsSpec : ChangeSpec := { name := "fnExactDistinctCells", fn := fun _ => fun
  | [d] => { results := [.lit (.bool true)], args := [d] }
  | _ => none }
def fnExactDistinctCellsRow : OpenClaim := { program := "ytnjbfeejpnfdgaa", sum := "678118f157aa4714fe2c89f3f615ab2fd9db2aa17821b18e2f40f6992474fc4e", func := "loop.example/loopnests/laws.FnExactDistinctCells", spec := "fnExactDistinctCells", apart := false }
def FnExactDistinctCellsSaid : Prop := fnExactDistinctCellsRow.holds Try.pinned (OpenSpec.ofChange fnExactDistinctCellsSpec)

/-- ITS FALSE NEIGHBOUR: 'it returns false'. Refute it at one input. -/
def fnExactDistinctCellsWrong : ChangeSpec := { name := "fnExactDistinctCells", fn := fun _ => fun
  | [d] => { results := [.lit (.bool false)], args := [d] }
  | _ => none }
def FnExactDistinctCellsWrongFalsely : Prop := fnExactDistinctCellsRow.holds Try.pinned (OpenSpec.ofChange fnExactDistinctCellsWrong)

/-- 'laws.FnExactStackDistances': WHATEVER THE INPUT: true; the input reads as it did. -/
def fnExactStackDistancesSpec : ChangeSpec := { name := "fnExactStackDistances", fn := fun _ => fun
  | [d] => { results := [.lit (.bool true)], args := [d] }
  | _ => none }
def fnExactStackDistancesRow : OpenClaim := { program := "ytnjbfeejpnfdgaa", sum := "678118f157aa4714fe2c89f3f615ab2fd9db2aa17821b18e2f40f6992474fc4e", func := "loop.example/loopnests/laws.FnExactStackDistances", spec := "fnExactStackDistances", apart := false }
def FnExactStackDistancesSaid : Prop := fnExactStackDistancesRow.holds Try.pinned (OpenSpec.ofChange fnExactStackDistancesSpec)

/-- ITS FALSE NEIGHBOUR: 'it returns false'. Refute it at one input. -/
def fnExactStackDistancesWrong : ChangeSpec := { name := "fnExactStackDistances", fn := fun _ => fun
  | [d] => { results := [.lit (.bool false)], args := [d] }
  | _ => none }
def FnExactStackDistancesWrongFalsely : Prop := fnExactStackDistancesRow.holds Try.pinned (OpenSpec.ofChange fnExactStackDistancesWrong)

/-- 'laws.FnExactFitSize': WHATEVER THE INPUT: true; the input reads as it did. -/
def fnExactFitSizeSpec : ChangeSpec := { name := "fnExactFitSize", fn := fun _ => fun
  | [d] => { results := [.lit (.bool true)], args := [d] }
  | _ => none }
def fnExactFitSizeRow : OpenClaim := { program := "ytnjbfeejpnfdgaa", sum := "678118f157aa4714fe2c89f3f615ab2fd9db2aa17821b18e2f40f6992474fc4e", func := "loop.example/loopnests/laws.FnExactFitSize", spec := "fnExactFitSize", apart := false }
def FnExactFitSizeSaid : Prop := fnExactFitSizeRow.holds Try.pinned (OpenSpec.ofChange fnExactFitSizeSpec)

/-- ITS FALSE NEIGHBOUR: 'it returns false'. Refute it at one input. -/
def fnExactFitSizeWrong : ChangeSpec := { name := "fnExactFitSize", fn := fun _ => fun
  | [d] => { results := [.lit (.bool false)], args := [d] }
  | _ => none }
def FnExactFitSizeWrongFalsely : Prop := fnExactFitSizeRow.holds Try.pinned (OpenSpec.ofChange fnExactFitSizeWrong)

/-- 'laws.FnDirection': WHATEVER THE INPUT: true; the input reads as it did. -/
def fnDirectionSpec : ChangeSpec := { name := "fnDirection", fn := fun _ => fun
  | [d] => { results := [.lit (.bool true)], args := [d] }
  | _ => none }
def fnDirectionRow : OpenClaim := { program := "ytnjbfeejpnfdgaa", sum := "678118f157aa4714fe2c89f3f615ab2fd9db2aa17821b18e2f40f6992474fc4e", func := "loop.example/loopnests/laws.FnDirection", spec := "fnDirection", unfollowed := true, recurses := true, apart := false }
def FnDirectionSaid : Prop := fnDirectionRow.holds Try.pinned (OpenSpec.ofChange fnDirectionSpec)

/-- ITS FALSE NEIGHBOUR: 'it returns false'. Refute it at one input. -/
def fnDirectionWrong : ChangeSpec := { name := "fnDirection", fn := fun _ => fun
  | [d] => { results := [.lit (.bool false)], args := [d] }
  | _ => none }
def FnDirectionWrongFalsely : Prop := fnDirectionRow.holds Try.pinned (OpenSpec.ofChange fnDirectionWrong)

/-- 'laws.FnExactLruMisses': WHATEVER THE INPUT: true; the input reads as it did. -/
def fnExactLruMissesSpec : ChangeSpec := { name := "fnExactLruMisses", fn := fun _ => fun
  | [d1, d2] => { results := [.lit (.bool true)], args := [d1, d2] }
  | _ => none }
def fnExactLruMissesRow : OpenClaim := { program := "ytnjbfeejpnfdgaa", sum := "678118f157aa4714fe2c89f3f615ab2fd9db2aa17821b18e2f40f6992474fc4e", func := "loop.example/loopnests/laws.FnExactLruMisses", spec := "fnExactLruMisses", apart := false }
def FnExactLruMissesSaid : Prop := fnExactLruMissesRow.holds Try.pinned (OpenSpec.ofChange fnExactLruMissesSpec)

/-- ITS FALSE NEIGHBOUR: 'it returns false'. Refute it at one input. -/
def fnExactLruMissesWrong : ChangeSpec := { name := "fnExactLruMisses", fn := fun _ => fun
  | [d1, d2] => { results := [.lit (.bool false)], args := [d1, d2] }
  | _ => none }
def FnExactLruMissesWrongFalsely : Prop := fnExactLruMissesRow.holds Try.pinned (OpenSpec.ofChange fnExactLruMissesWrong)

/-- 'laws.FnLexLess': WHATEVER THE INPUT: true; the input reads as it did. -/
def fnLexLessSpec : ChangeSpec := { name := "fnLexLess", fn := fun _ => fun
  | [d1, d2] => { results := [.lit (.bool true)], args := [d1, d2] }
  | _ => none }
def fnLexLessRow : OpenClaim := { program := "ytnjbfeejpnfdgaa", sum := "678118f157aa4714fe2c89f3f615ab2fd9db2aa17821b18e2f40f6992474fc4e", func := "loop.example/loopnests/laws.FnLexLess", spec := "fnLexLess", apart := false }
def FnLexLessSaid : Prop := fnLexLessRow.holds Try.pinned (OpenSpec.ofChange fnLexLessSpec)

/-- ITS FALSE NEIGHBOUR: 'it returns false'. Refute it at one input. -/
def fnLexLessWrong : ChangeSpec := { name := "fnLexLess", fn := fun _ => fun
  | [d1, d2] => { results := [.lit (.bool false)], args := [d1, d2] }
  | _ => none }
def FnLexLessWrongFalsely : Prop := fnLexLessRow.holds Try.pinned (OpenSpec.ofChange fnLexLessWrong)

/- THE SECOND FORM. 'bulk': how many values and letters a reading holds, each counted each time it is reached (what is shared counts as often as it is met; a slice's spare places count too). A statement '..UptoSaid' is the law's where the arguments, and the package variables that the reading takes, are together of bulk at most 1048576: NARROWER than '..Said'. Prove '..Said' where nothing that the law and all that it calls make is longer than what came in: it says more and counts as full. Else prove '..UptoSaid'. A law counts once. -/
mutual
def uptoBulk {H : Type} : DataW H → Nat
  | .lit (.string bytes) => bytes.length + 1
  | .lit _ => 1
  | .nil => 1
  | .ptr d => uptoBulk d + 1
  | .slice elems spare => uptoBulkAll elems + uptoBulkAll spare + 1
  | .agg parts => uptoBulkAll parts + 1
  | .iface _ d => uptoBulk d + 1
  | .map entries => uptoBulkEntries entries + 1
  | .held _ => 1
def uptoBulkAll {H : Type} : List (DataW H) → Nat
  | [] => 0
  | d :: r => uptoBulk d + uptoBulkAll r
def uptoBulkEntries {H : Type} : List (Lit × DataW H) → Nat
  | [] => 0
  | x :: r => uptoBulkEntry x + uptoBulkEntries r
def uptoBulkEntry {H : Type} : Lit × DataW H → Nat
  | (.string bytes, d) => bytes.length + uptoBulk d + 1
  | (_, d) => uptoBulk d + 1
 end
def uptoSmall : (H : Type) → List (DataW H) → Bool := fun _ ds => decide (uptoBulkAll ds ≤ 1048576)
def OpenSpec.upto (s : _root_.Go.ChangeSpec) : _root_.Go.OpenSpec := { _root_.Go.OpenSpec.ofChange s with cond := some uptoSmall }

/-- 'laws.FnExactDistinctCells', WHERE WHAT IT READS IS OF BULK AT MOST 1048576: true; the input reads as it did. -/
def fnExactDistinctCellsUptoRow : OpenClaim := { program := "ytnjbfeejpnfdgaa", sum := "678118f157aa4714fe2c89f3f615ab2fd9db2aa17821b18e2f40f6992474fc4e", func := "loop.example/loopnests/laws.FnExactDistinctCells", spec := "fnExactDistinctCells", apart := false, narrowed := true }
def FnExactDistinctCellsUptoSaid : Prop := fnExactDistinctCellsUptoRow.holds Try.pinned (OpenSpec.upto fnExactDistinctCellsSpec)

/-- 'laws.FnExactStackDistances', WHERE WHAT IT READS IS OF BULK AT MOST 1048576: true; the input reads as it did. -/
def fnExactStackDistancesUptoRow : OpenClaim := { program := "ytnjbfeejpnfdgaa", sum := "678118f157aa4714fe2c89f3f615ab2fd9db2aa17821b18e2f40f6992474fc4e", func := "loop.example/loopnests/laws.FnExactStackDistances", spec := "fnExactStackDistances", apart := false, narrowed := true }
def FnExactStackDistancesUptoSaid : Prop := fnExactStackDistancesUptoRow.holds Try.pinned (OpenSpec.upto fnExactStackDistancesSpec)

/-- 'laws.FnExactFitSize', WHERE WHAT IT READS IS OF BULK AT MOST 1048576: true; the input reads as it did. -/
def fnExactFitSizeUptoRow : OpenClaim := { program := "ytnjbfeejpnfdgaa", sum := "678118f157aa4714fe2c89f3f615ab2fd9db2aa17821b18e2f40f6992474fc4e", func := "loop.example/loopnests/laws.FnExactFitSize", spec := "fnExactFitSize", apart := false, narrowed := true }
def FnExactFitSizeUptoSaid : Prop := fnExactFitSizeUptoRow.holds Try.pinned (OpenSpec.upto fnExactFitSizeSpec)

/-- 'laws.FnDirection', WHERE WHAT IT READS IS OF BULK AT MOST 1048576: true; the input reads as it did. -/
def fnDirectionUptoRow : OpenClaim := { program := "ytnjbfeejpnfdgaa", sum := "678118f157aa4714fe2c89f3f615ab2fd9db2aa17821b18e2f40f6992474fc4e", func := "loop.example/loopnests/laws.FnDirection", spec := "fnDirection", unfollowed := true, recurses := true, apart := false, narrowed := true }
def FnDirectionUptoSaid : Prop := fnDirectionUptoRow.holds Try.pinned (OpenSpec.upto fnDirectionSpec)

/-- 'laws.FnExactLruMisses', WHERE WHAT IT READS IS OF BULK AT MOST 1048576: true; the input reads as it did. -/
def fnExactLruMissesUptoRow : OpenClaim := { program := "ytnjbfeejpnfdgaa", sum := "678118f157aa4714fe2c89f3f615ab2fd9db2aa17821b18e2f40f6992474fc4e", func := "loop.example/loopnests/laws.FnExactLruMisses", spec := "fnExactLruMisses", apart := false, narrowed := true }
def FnExactLruMissesUptoSaid : Prop := fnExactLruMissesUptoRow.holds Try.pinned (OpenSpec.upto fnExactLruMissesSpec)

/-- 'laws.FnLexLess', WHERE WHAT IT READS IS OF BULK AT MOST 1048576: true; the input reads as it did. -/
def fnLexLessUptoRow : OpenClaim := { program := "ytnjbfeejpnfdgaa", sum := "678118f157aa4714fe2c89f3f615ab2fd9db2aa17821b18e2f40f6992474fc4e", func := "loop.example/loopnests/laws.FnLexLess", spec := "fnLexLess", apart := false, narrowed := true }
def FnLexLessUptoSaid : Prop := fnLexLessUptoRow.holds Try.pinned (OpenSpec.upto fnLexLessSpec)

end Rows
end Go.Proofs.Ytnjbfeejpnfdgaa
