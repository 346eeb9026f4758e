/-
  NARROWER THAN 'FOR EVERY INPUT', by the rows' own cells (each row's printed sentence says how): FnExactPointStmt: loops · FnExactFoldStmt: loops.
  DERIVED. THE GIVEN ROWS OF THIS SEAT. 2 by the template 'for every input the law returns true; each argument reads behind the call as it read before'; 0 by the template 'total and deterministic' (their statements: YtollooimmfngjaaTotals.lean).
  GIVEN WITH THE SEED: the statements are not yours to turn. If you find one false, say at which input.
  Laid BY PROGRAM, IN A SANDBOX (cutbox-rows.mjs): the forced cells as the released guide's own fill.sh prints them over the translation fc15e4386db22b4c… (all of the seat's roots in one cut). By AI agents, Wed Nov 11 2026. No macro, syntax, notation, axiom, sorry.
-/
import Derived.Test.YtollooimmfngjaaChecked
import GoSem.Claim
import GoSem.ClaimJoined
import GoSem.ClaimMapViews
import Derived.JoinedTies
import Derived.KernelRfl
namespace Go.Proofs.Ytollooimmfngjaa
/- THE CELL 'sum', in the pinned program and in every row, IS THE sha256 OF THE DUMP (.gsa) THAT YtollooimmfngjaaProg.lean LOADS. Nothing in Lean hashes anything: it is a label: what it is worth is what the hold of that sum in a sandbox is worth. -/
noncomputable def Try.pinned : Pinned := { name := "ytollooimmfngjaa", sum := "fc15e4386db22b4cc8f8f13ef674462e2ecd6f78038c72ef5d5daf923ec18cd0", checked := Try.checked }
namespace Rows
def none {H : Type} : Left H := { results := [], args := [] }

/-- 'laws.FnExactPointStmt': WHATEVER THE INPUT: true; the input reads as it did. -/
def fnExactPointStmtSpec : ChangeSpec := { name := "fnExactPointStmt", fn := fun _ => fun
  | [d1, d2] => { results := [.lit (.bool true)], args := [d1, d2] }
  | _ => none }
def fnExactPointStmtRow : OpenClaim := { program := "ytollooimmfngjaa", sum := "fc15e4386db22b4cc8f8f13ef674462e2ecd6f78038c72ef5d5daf923ec18cd0", func := "loop.example/loopnests/laws.FnExactPointStmt", spec := "fnExactPointStmt", inPlace := ["internal/bytealg.IndexByteString", "internal/bytealg.IndexString"], unfollowed := true, recurses := true, named := ["internal/bytealg.MaxLen"], loops := true, apart := false }
def FnExactPointStmtSaid : Prop := fnExactPointStmtRow.holds Try.pinned (OpenSpec.ofChange fnExactPointStmtSpec)

/-- ITS FALSE NEIGHBOUR: 'it returns false'. Refute it at one input. -/
def fnExactPointStmtWrong : ChangeSpec := { name := "fnExactPointStmt", fn := fun _ => fun
  | [d1, d2] => { results := [.lit (.bool false)], args := [d1, d2] }
  | _ => none }
def FnExactPointStmtWrongFalsely : Prop := fnExactPointStmtRow.holds Try.pinned (OpenSpec.ofChange fnExactPointStmtWrong)

/-- 'laws.FnExactFoldStmt': WHATEVER THE INPUT: true; the input reads as it did. -/
def fnExactFoldStmtSpec : ChangeSpec := { name := "fnExactFoldStmt", fn := fun _ => fun
  | [d] => { results := [.lit (.bool true)], args := [d] }
  | _ => none }
def fnExactFoldStmtRow : OpenClaim := { program := "ytollooimmfngjaa", sum := "fc15e4386db22b4cc8f8f13ef674462e2ecd6f78038c72ef5d5daf923ec18cd0", func := "loop.example/loopnests/laws.FnExactFoldStmt", spec := "fnExactFoldStmt", inPlace := ["internal/bytealg.IndexByteString", "internal/bytealg.IndexString"], unfollowed := true, recurses := true, named := ["internal/bytealg.MaxLen"], loops := true, apart := false }
def FnExactFoldStmtSaid : Prop := fnExactFoldStmtRow.holds Try.pinned (OpenSpec.ofChange fnExactFoldStmtSpec)

/-- ITS FALSE NEIGHBOUR: 'it returns false'. Refute it at one input. -/
def fnExactFoldStmtWrong : ChangeSpec := { name := "fnExactFoldStmt", fn := fun _ => fun
  | [d] => { results := [.lit (.bool false)], args := [d] }
  | _ => none }
def FnExactFoldStmtWrongFalsely : Prop := fnExactFoldStmtRow.holds Try.pinned (OpenSpec.ofChange fnExactFoldStmtWrong)

/- THE SECOND FORM. 'bulk': how many values and letters a reading holds, each counted each time it is reached (what is shared counts as often as it is met; a slice's spare places count too). A statement '..UptoSaid' is the law's where the arguments, and the package variables that the reading takes, are together of bulk at most 1048576: NARROWER than '..Said'. Prove '..Said' where nothing that the law and all that it calls make is longer than what came in: it says more and counts as full. Else prove '..UptoSaid'. A law counts once. -/
mutual
def uptoBulk {H : Type} : DataW H → Nat
  | .lit (.string bytes) => bytes.length + 1
  | .lit _ => 1
  | .nil => 1
  | .ptr d => uptoBulk d + 1
  | .slice elems spare => uptoBulkAll elems + uptoBulkAll spare + 1
  | .agg parts => uptoBulkAll parts + 1
  | .iface _ d => uptoBulk d + 1
  | .map entries => uptoBulkEntries entries + 1
  | .held _ => 1
def uptoBulkAll {H : Type} : List (DataW H) → Nat
  | [] => 0
  | d :: r => uptoBulk d + uptoBulkAll r
def uptoBulkEntries {H : Type} : List (Lit × DataW H) → Nat
  | [] => 0
  | x :: r => uptoBulkEntry x + uptoBulkEntries r
def uptoBulkEntry {H : Type} : Lit × DataW H → Nat
  | (.string bytes, d) => bytes.length + uptoBulk d + 1
  | (_, d) => uptoBulk d + 1
 end
def uptoSmall : (H : Type) → List (DataW H) → Bool := fun _ ds => decide (uptoBulkAll ds ≤ 1048576)
def OpenSpec.upto (s : _root_.Go.ChangeSpec) : _root_.Go.OpenSpec := { _root_.Go.OpenSpec.ofChange s with cond := some uptoSmall }

/-- 'laws.FnExactPointStmt', WHERE WHAT IT READS IS OF BULK AT MOST 1048576: true; the input reads as it did. -/
def fnExactPointStmtUptoRow : OpenClaim := { program := "ytollooimmfngjaa", sum := "fc15e4386db22b4cc8f8f13ef674462e2ecd6f78038c72ef5d5daf923ec18cd0", func := "loop.example/loopnests/laws.FnExactPointStmt", spec := "fnExactPointStmt", inPlace := ["internal/bytealg.IndexByteString", "internal/bytealg.IndexString"], unfollowed := true, recurses := true, named := ["internal/bytealg.MaxLen"], loops := true, apart := false, narrowed := true }
def FnExactPointStmtUptoSaid : Prop := fnExactPointStmtUptoRow.holds Try.pinned (OpenSpec.upto fnExactPointStmtSpec)

/-- 'laws.FnExactFoldStmt', WHERE WHAT IT READS IS OF BULK AT MOST 1048576: true; the input reads as it did. -/
def fnExactFoldStmtUptoRow : OpenClaim := { program := "ytollooimmfngjaa", sum := "fc15e4386db22b4cc8f8f13ef674462e2ecd6f78038c72ef5d5daf923ec18cd0", func := "loop.example/loopnests/laws.FnExactFoldStmt", spec := "fnExactFoldStmt", inPlace := ["internal/bytealg.IndexByteString", "internal/bytealg.IndexString"], unfollowed := true, recurses := true, named := ["internal/bytealg.MaxLen"], loops := true, apart := false, narrowed := true }
def FnExactFoldStmtUptoSaid : Prop := fnExactFoldStmtUptoRow.holds Try.pinned (OpenSpec.upto fnExactFoldStmtSpec)

end Rows
end Go.Proofs.Ytollooimmfngjaa
