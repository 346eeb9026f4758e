/-
  NARROWER THAN 'FOR EVERY INPUT', by the rows' own cells (each row's printed sentence says how): FnExactCountOps: loops · FnExactReductionOf: loops · FnExactStmtConst: loops.
  DERIVED. THE GIVEN ROWS OF THIS SEAT. 12 by the template 'for every input the law returns true; each argument reads behind the call as it read before'; 0 by the template 'total and deterministic' (their statements: YtigdfdhjnadieaaTotals.lean).
  GIVEN WITH THE SEED: the statements are not yours to turn. If you find one false, say at which input.
  Laid BY PROGRAM, IN A SANDBOX (cutbox-rows.mjs): the forced cells as the released guide's own fill.sh prints them over the translation d6d9505e782cf1bf… (all of the seat's roots in one cut). By AI agents, Wed Nov 11 2026. No macro, syntax, notation, axiom, sorry.
-/
import Derived.Test.YtigdfdhjnadieaaChecked
import GoSem.Claim
import GoSem.ClaimJoined
import GoSem.ClaimMapViews
import Derived.JoinedTies
import Derived.KernelRfl
namespace Go.Proofs.Ytigdfdhjnadieaa
/- THE CELL 'sum', in the pinned program and in every row, IS THE sha256 OF THE DUMP (.gsa) THAT YtigdfdhjnadieaaProg.lean LOADS. Nothing in Lean hashes anything: it is a label: what it is worth is what the hold of that sum in a sandbox is worth. -/
noncomputable def Try.pinned : Pinned := { name := "ytigdfdhjnadieaa", sum := "d6d9505e782cf1bf39293f0e8dc5f8275641f53ee0cbb8ed60a6a953b0b20d98", checked := Try.checked }
namespace Rows
def none {H : Type} : Left H := { results := [], args := [] }

/-- 'laws.FnStmtValid': WHATEVER THE INPUT: true; the input reads as it did. -/
def fnStmtValidSpec : ChangeSpec := { name := "fnStmtValid", fn := fun _ => fun
  | [d] => { results := [.lit (.bool true)], args := [d] }
  | _ => none }
def fnStmtValidRow : OpenClaim := { program := "ytigdfdhjnadieaa", sum := "d6d9505e782cf1bf39293f0e8dc5f8275641f53ee0cbb8ed60a6a953b0b20d98", func := "loop.example/loopnests/laws.FnStmtValid", spec := "fnStmtValid", inPlace := ["internal/bytealg.IndexByteString", "internal/bytealg.IndexString"], unfollowed := true, recurses := true, named := ["internal/bytealg.MaxLen"], apart := false }
def FnStmtValidSaid : Prop := fnStmtValidRow.holds Try.pinned (OpenSpec.ofChange fnStmtValidSpec)

/-- ITS FALSE NEIGHBOUR: 'it returns false'. Refute it at one input. -/
def fnStmtValidWrong : ChangeSpec := { name := "fnStmtValid", fn := fun _ => fun
  | [d] => { results := [.lit (.bool false)], args := [d] }
  | _ => none }
def FnStmtValidWrongFalsely : Prop := fnStmtValidRow.holds Try.pinned (OpenSpec.ofChange fnStmtValidWrong)

/-- 'laws.FnCountOps': WHATEVER THE INPUT: true; the input reads as it did. -/
def fnCountOpsSpec : ChangeSpec := { name := "fnCountOps", fn := fun _ => fun
  | [d] => { results := [.lit (.bool true)], args := [d] }
  | _ => none }
def fnCountOpsRow : OpenClaim := { program := "ytigdfdhjnadieaa", sum := "d6d9505e782cf1bf39293f0e8dc5f8275641f53ee0cbb8ed60a6a953b0b20d98", func := "loop.example/loopnests/laws.FnCountOps", spec := "fnCountOps", inPlace := ["internal/bytealg.IndexByteString", "internal/bytealg.IndexString"], unfollowed := true, recurses := true, named := ["internal/bytealg.MaxLen"], apart := false }
def FnCountOpsSaid : Prop := fnCountOpsRow.holds Try.pinned (OpenSpec.ofChange fnCountOpsSpec)

/-- ITS FALSE NEIGHBOUR: 'it returns false'. Refute it at one input. -/
def fnCountOpsWrong : ChangeSpec := { name := "fnCountOps", fn := fun _ => fun
  | [d] => { results := [.lit (.bool false)], args := [d] }
  | _ => none }
def FnCountOpsWrongFalsely : Prop := fnCountOpsRow.holds Try.pinned (OpenSpec.ofChange fnCountOpsWrong)

/-- 'laws.FnStmtSum': WHATEVER THE INPUT: true; the input reads as it did. -/
def fnStmtSumSpec : ChangeSpec := { name := "fnStmtSum", fn := fun _ => fun
  | [d1, d2] => { results := [.lit (.bool true)], args := [d1, d2] }
  | _ => none }
def fnStmtSumRow : OpenClaim := { program := "ytigdfdhjnadieaa", sum := "d6d9505e782cf1bf39293f0e8dc5f8275641f53ee0cbb8ed60a6a953b0b20d98", func := "loop.example/loopnests/laws.FnStmtSum", spec := "fnStmtSum", inPlace := ["internal/bytealg.IndexByteString", "internal/bytealg.IndexString"], unfollowed := true, recurses := true, named := ["internal/bytealg.MaxLen"], apart := false }
def FnStmtSumSaid : Prop := fnStmtSumRow.holds Try.pinned (OpenSpec.ofChange fnStmtSumSpec)

/-- ITS FALSE NEIGHBOUR: 'it returns false'. Refute it at one input. -/
def fnStmtSumWrong : ChangeSpec := { name := "fnStmtSum", fn := fun _ => fun
  | [d1, d2] => { results := [.lit (.bool false)], args := [d1, d2] }
  | _ => none }
def FnStmtSumWrongFalsely : Prop := fnStmtSumRow.holds Try.pinned (OpenSpec.ofChange fnStmtSumWrong)

/-- 'laws.FnExactCountOps': WHATEVER THE INPUT: true; the input reads as it did. -/
def fnExactCountOpsSpec : ChangeSpec := { name := "fnExactCountOps", fn := fun _ => fun
  | [d] => { results := [.lit (.bool true)], args := [d] }
  | _ => none }
def fnExactCountOpsRow : OpenClaim := { program := "ytigdfdhjnadieaa", sum := "d6d9505e782cf1bf39293f0e8dc5f8275641f53ee0cbb8ed60a6a953b0b20d98", func := "loop.example/loopnests/laws.FnExactCountOps", spec := "fnExactCountOps", inPlace := ["internal/bytealg.IndexByteString", "internal/bytealg.IndexString"], unfollowed := true, recurses := true, named := ["internal/bytealg.MaxLen"], loops := true, apart := false }
def FnExactCountOpsSaid : Prop := fnExactCountOpsRow.holds Try.pinned (OpenSpec.ofChange fnExactCountOpsSpec)

/-- ITS FALSE NEIGHBOUR: 'it returns false'. Refute it at one input. -/
def fnExactCountOpsWrong : ChangeSpec := { name := "fnExactCountOps", fn := fun _ => fun
  | [d] => { results := [.lit (.bool false)], args := [d] }
  | _ => none }
def FnExactCountOpsWrongFalsely : Prop := fnExactCountOpsRow.holds Try.pinned (OpenSpec.ofChange fnExactCountOpsWrong)

/-- 'laws.FnSubstOrder': WHATEVER THE INPUT: true; the input reads as it did. -/
def fnSubstOrderSpec : ChangeSpec := { name := "fnSubstOrder", fn := fun _ => fun
  | [d1, d2] => { results := [.lit (.bool true)], args := [d1, d2] }
  | _ => none }
def fnSubstOrderRow : OpenClaim := { program := "ytigdfdhjnadieaa", sum := "d6d9505e782cf1bf39293f0e8dc5f8275641f53ee0cbb8ed60a6a953b0b20d98", func := "loop.example/loopnests/laws.FnSubstOrder", spec := "fnSubstOrder", inPlace := ["internal/bytealg.IndexByteString", "internal/bytealg.IndexString"], unfollowed := true, recurses := true, named := ["internal/bytealg.MaxLen"], apart := false }
def FnSubstOrderSaid : Prop := fnSubstOrderRow.holds Try.pinned (OpenSpec.ofChange fnSubstOrderSpec)

/-- ITS FALSE NEIGHBOUR: 'it returns false'. Refute it at one input. -/
def fnSubstOrderWrong : ChangeSpec := { name := "fnSubstOrder", fn := fun _ => fun
  | [d1, d2] => { results := [.lit (.bool false)], args := [d1, d2] }
  | _ => none }
def FnSubstOrderWrongFalsely : Prop := fnSubstOrderRow.holds Try.pinned (OpenSpec.ofChange fnSubstOrderWrong)

/-- 'laws.FnSubstTwice': WHATEVER THE INPUT: true; the input reads as it did. -/
def fnSubstTwiceSpec : ChangeSpec := { name := "fnSubstTwice", fn := fun _ => fun
  | [d1, d2] => { results := [.lit (.bool true)], args := [d1, d2] }
  | _ => none }
def fnSubstTwiceRow : OpenClaim := { program := "ytigdfdhjnadieaa", sum := "d6d9505e782cf1bf39293f0e8dc5f8275641f53ee0cbb8ed60a6a953b0b20d98", func := "loop.example/loopnests/laws.FnSubstTwice", spec := "fnSubstTwice", inPlace := ["internal/bytealg.IndexByteString", "internal/bytealg.IndexString"], unfollowed := true, recurses := true, named := ["internal/bytealg.MaxLen"], apart := false }
def FnSubstTwiceSaid : Prop := fnSubstTwiceRow.holds Try.pinned (OpenSpec.ofChange fnSubstTwiceSpec)

/-- ITS FALSE NEIGHBOUR: 'it returns false'. Refute it at one input. -/
def fnSubstTwiceWrong : ChangeSpec := { name := "fnSubstTwice", fn := fun _ => fun
  | [d1, d2] => { results := [.lit (.bool false)], args := [d1, d2] }
  | _ => none }
def FnSubstTwiceWrongFalsely : Prop := fnSubstTwiceRow.holds Try.pinned (OpenSpec.ofChange fnSubstTwiceWrong)

/-- 'laws.FnExactReductionOf': WHATEVER THE INPUT: true; the input reads as it did. -/
def fnExactReductionOfSpec : ChangeSpec := { name := "fnExactReductionOf", fn := fun _ => fun
  | [d] => { results := [.lit (.bool true)], args := [d] }
  | _ => none }
def fnExactReductionOfRow : OpenClaim := { program := "ytigdfdhjnadieaa", sum := "d6d9505e782cf1bf39293f0e8dc5f8275641f53ee0cbb8ed60a6a953b0b20d98", func := "loop.example/loopnests/laws.FnExactReductionOf", spec := "fnExactReductionOf", inPlace := ["internal/bytealg.IndexByteString", "internal/bytealg.IndexString"], unfollowed := true, recurses := true, named := ["internal/bytealg.MaxLen"], loops := true, apart := false }
def FnExactReductionOfSaid : Prop := fnExactReductionOfRow.holds Try.pinned (OpenSpec.ofChange fnExactReductionOfSpec)

/-- ITS FALSE NEIGHBOUR: 'it returns false'. Refute it at one input. -/
def fnExactReductionOfWrong : ChangeSpec := { name := "fnExactReductionOf", fn := fun _ => fun
  | [d] => { results := [.lit (.bool false)], args := [d] }
  | _ => none }
def FnExactReductionOfWrongFalsely : Prop := fnExactReductionOfRow.holds Try.pinned (OpenSpec.ofChange fnExactReductionOfWrong)

/-- 'laws.FnPointStmt': WHATEVER THE INPUT: true; the input reads as it did. -/
def fnPointStmtSpec : ChangeSpec := { name := "fnPointStmt", fn := fun _ => fun
  | [d] => { results := [.lit (.bool true)], args := [d] }
  | _ => none }
def fnPointStmtRow : OpenClaim := { program := "ytigdfdhjnadieaa", sum := "d6d9505e782cf1bf39293f0e8dc5f8275641f53ee0cbb8ed60a6a953b0b20d98", func := "loop.example/loopnests/laws.FnPointStmt", spec := "fnPointStmt", inPlace := ["internal/bytealg.IndexByteString", "internal/bytealg.IndexString"], unfollowed := true, recurses := true, named := ["internal/bytealg.MaxLen"], apart := false }
def FnPointStmtSaid : Prop := fnPointStmtRow.holds Try.pinned (OpenSpec.ofChange fnPointStmtSpec)

/-- ITS FALSE NEIGHBOUR: 'it returns false'. Refute it at one input. -/
def fnPointStmtWrong : ChangeSpec := { name := "fnPointStmt", fn := fun _ => fun
  | [d] => { results := [.lit (.bool false)], args := [d] }
  | _ => none }
def FnPointStmtWrongFalsely : Prop := fnPointStmtRow.holds Try.pinned (OpenSpec.ofChange fnPointStmtWrong)

/-- 'laws.FnExactStmtConst': WHATEVER THE INPUT: true; the input reads as it did. -/
def fnExactStmtConstSpec : ChangeSpec := { name := "fnExactStmtConst", fn := fun _ => fun
  | [d] => { results := [.lit (.bool true)], args := [d] }
  | _ => none }
def fnExactStmtConstRow : OpenClaim := { program := "ytigdfdhjnadieaa", sum := "d6d9505e782cf1bf39293f0e8dc5f8275641f53ee0cbb8ed60a6a953b0b20d98", func := "loop.example/loopnests/laws.FnExactStmtConst", spec := "fnExactStmtConst", inPlace := ["internal/bytealg.IndexByteString", "internal/bytealg.IndexString"], unfollowed := true, recurses := true, named := ["internal/bytealg.MaxLen"], loops := true, apart := false }
def FnExactStmtConstSaid : Prop := fnExactStmtConstRow.holds Try.pinned (OpenSpec.ofChange fnExactStmtConstSpec)

/-- ITS FALSE NEIGHBOUR: 'it returns false'. Refute it at one input. -/
def fnExactStmtConstWrong : ChangeSpec := { name := "fnExactStmtConst", fn := fun _ => fun
  | [d] => { results := [.lit (.bool false)], args := [d] }
  | _ => none }
def FnExactStmtConstWrongFalsely : Prop := fnExactStmtConstRow.holds Try.pinned (OpenSpec.ofChange fnExactStmtConstWrong)

/-- 'laws.FnSubstStmt': WHATEVER THE INPUT: true; the input reads as it did. -/
def fnSubstStmtSpec : ChangeSpec := { name := "fnSubstStmt", fn := fun _ => fun
  | [d] => { results := [.lit (.bool true)], args := [d] }
  | _ => none }
def fnSubstStmtRow : OpenClaim := { program := "ytigdfdhjnadieaa", sum := "d6d9505e782cf1bf39293f0e8dc5f8275641f53ee0cbb8ed60a6a953b0b20d98", func := "loop.example/loopnests/laws.FnSubstStmt", spec := "fnSubstStmt", inPlace := ["internal/bytealg.IndexByteString", "internal/bytealg.IndexString"], unfollowed := true, recurses := true, named := ["internal/bytealg.MaxLen"], apart := false }
def FnSubstStmtSaid : Prop := fnSubstStmtRow.holds Try.pinned (OpenSpec.ofChange fnSubstStmtSpec)

/-- ITS FALSE NEIGHBOUR: 'it returns false'. Refute it at one input. -/
def fnSubstStmtWrong : ChangeSpec := { name := "fnSubstStmt", fn := fun _ => fun
  | [d] => { results := [.lit (.bool false)], args := [d] }
  | _ => none }
def FnSubstStmtWrongFalsely : Prop := fnSubstStmtRow.holds Try.pinned (OpenSpec.ofChange fnSubstStmtWrong)

/-- 'laws.FnFoldReads': WHATEVER THE INPUT: true; the input reads as it did. -/
def fnFoldReadsSpec : ChangeSpec := { name := "fnFoldReads", fn := fun _ => fun
  | [d] => { results := [.lit (.bool true)], args := [d] }
  | _ => none }
def fnFoldReadsRow : OpenClaim := { program := "ytigdfdhjnadieaa", sum := "d6d9505e782cf1bf39293f0e8dc5f8275641f53ee0cbb8ed60a6a953b0b20d98", func := "loop.example/loopnests/laws.FnFoldReads", spec := "fnFoldReads", inPlace := ["internal/bytealg.IndexByteString", "internal/bytealg.IndexString"], unfollowed := true, recurses := true, named := ["internal/bytealg.MaxLen"], apart := false }
def FnFoldReadsSaid : Prop := fnFoldReadsRow.holds Try.pinned (OpenSpec.ofChange fnFoldReadsSpec)

/-- ITS FALSE NEIGHBOUR: 'it returns false'. Refute it at one input. -/
def fnFoldReadsWrong : ChangeSpec := { name := "fnFoldReads", fn := fun _ => fun
  | [d] => { results := [.lit (.bool false)], args := [d] }
  | _ => none }
def FnFoldReadsWrongFalsely : Prop := fnFoldReadsRow.holds Try.pinned (OpenSpec.ofChange fnFoldReadsWrong)

/-- 'laws.FnFoldStmt': WHATEVER THE INPUT: true; the input reads as it did. -/
def fnFoldStmtSpec : ChangeSpec := { name := "fnFoldStmt", fn := fun _ => fun
  | [d] => { results := [.lit (.bool true)], args := [d] }
  | _ => none }
def fnFoldStmtRow : OpenClaim := { program := "ytigdfdhjnadieaa", sum := "d6d9505e782cf1bf39293f0e8dc5f8275641f53ee0cbb8ed60a6a953b0b20d98", func := "loop.example/loopnests/laws.FnFoldStmt", spec := "fnFoldStmt", inPlace := ["internal/bytealg.IndexByteString", "internal/bytealg.IndexString"], unfollowed := true, recurses := true, named := ["internal/bytealg.MaxLen"], apart := false }
def FnFoldStmtSaid : Prop := fnFoldStmtRow.holds Try.pinned (OpenSpec.ofChange fnFoldStmtSpec)

/-- ITS FALSE NEIGHBOUR: 'it returns false'. Refute it at one input. -/
def fnFoldStmtWrong : ChangeSpec := { name := "fnFoldStmt", fn := fun _ => fun
  | [d] => { results := [.lit (.bool false)], args := [d] }
  | _ => none }
def FnFoldStmtWrongFalsely : Prop := fnFoldStmtRow.holds Try.pinned (OpenSpec.ofChange fnFoldStmtWrong)

/- THE SECOND FORM. 'bulk': how many values and letters a reading holds, each counted each time it is reached (what is shared counts as often as it is met; a slice's spare places count too). A statement '..UptoSaid' is the law's where the arguments, and the package variables that the reading takes, are together of bulk at most 1048576: NARROWER than '..Said'. Prove '..Said' where nothing that the law and all that it calls make is longer than what came in: it says more and counts as full. Else prove '..UptoSaid'. A law counts once. -/
mutual
def uptoBulk {H : Type} : DataW H → Nat
  | .lit (.string bytes) => bytes.length + 1
  | .lit _ => 1
  | .nil => 1
  | .ptr d => uptoBulk d + 1
  | .slice elems spare => uptoBulkAll elems + uptoBulkAll spare + 1
  | .agg parts => uptoBulkAll parts + 1
  | .iface _ d => uptoBulk d + 1
  | .map entries => uptoBulkEntries entries + 1
  | .held _ => 1
def uptoBulkAll {H : Type} : List (DataW H) → Nat
  | [] => 0
  | d :: r => uptoBulk d + uptoBulkAll r
def uptoBulkEntries {H : Type} : List (Lit × DataW H) → Nat
  | [] => 0
  | x :: r => uptoBulkEntry x + uptoBulkEntries r
def uptoBulkEntry {H : Type} : Lit × DataW H → Nat
  | (.string bytes, d) => bytes.length + uptoBulk d + 1
  | (_, d) => uptoBulk d + 1
 end
def uptoSmall : (H : Type) → List (DataW H) → Bool := fun _ ds => decide (uptoBulkAll ds ≤ 1048576)
def OpenSpec.upto (s : _root_.Go.ChangeSpec) : _root_.Go.OpenSpec := { _root_.Go.OpenSpec.ofChange s with cond := some uptoSmall }

/-- 'laws.FnStmtValid', WHERE WHAT IT READS IS OF BULK AT MOST 1048576: true; the input reads as it did. -/
def fnStmtValidUptoRow : OpenClaim := { program := "ytigdfdhjnadieaa", sum := "d6d9505e782cf1bf39293f0e8dc5f8275641f53ee0cbb8ed60a6a953b0b20d98", func := "loop.example/loopnests/laws.FnStmtValid", spec := "fnStmtValid", inPlace := ["internal/bytealg.IndexByteString", "internal/bytealg.IndexString"], unfollowed := true, recurses := true, named := ["internal/bytealg.MaxLen"], apart := false, narrowed := true }
def FnStmtValidUptoSaid : Prop := fnStmtValidUptoRow.holds Try.pinned (OpenSpec.upto fnStmtValidSpec)

/-- 'laws.FnCountOps', WHERE WHAT IT READS IS OF BULK AT MOST 1048576: true; the input reads as it did. -/
def fnCountOpsUptoRow : OpenClaim := { program := "ytigdfdhjnadieaa", sum := "d6d9505e782cf1bf39293f0e8dc5f8275641f53ee0cbb8ed60a6a953b0b20d98", func := "loop.example/loopnests/laws.FnCountOps", spec := "fnCountOps", inPlace := ["internal/bytealg.IndexByteString", "internal/bytealg.IndexString"], unfollowed := true, recurses := true, named := ["internal/bytealg.MaxLen"], apart := false, narrowed := true }
def FnCountOpsUptoSaid : Prop := fnCountOpsUptoRow.holds Try.pinned (OpenSpec.upto fnCountOpsSpec)

/-- 'laws.FnStmtSum', WHERE WHAT IT READS IS OF BULK AT MOST 1048576: true; the input reads as it did. -/
def fnStmtSumUptoRow : OpenClaim := { program := "ytigdfdhjnadieaa", sum := "d6d9505e782cf1bf39293f0e8dc5f8275641f53ee0cbb8ed60a6a953b0b20d98", func := "loop.example/loopnests/laws.FnStmtSum", spec := "fnStmtSum", inPlace := ["internal/bytealg.IndexByteString", "internal/bytealg.IndexString"], unfollowed := true, recurses := true, named := ["internal/bytealg.MaxLen"], apart := false, narrowed := true }
def FnStmtSumUptoSaid : Prop := fnStmtSumUptoRow.holds Try.pinned (OpenSpec.upto fnStmtSumSpec)

/-- 'laws.FnExactCountOps', WHERE WHAT IT READS IS OF BULK AT MOST 1048576: true; the input reads as it did. -/
def fnExactCountOpsUptoRow : OpenClaim := { program := "ytigdfdhjnadieaa", sum := "d6d9505e782cf1bf39293f0e8dc5f8275641f53ee0cbb8ed60a6a953b0b20d98", func := "loop.example/loopnests/laws.FnExactCountOps", spec := "fnExactCountOps", inPlace := ["internal/bytealg.IndexByteString", "internal/bytealg.IndexString"], unfollowed := true, recurses := true, named := ["internal/bytealg.MaxLen"], loops := true, apart := false, narrowed := true }
def FnExactCountOpsUptoSaid : Prop := fnExactCountOpsUptoRow.holds Try.pinned (OpenSpec.upto fnExactCountOpsSpec)

/-- 'laws.FnSubstOrder', WHERE WHAT IT READS IS OF BULK AT MOST 1048576: true; the input reads as it did. -/
def fnSubstOrderUptoRow : OpenClaim := { program := "ytigdfdhjnadieaa", sum := "d6d9505e782cf1bf39293f0e8dc5f8275641f53ee0cbb8ed60a6a953b0b20d98", func := "loop.example/loopnests/laws.FnSubstOrder", spec := "fnSubstOrder", inPlace := ["internal/bytealg.IndexByteString", "internal/bytealg.IndexString"], unfollowed := true, recurses := true, named := ["internal/bytealg.MaxLen"], apart := false, narrowed := true }
def FnSubstOrderUptoSaid : Prop := fnSubstOrderUptoRow.holds Try.pinned (OpenSpec.upto fnSubstOrderSpec)

/-- 'laws.FnSubstTwice', WHERE WHAT IT READS IS OF BULK AT MOST 1048576: true; the input reads as it did. -/
def fnSubstTwiceUptoRow : OpenClaim := { program := "ytigdfdhjnadieaa", sum := "d6d9505e782cf1bf39293f0e8dc5f8275641f53ee0cbb8ed60a6a953b0b20d98", func := "loop.example/loopnests/laws.FnSubstTwice", spec := "fnSubstTwice", inPlace := ["internal/bytealg.IndexByteString", "internal/bytealg.IndexString"], unfollowed := true, recurses := true, named := ["internal/bytealg.MaxLen"], apart := false, narrowed := true }
def FnSubstTwiceUptoSaid : Prop := fnSubstTwiceUptoRow.holds Try.pinned (OpenSpec.upto fnSubstTwiceSpec)

/-- 'laws.FnExactReductionOf', WHERE WHAT IT READS IS OF BULK AT MOST 1048576: true; the input reads as it did. -/
def fnExactReductionOfUptoRow : OpenClaim := { program := "ytigdfdhjnadieaa", sum := "d6d9505e782cf1bf39293f0e8dc5f8275641f53ee0cbb8ed60a6a953b0b20d98", func := "loop.example/loopnests/laws.FnExactReductionOf", spec := "fnExactReductionOf", inPlace := ["internal/bytealg.IndexByteString", "internal/bytealg.IndexString"], unfollowed := true, recurses := true, named := ["internal/bytealg.MaxLen"], loops := true, apart := false, narrowed := true }
def FnExactReductionOfUptoSaid : Prop := fnExactReductionOfUptoRow.holds Try.pinned (OpenSpec.upto fnExactReductionOfSpec)

/-- 'laws.FnPointStmt', WHERE WHAT IT READS IS OF BULK AT MOST 1048576: true; the input reads as it did. -/
def fnPointStmtUptoRow : OpenClaim := { program := "ytigdfdhjnadieaa", sum := "d6d9505e782cf1bf39293f0e8dc5f8275641f53ee0cbb8ed60a6a953b0b20d98", func := "loop.example/loopnests/laws.FnPointStmt", spec := "fnPointStmt", inPlace := ["internal/bytealg.IndexByteString", "internal/bytealg.IndexString"], unfollowed := true, recurses := true, named := ["internal/bytealg.MaxLen"], apart := false, narrowed := true }
def FnPointStmtUptoSaid : Prop := fnPointStmtUptoRow.holds Try.pinned (OpenSpec.upto fnPointStmtSpec)

/-- 'laws.FnExactStmtConst', WHERE WHAT IT READS IS OF BULK AT MOST 1048576: true; the input reads as it did. -/
def fnExactStmtConstUptoRow : OpenClaim := { program := "ytigdfdhjnadieaa", sum := "d6d9505e782cf1bf39293f0e8dc5f8275641f53ee0cbb8ed60a6a953b0b20d98", func := "loop.example/loopnests/laws.FnExactStmtConst", spec := "fnExactStmtConst", inPlace := ["internal/bytealg.IndexByteString", "internal/bytealg.IndexString"], unfollowed := true, recurses := true, named := ["internal/bytealg.MaxLen"], loops := true, apart := false, narrowed := true }
def FnExactStmtConstUptoSaid : Prop := fnExactStmtConstUptoRow.holds Try.pinned (OpenSpec.upto fnExactStmtConstSpec)

/-- 'laws.FnSubstStmt', WHERE WHAT IT READS IS OF BULK AT MOST 1048576: true; the input reads as it did. -/
def fnSubstStmtUptoRow : OpenClaim := { program := "ytigdfdhjnadieaa", sum := "d6d9505e782cf1bf39293f0e8dc5f8275641f53ee0cbb8ed60a6a953b0b20d98", func := "loop.example/loopnests/laws.FnSubstStmt", spec := "fnSubstStmt", inPlace := ["internal/bytealg.IndexByteString", "internal/bytealg.IndexString"], unfollowed := true, recurses := true, named := ["internal/bytealg.MaxLen"], apart := false, narrowed := true }
def FnSubstStmtUptoSaid : Prop := fnSubstStmtUptoRow.holds Try.pinned (OpenSpec.upto fnSubstStmtSpec)

/-- 'laws.FnFoldReads', WHERE WHAT IT READS IS OF BULK AT MOST 1048576: true; the input reads as it did. -/
def fnFoldReadsUptoRow : OpenClaim := { program := "ytigdfdhjnadieaa", sum := "d6d9505e782cf1bf39293f0e8dc5f8275641f53ee0cbb8ed60a6a953b0b20d98", func := "loop.example/loopnests/laws.FnFoldReads", spec := "fnFoldReads", inPlace := ["internal/bytealg.IndexByteString", "internal/bytealg.IndexString"], unfollowed := true, recurses := true, named := ["internal/bytealg.MaxLen"], apart := false, narrowed := true }
def FnFoldReadsUptoSaid : Prop := fnFoldReadsUptoRow.holds Try.pinned (OpenSpec.upto fnFoldReadsSpec)

/-- 'laws.FnFoldStmt', WHERE WHAT IT READS IS OF BULK AT MOST 1048576: true; the input reads as it did. -/
def fnFoldStmtUptoRow : OpenClaim := { program := "ytigdfdhjnadieaa", sum := "d6d9505e782cf1bf39293f0e8dc5f8275641f53ee0cbb8ed60a6a953b0b20d98", func := "loop.example/loopnests/laws.FnFoldStmt", spec := "fnFoldStmt", inPlace := ["internal/bytealg.IndexByteString", "internal/bytealg.IndexString"], unfollowed := true, recurses := true, named := ["internal/bytealg.MaxLen"], apart := false, narrowed := true }
def FnFoldStmtUptoSaid : Prop := fnFoldStmtUptoRow.holds Try.pinned (OpenSpec.upto fnFoldStmtSpec)

end Rows
end Go.Proofs.Ytigdfdhjnadieaa
