/-
  NARROWER THAN 'FOR EVERY INPUT', by the rows' own cells (each row's printed sentence says how): FnExactAddressTrace: loops · FnExactPartReads: loops · FnExactPartWrites: loops · FnExactReducedLevels: loops · FnExactStrictDeps: loops · FnExactReducedOrder: loops · FnExactCarriedLevels: loops · FnExactParallelLoops: loops.
  DERIVED. THE GIVEN ROWS OF THIS SEAT. 8 by the template 'for every input the law returns true; each argument reads behind the call as it read before'; 0 by the template 'total and deterministic' (their statements: YtongpceopgkhnaaGreatTotals.lean).
  GIVEN WITH THE SEED: the statements are not yours to turn. If you find one false, say at which input.
  Laid BY PROGRAM, IN A SANDBOX (cutbox-rows.mjs): the forced cells as the released guide's own fill.sh prints them over the translation 8d6ff747151250b5… (all of the seat's roots in one cut). By AI agents, Wed Nov 11 2026. No macro, syntax, notation, axiom, sorry.
-/
import Derived.Test.YtongpceopgkhnaaGreatChecked
import GoSem.Claim
import GoSem.ClaimJoined
import GoSem.ClaimMapViews
import Derived.JoinedTies
import Derived.KernelRfl
namespace Go.Proofs.YtongpceopgkhnaaGreat
/- THE CELL 'sum', in the pinned program and in every row, IS THE sha256 OF THE DUMP (.gsa) THAT YtongpceopgkhnaaGreatProg.lean LOADS. Nothing in Lean hashes anything: it is a label: what it is worth is what the hold of that sum in a sandbox is worth. -/
noncomputable def Tryz.pinned : Pinned := { name := "ytongpceopgkhnaagreat", sum := "8d6ff747151250b539ac00406b922e25616b728ec8c56a29db2c1724a0fd28d6", checked := Tryz.checked }
namespace Rows
def none {H : Type} : Left H := { results := [], args := [] }

/-- 'laws.FnExactAddressTrace': WHATEVER THE INPUT: true; the input reads as it did. -/
def fnExactAddressTraceSpec : ChangeSpec := { name := "fnExactAddressTrace", fn := fun _ => fun
  | [d] => { results := [.lit (.bool true)], args := [d] }
  | _ => none }
def fnExactAddressTraceRow : OpenClaim := { program := "ytongpceopgkhnaagreat", sum := "8d6ff747151250b539ac00406b922e25616b728ec8c56a29db2c1724a0fd28d6", func := "loop.example/loopnests/laws.FnExactAddressTrace", spec := "fnExactAddressTrace", inPlace := ["internal/bytealg.IndexByteString", "internal/bytealg.IndexString"], unfollowed := true, recurses := true, named := ["internal/bytealg.MaxLen"], loops := true, apart := false }
def FnExactAddressTraceSaid : Prop := fnExactAddressTraceRow.holds Tryz.pinned (OpenSpec.ofChange fnExactAddressTraceSpec)

/-- ITS FALSE NEIGHBOUR: 'it returns false'. Refute it at one input. -/
def fnExactAddressTraceWrong : ChangeSpec := { name := "fnExactAddressTrace", fn := fun _ => fun
  | [d] => { results := [.lit (.bool false)], args := [d] }
  | _ => none }
def FnExactAddressTraceWrongFalsely : Prop := fnExactAddressTraceRow.holds Tryz.pinned (OpenSpec.ofChange fnExactAddressTraceWrong)

/-- 'laws.FnExactPartReads': WHATEVER THE INPUT: true; the input reads as it did. -/
def fnExactPartReadsSpec : ChangeSpec := { name := "fnExactPartReads", fn := fun _ => fun
  | [d1, d2] => { results := [.lit (.bool true)], args := [d1, d2] }
  | _ => none }
def fnExactPartReadsRow : OpenClaim := { program := "ytongpceopgkhnaagreat", sum := "8d6ff747151250b539ac00406b922e25616b728ec8c56a29db2c1724a0fd28d6", func := "loop.example/loopnests/laws.FnExactPartReads", spec := "fnExactPartReads", inPlace := ["internal/bytealg.IndexByteString", "internal/bytealg.IndexString"], unfollowed := true, recurses := true, named := ["internal/bytealg.MaxLen"], loops := true, apart := false }
def FnExactPartReadsSaid : Prop := fnExactPartReadsRow.holds Tryz.pinned (OpenSpec.ofChange fnExactPartReadsSpec)

/-- ITS FALSE NEIGHBOUR: 'it returns false'. Refute it at one input. -/
def fnExactPartReadsWrong : ChangeSpec := { name := "fnExactPartReads", fn := fun _ => fun
  | [d1, d2] => { results := [.lit (.bool false)], args := [d1, d2] }
  | _ => none }
def FnExactPartReadsWrongFalsely : Prop := fnExactPartReadsRow.holds Tryz.pinned (OpenSpec.ofChange fnExactPartReadsWrong)

/-- 'laws.FnExactPartWrites': WHATEVER THE INPUT: true; the input reads as it did. -/
def fnExactPartWritesSpec : ChangeSpec := { name := "fnExactPartWrites", fn := fun _ => fun
  | [d1, d2] => { results := [.lit (.bool true)], args := [d1, d2] }
  | _ => none }
def fnExactPartWritesRow : OpenClaim := { program := "ytongpceopgkhnaagreat", sum := "8d6ff747151250b539ac00406b922e25616b728ec8c56a29db2c1724a0fd28d6", func := "loop.example/loopnests/laws.FnExactPartWrites", spec := "fnExactPartWrites", inPlace := ["internal/bytealg.IndexByteString", "internal/bytealg.IndexString"], unfollowed := true, recurses := true, named := ["internal/bytealg.MaxLen"], loops := true, apart := false }
def FnExactPartWritesSaid : Prop := fnExactPartWritesRow.holds Tryz.pinned (OpenSpec.ofChange fnExactPartWritesSpec)

/-- ITS FALSE NEIGHBOUR: 'it returns false'. Refute it at one input. -/
def fnExactPartWritesWrong : ChangeSpec := { name := "fnExactPartWrites", fn := fun _ => fun
  | [d1, d2] => { results := [.lit (.bool false)], args := [d1, d2] }
  | _ => none }
def FnExactPartWritesWrongFalsely : Prop := fnExactPartWritesRow.holds Tryz.pinned (OpenSpec.ofChange fnExactPartWritesWrong)

/-- 'laws.FnExactReducedLevels': WHATEVER THE INPUT: true; the input reads as it did. -/
def fnExactReducedLevelsSpec : ChangeSpec := { name := "fnExactReducedLevels", fn := fun _ => fun
  | [d] => { results := [.lit (.bool true)], args := [d] }
  | _ => none }
def fnExactReducedLevelsRow : OpenClaim := { program := "ytongpceopgkhnaagreat", sum := "8d6ff747151250b539ac00406b922e25616b728ec8c56a29db2c1724a0fd28d6", func := "loop.example/loopnests/laws.FnExactReducedLevels", spec := "fnExactReducedLevels", inPlace := ["internal/bytealg.IndexByteString", "internal/bytealg.IndexString"], unfollowed := true, recurses := true, named := ["internal/bytealg.MaxLen"], loops := true, apart := false }
def FnExactReducedLevelsSaid : Prop := fnExactReducedLevelsRow.holds Tryz.pinned (OpenSpec.ofChange fnExactReducedLevelsSpec)

/-- ITS FALSE NEIGHBOUR: 'it returns false'. Refute it at one input. -/
def fnExactReducedLevelsWrong : ChangeSpec := { name := "fnExactReducedLevels", fn := fun _ => fun
  | [d] => { results := [.lit (.bool false)], args := [d] }
  | _ => none }
def FnExactReducedLevelsWrongFalsely : Prop := fnExactReducedLevelsRow.holds Tryz.pinned (OpenSpec.ofChange fnExactReducedLevelsWrong)

/-- 'laws.FnExactStrictDeps': WHATEVER THE INPUT: true; the input reads as it did. -/
def fnExactStrictDepsSpec : ChangeSpec := { name := "fnExactStrictDeps", fn := fun _ => fun
  | [d] => { results := [.lit (.bool true)], args := [d] }
  | _ => none }
def fnExactStrictDepsRow : OpenClaim := { program := "ytongpceopgkhnaagreat", sum := "8d6ff747151250b539ac00406b922e25616b728ec8c56a29db2c1724a0fd28d6", func := "loop.example/loopnests/laws.FnExactStrictDeps", spec := "fnExactStrictDeps", inPlace := ["internal/bytealg.IndexByteString", "internal/bytealg.IndexString"], unfollowed := true, recurses := true, named := ["internal/bytealg.MaxLen"], loops := true, apart := false }
def FnExactStrictDepsSaid : Prop := fnExactStrictDepsRow.holds Tryz.pinned (OpenSpec.ofChange fnExactStrictDepsSpec)

/-- ITS FALSE NEIGHBOUR: 'it returns false'. Refute it at one input. -/
def fnExactStrictDepsWrong : ChangeSpec := { name := "fnExactStrictDeps", fn := fun _ => fun
  | [d] => { results := [.lit (.bool false)], args := [d] }
  | _ => none }
def FnExactStrictDepsWrongFalsely : Prop := fnExactStrictDepsRow.holds Tryz.pinned (OpenSpec.ofChange fnExactStrictDepsWrong)

/-- 'laws.FnExactReducedOrder': WHATEVER THE INPUT: true; the input reads as it did. -/
def fnExactReducedOrderSpec : ChangeSpec := { name := "fnExactReducedOrder", fn := fun _ => fun
  | [d1, d2] => { results := [.lit (.bool true)], args := [d1, d2] }
  | _ => none }
def fnExactReducedOrderRow : OpenClaim := { program := "ytongpceopgkhnaagreat", sum := "8d6ff747151250b539ac00406b922e25616b728ec8c56a29db2c1724a0fd28d6", func := "loop.example/loopnests/laws.FnExactReducedOrder", spec := "fnExactReducedOrder", inPlace := ["internal/bytealg.IndexByteString", "internal/bytealg.IndexString"], unfollowed := true, recurses := true, named := ["internal/bytealg.MaxLen"], loops := true, apart := false }
def FnExactReducedOrderSaid : Prop := fnExactReducedOrderRow.holds Tryz.pinned (OpenSpec.ofChange fnExactReducedOrderSpec)

/-- ITS FALSE NEIGHBOUR: 'it returns false'. Refute it at one input. -/
def fnExactReducedOrderWrong : ChangeSpec := { name := "fnExactReducedOrder", fn := fun _ => fun
  | [d1, d2] => { results := [.lit (.bool false)], args := [d1, d2] }
  | _ => none }
def FnExactReducedOrderWrongFalsely : Prop := fnExactReducedOrderRow.holds Tryz.pinned (OpenSpec.ofChange fnExactReducedOrderWrong)

/-- 'laws.FnExactCarriedLevels': WHATEVER THE INPUT: true; the input reads as it did. -/
def fnExactCarriedLevelsSpec : ChangeSpec := { name := "fnExactCarriedLevels", fn := fun _ => fun
  | [d1, d2] => { results := [.lit (.bool true)], args := [d1, d2] }
  | _ => none }
def fnExactCarriedLevelsRow : OpenClaim := { program := "ytongpceopgkhnaagreat", sum := "8d6ff747151250b539ac00406b922e25616b728ec8c56a29db2c1724a0fd28d6", func := "loop.example/loopnests/laws.FnExactCarriedLevels", spec := "fnExactCarriedLevels", inPlace := ["internal/bytealg.IndexByteString", "internal/bytealg.IndexString"], unfollowed := true, recurses := true, named := ["internal/bytealg.MaxLen"], loops := true, apart := false }
def FnExactCarriedLevelsSaid : Prop := fnExactCarriedLevelsRow.holds Tryz.pinned (OpenSpec.ofChange fnExactCarriedLevelsSpec)

/-- ITS FALSE NEIGHBOUR: 'it returns false'. Refute it at one input. -/
def fnExactCarriedLevelsWrong : ChangeSpec := { name := "fnExactCarriedLevels", fn := fun _ => fun
  | [d1, d2] => { results := [.lit (.bool false)], args := [d1, d2] }
  | _ => none }
def FnExactCarriedLevelsWrongFalsely : Prop := fnExactCarriedLevelsRow.holds Tryz.pinned (OpenSpec.ofChange fnExactCarriedLevelsWrong)

/-- 'laws.FnExactParallelLoops': WHATEVER THE INPUT: true; the input reads as it did. -/
def fnExactParallelLoopsSpec : ChangeSpec := { name := "fnExactParallelLoops", fn := fun _ => fun
  | [d1, d2] => { results := [.lit (.bool true)], args := [d1, d2] }
  | _ => none }
def fnExactParallelLoopsRow : OpenClaim := { program := "ytongpceopgkhnaagreat", sum := "8d6ff747151250b539ac00406b922e25616b728ec8c56a29db2c1724a0fd28d6", func := "loop.example/loopnests/laws.FnExactParallelLoops", spec := "fnExactParallelLoops", inPlace := ["internal/bytealg.IndexByteString", "internal/bytealg.IndexString"], unfollowed := true, recurses := true, named := ["internal/bytealg.MaxLen"], loops := true, apart := false }
def FnExactParallelLoopsSaid : Prop := fnExactParallelLoopsRow.holds Tryz.pinned (OpenSpec.ofChange fnExactParallelLoopsSpec)

/-- ITS FALSE NEIGHBOUR: 'it returns false'. Refute it at one input. -/
def fnExactParallelLoopsWrong : ChangeSpec := { name := "fnExactParallelLoops", fn := fun _ => fun
  | [d1, d2] => { results := [.lit (.bool false)], args := [d1, d2] }
  | _ => none }
def FnExactParallelLoopsWrongFalsely : Prop := fnExactParallelLoopsRow.holds Tryz.pinned (OpenSpec.ofChange fnExactParallelLoopsWrong)

/- THE SECOND FORM. 'bulk': how many values and letters a reading holds, each counted each time it is reached (what is shared counts as often as it is met; a slice's spare places count too). A statement '..UptoSaid' is the law's where the arguments, and the package variables that the reading takes, are together of bulk at most 1048576: NARROWER than '..Said'. Prove '..Said' where nothing that the law and all that it calls make is longer than what came in: it says more and counts as full. Else prove '..UptoSaid'. A law counts once. -/
mutual
def uptoBulk {H : Type} : DataW H → Nat
  | .lit (.string bytes) => bytes.length + 1
  | .lit _ => 1
  | .nil => 1
  | .ptr d => uptoBulk d + 1
  | .slice elems spare => uptoBulkAll elems + uptoBulkAll spare + 1
  | .agg parts => uptoBulkAll parts + 1
  | .iface _ d => uptoBulk d + 1
  | .map entries => uptoBulkEntries entries + 1
  | .held _ => 1
def uptoBulkAll {H : Type} : List (DataW H) → Nat
  | [] => 0
  | d :: r => uptoBulk d + uptoBulkAll r
def uptoBulkEntries {H : Type} : List (Lit × DataW H) → Nat
  | [] => 0
  | x :: r => uptoBulkEntry x + uptoBulkEntries r
def uptoBulkEntry {H : Type} : Lit × DataW H → Nat
  | (.string bytes, d) => bytes.length + uptoBulk d + 1
  | (_, d) => uptoBulk d + 1
 end
def uptoSmall : (H : Type) → List (DataW H) → Bool := fun _ ds => decide (uptoBulkAll ds ≤ 1048576)
def OpenSpec.upto (s : _root_.Go.ChangeSpec) : _root_.Go.OpenSpec := { _root_.Go.OpenSpec.ofChange s with cond := some uptoSmall }

/-- 'laws.FnExactAddressTrace', WHERE WHAT IT READS IS OF BULK AT MOST 1048576: true; the input reads as it did. -/
def fnExactAddressTraceUptoRow : OpenClaim := { program := "ytongpceopgkhnaagreat", sum := "8d6ff747151250b539ac00406b922e25616b728ec8c56a29db2c1724a0fd28d6", func := "loop.example/loopnests/laws.FnExactAddressTrace", spec := "fnExactAddressTrace", inPlace := ["internal/bytealg.IndexByteString", "internal/bytealg.IndexString"], unfollowed := true, recurses := true, named := ["internal/bytealg.MaxLen"], loops := true, apart := false, narrowed := true }
def FnExactAddressTraceUptoSaid : Prop := fnExactAddressTraceUptoRow.holds Tryz.pinned (OpenSpec.upto fnExactAddressTraceSpec)

/-- 'laws.FnExactPartReads', WHERE WHAT IT READS IS OF BULK AT MOST 1048576: true; the input reads as it did. -/
def fnExactPartReadsUptoRow : OpenClaim := { program := "ytongpceopgkhnaagreat", sum := "8d6ff747151250b539ac00406b922e25616b728ec8c56a29db2c1724a0fd28d6", func := "loop.example/loopnests/laws.FnExactPartReads", spec := "fnExactPartReads", inPlace := ["internal/bytealg.IndexByteString", "internal/bytealg.IndexString"], unfollowed := true, recurses := true, named := ["internal/bytealg.MaxLen"], loops := true, apart := false, narrowed := true }
def FnExactPartReadsUptoSaid : Prop := fnExactPartReadsUptoRow.holds Tryz.pinned (OpenSpec.upto fnExactPartReadsSpec)

/-- 'laws.FnExactPartWrites', WHERE WHAT IT READS IS OF BULK AT MOST 1048576: true; the input reads as it did. -/
def fnExactPartWritesUptoRow : OpenClaim := { program := "ytongpceopgkhnaagreat", sum := "8d6ff747151250b539ac00406b922e25616b728ec8c56a29db2c1724a0fd28d6", func := "loop.example/loopnests/laws.FnExactPartWrites", spec := "fnExactPartWrites", inPlace := ["internal/bytealg.IndexByteString", "internal/bytealg.IndexString"], unfollowed := true, recurses := true, named := ["internal/bytealg.MaxLen"], loops := true, apart := false, narrowed := true }
def FnExactPartWritesUptoSaid : Prop := fnExactPartWritesUptoRow.holds Tryz.pinned (OpenSpec.upto fnExactPartWritesSpec)

/-- 'laws.FnExactReducedLevels', WHERE WHAT IT READS IS OF BULK AT MOST 1048576: true; the input reads as it did. -/
def fnExactReducedLevelsUptoRow : OpenClaim := { program := "ytongpceopgkhnaagreat", sum := "8d6ff747151250b539ac00406b922e25616b728ec8c56a29db2c1724a0fd28d6", func := "loop.example/loopnests/laws.FnExactReducedLevels", spec := "fnExactReducedLevels", inPlace := ["internal/bytealg.IndexByteString", "internal/bytealg.IndexString"], unfollowed := true, recurses := true, named := ["internal/bytealg.MaxLen"], loops := true, apart := false, narrowed := true }
def FnExactReducedLevelsUptoSaid : Prop := fnExactReducedLevelsUptoRow.holds Tryz.pinned (OpenSpec.upto fnExactReducedLevelsSpec)

/-- 'laws.FnExactStrictDeps', WHERE WHAT IT READS IS OF BULK AT MOST 1048576: true; the input reads as it did. -/
def fnExactStrictDepsUptoRow : OpenClaim := { program := "ytongpceopgkhnaagreat", sum := "8d6ff747151250b539ac00406b922e25616b728ec8c56a29db2c1724a0fd28d6", func := "loop.example/loopnests/laws.FnExactStrictDeps", spec := "fnExactStrictDeps", inPlace := ["internal/bytealg.IndexByteString", "internal/bytealg.IndexString"], unfollowed := true, recurses := true, named := ["internal/bytealg.MaxLen"], loops := true, apart := false, narrowed := true }
def FnExactStrictDepsUptoSaid : Prop := fnExactStrictDepsUptoRow.holds Tryz.pinned (OpenSpec.upto fnExactStrictDepsSpec)

/-- 'laws.FnExactReducedOrder', WHERE WHAT IT READS IS OF BULK AT MOST 1048576: true; the input reads as it did. -/
def fnExactReducedOrderUptoRow : OpenClaim := { program := "ytongpceopgkhnaagreat", sum := "8d6ff747151250b539ac00406b922e25616b728ec8c56a29db2c1724a0fd28d6", func := "loop.example/loopnests/laws.FnExactReducedOrder", spec := "fnExactReducedOrder", inPlace := ["internal/bytealg.IndexByteString", "internal/bytealg.IndexString"], unfollowed := true, recurses := true, named := ["internal/bytealg.MaxLen"], loops := true, apart := false, narrowed := true }
def FnExactReducedOrderUptoSaid : Prop := fnExactReducedOrderUptoRow.holds Tryz.pinned (OpenSpec.upto fnExactReducedOrderSpec)

/-- 'laws.FnExactCarriedLevels', WHERE WHAT IT READS IS OF BULK AT MOST 1048576: true; the input reads as it did. -/
def fnExactCarriedLevelsUptoRow : OpenClaim := { program := "ytongpceopgkhnaagreat", sum := "8d6ff747151250b539ac00406b922e25616b728ec8c56a29db2c1724a0fd28d6", func := "loop.example/loopnests/laws.FnExactCarriedLevels", spec := "fnExactCarriedLevels", inPlace := ["internal/bytealg.IndexByteString", "internal/bytealg.IndexString"], unfollowed := true, recurses := true, named := ["internal/bytealg.MaxLen"], loops := true, apart := false, narrowed := true }
def FnExactCarriedLevelsUptoSaid : Prop := fnExactCarriedLevelsUptoRow.holds Tryz.pinned (OpenSpec.upto fnExactCarriedLevelsSpec)

/-- 'laws.FnExactParallelLoops', WHERE WHAT IT READS IS OF BULK AT MOST 1048576: true; the input reads as it did. -/
def fnExactParallelLoopsUptoRow : OpenClaim := { program := "ytongpceopgkhnaagreat", sum := "8d6ff747151250b539ac00406b922e25616b728ec8c56a29db2c1724a0fd28d6", func := "loop.example/loopnests/laws.FnExactParallelLoops", spec := "fnExactParallelLoops", inPlace := ["internal/bytealg.IndexByteString", "internal/bytealg.IndexString"], unfollowed := true, recurses := true, named := ["internal/bytealg.MaxLen"], loops := true, apart := false, narrowed := true }
def FnExactParallelLoopsUptoSaid : Prop := fnExactParallelLoopsUptoRow.holds Tryz.pinned (OpenSpec.upto fnExactParallelLoopsSpec)

end Rows
end Go.Proofs.YtongpceopgkhnaaGreat
