/-
  NARROWER THAN 'FOR EVERY INPUT', by the rows' own cells (each row's printed sentence says how): FnExactReductionGroup: loops · FnExactPartsIndependent: loops · FnExactReducedLegal: loops · FnExactLoopParallel: loops.
  DERIVED. THE GIVEN ROWS OF THIS SEAT. 4 by the template 'for every input the law returns true; each argument reads behind the call as it read before'; 0 by the template 'total and deterministic' (their statements: YtplekceinncepaaGreatTotals.lean).
  GIVEN WITH THE SEED: the statements are not yours to turn. If you find one false, say at which input.
  Laid BY PROGRAM, IN A SANDBOX (cutbox-rows.mjs): the forced cells as the released guide's own fill.sh prints them over the translation a10d19fe1beab14c… (all of the seat's roots in one cut). By AI agents, Wed Nov 11 2026. No macro, syntax, notation, axiom, sorry.
-/
import Derived.Test.YtplekceinncepaaGreatChecked
import GoSem.Claim
import GoSem.ClaimJoined
import GoSem.ClaimMapViews
import Derived.JoinedTies
import Derived.KernelRfl
namespace Go.Proofs.YtplekceinncepaaGreat
/- THE CELL 'sum', in the pinned program and in every row, IS THE sha256 OF THE DUMP (.gsa) THAT YtplekceinncepaaGreatProg.lean LOADS. Nothing in Lean hashes anything: it is a label: what it is worth is what the hold of that sum in a sandbox is worth. -/
noncomputable def Tryz.pinned : Pinned := { name := "ytplekceinncepaagreat", sum := "a10d19fe1beab14c410476e0f2d662b88a84e89e8cf71ee73eda72ca0a4285fc", checked := Tryz.checked }
namespace Rows
def none {H : Type} : Left H := { results := [], args := [] }

/-- 'laws.FnExactReductionGroup': WHATEVER THE INPUT: true; the input reads as it did. -/
def fnExactReductionGroupSpec : ChangeSpec := { name := "fnExactReductionGroup", fn := fun _ => fun
  | [d1, d2] => { results := [.lit (.bool true)], args := [d1, d2] }
  | _ => none }
def fnExactReductionGroupRow : OpenClaim := { program := "ytplekceinncepaagreat", sum := "a10d19fe1beab14c410476e0f2d662b88a84e89e8cf71ee73eda72ca0a4285fc", func := "loop.example/loopnests/laws.FnExactReductionGroup", spec := "fnExactReductionGroup", inPlace := ["internal/bytealg.IndexByteString", "internal/bytealg.IndexString"], unfollowed := true, recurses := true, named := ["internal/bytealg.MaxLen"], loops := true, apart := false }
def FnExactReductionGroupSaid : Prop := fnExactReductionGroupRow.holds Tryz.pinned (OpenSpec.ofChange fnExactReductionGroupSpec)

/-- ITS FALSE NEIGHBOUR: 'it returns false'. Refute it at one input. -/
def fnExactReductionGroupWrong : ChangeSpec := { name := "fnExactReductionGroup", fn := fun _ => fun
  | [d1, d2] => { results := [.lit (.bool false)], args := [d1, d2] }
  | _ => none }
def FnExactReductionGroupWrongFalsely : Prop := fnExactReductionGroupRow.holds Tryz.pinned (OpenSpec.ofChange fnExactReductionGroupWrong)

/-- 'laws.FnExactPartsIndependent': WHATEVER THE INPUT: true; the input reads as it did. -/
def fnExactPartsIndependentSpec : ChangeSpec := { name := "fnExactPartsIndependent", fn := fun _ => fun
  | [d1, d2, d3] => { results := [.lit (.bool true)], args := [d1, d2, d3] }
  | _ => none }
def fnExactPartsIndependentRow : OpenClaim := { program := "ytplekceinncepaagreat", sum := "a10d19fe1beab14c410476e0f2d662b88a84e89e8cf71ee73eda72ca0a4285fc", func := "loop.example/loopnests/laws.FnExactPartsIndependent", spec := "fnExactPartsIndependent", inPlace := ["internal/bytealg.IndexByteString", "internal/bytealg.IndexString"], unfollowed := true, recurses := true, named := ["internal/bytealg.MaxLen"], loops := true, apart := false }
def FnExactPartsIndependentSaid : Prop := fnExactPartsIndependentRow.holds Tryz.pinned (OpenSpec.ofChange fnExactPartsIndependentSpec)

/-- ITS FALSE NEIGHBOUR: 'it returns false'. Refute it at one input. -/
def fnExactPartsIndependentWrong : ChangeSpec := { name := "fnExactPartsIndependent", fn := fun _ => fun
  | [d1, d2, d3] => { results := [.lit (.bool false)], args := [d1, d2, d3] }
  | _ => none }
def FnExactPartsIndependentWrongFalsely : Prop := fnExactPartsIndependentRow.holds Tryz.pinned (OpenSpec.ofChange fnExactPartsIndependentWrong)

/-- 'laws.FnExactReducedLegal': WHATEVER THE INPUT: true; the input reads as it did. -/
def fnExactReducedLegalSpec : ChangeSpec := { name := "fnExactReducedLegal", fn := fun _ => fun
  | [d1, d2] => { results := [.lit (.bool true)], args := [d1, d2] }
  | _ => none }
def fnExactReducedLegalRow : OpenClaim := { program := "ytplekceinncepaagreat", sum := "a10d19fe1beab14c410476e0f2d662b88a84e89e8cf71ee73eda72ca0a4285fc", func := "loop.example/loopnests/laws.FnExactReducedLegal", spec := "fnExactReducedLegal", inPlace := ["internal/bytealg.IndexByteString", "internal/bytealg.IndexString"], unfollowed := true, recurses := true, named := ["internal/bytealg.MaxLen"], loops := true, apart := false }
def FnExactReducedLegalSaid : Prop := fnExactReducedLegalRow.holds Tryz.pinned (OpenSpec.ofChange fnExactReducedLegalSpec)

/-- ITS FALSE NEIGHBOUR: 'it returns false'. Refute it at one input. -/
def fnExactReducedLegalWrong : ChangeSpec := { name := "fnExactReducedLegal", fn := fun _ => fun
  | [d1, d2] => { results := [.lit (.bool false)], args := [d1, d2] }
  | _ => none }
def FnExactReducedLegalWrongFalsely : Prop := fnExactReducedLegalRow.holds Tryz.pinned (OpenSpec.ofChange fnExactReducedLegalWrong)

/-- 'laws.FnExactLoopParallel': WHATEVER THE INPUT: true; the input reads as it did. -/
def fnExactLoopParallelSpec : ChangeSpec := { name := "fnExactLoopParallel", fn := fun _ => fun
  | [d1, d2, d3] => { results := [.lit (.bool true)], args := [d1, d2, d3] }
  | _ => none }
def fnExactLoopParallelRow : OpenClaim := { program := "ytplekceinncepaagreat", sum := "a10d19fe1beab14c410476e0f2d662b88a84e89e8cf71ee73eda72ca0a4285fc", func := "loop.example/loopnests/laws.FnExactLoopParallel", spec := "fnExactLoopParallel", inPlace := ["internal/bytealg.IndexByteString", "internal/bytealg.IndexString"], unfollowed := true, recurses := true, named := ["internal/bytealg.MaxLen"], loops := true, apart := false }
def FnExactLoopParallelSaid : Prop := fnExactLoopParallelRow.holds Tryz.pinned (OpenSpec.ofChange fnExactLoopParallelSpec)

/-- ITS FALSE NEIGHBOUR: 'it returns false'. Refute it at one input. -/
def fnExactLoopParallelWrong : ChangeSpec := { name := "fnExactLoopParallel", fn := fun _ => fun
  | [d1, d2, d3] => { results := [.lit (.bool false)], args := [d1, d2, d3] }
  | _ => none }
def FnExactLoopParallelWrongFalsely : Prop := fnExactLoopParallelRow.holds Tryz.pinned (OpenSpec.ofChange fnExactLoopParallelWrong)

/- THE SECOND FORM. 'bulk': how many values and letters a reading holds, each counted each time it is reached (what is shared counts as often as it is met; a slice's spare places count too). A statement '..UptoSaid' is the law's where the arguments, and the package variables that the reading takes, are together of bulk at most 1048576: NARROWER than '..Said'. Prove '..Said' where nothing that the law and all that it calls make is longer than what came in: it says more and counts as full. Else prove '..UptoSaid'. A law counts once. -/
mutual
def uptoBulk {H : Type} : DataW H → Nat
  | .lit (.string bytes) => bytes.length + 1
  | .lit _ => 1
  | .nil => 1
  | .ptr d => uptoBulk d + 1
  | .slice elems spare => uptoBulkAll elems + uptoBulkAll spare + 1
  | .agg parts => uptoBulkAll parts + 1
  | .iface _ d => uptoBulk d + 1
  | .map entries => uptoBulkEntries entries + 1
  | .held _ => 1
def uptoBulkAll {H : Type} : List (DataW H) → Nat
  | [] => 0
  | d :: r => uptoBulk d + uptoBulkAll r
def uptoBulkEntries {H : Type} : List (Lit × DataW H) → Nat
  | [] => 0
  | x :: r => uptoBulkEntry x + uptoBulkEntries r
def uptoBulkEntry {H : Type} : Lit × DataW H → Nat
  | (.string bytes, d) => bytes.length + uptoBulk d + 1
  | (_, d) => uptoBulk d + 1
 end
def uptoSmall : (H : Type) → List (DataW H) → Bool := fun _ ds => decide (uptoBulkAll ds ≤ 1048576)
def OpenSpec.upto (s : _root_.Go.ChangeSpec) : _root_.Go.OpenSpec := { _root_.Go.OpenSpec.ofChange s with cond := some uptoSmall }

/-- 'laws.FnExactReductionGroup', WHERE WHAT IT READS IS OF BULK AT MOST 1048576: true; the input reads as it did. -/
def fnExactReductionGroupUptoRow : OpenClaim := { program := "ytplekceinncepaagreat", sum := "a10d19fe1beab14c410476e0f2d662b88a84e89e8cf71ee73eda72ca0a4285fc", func := "loop.example/loopnests/laws.FnExactReductionGroup", spec := "fnExactReductionGroup", inPlace := ["internal/bytealg.IndexByteString", "internal/bytealg.IndexString"], unfollowed := true, recurses := true, named := ["internal/bytealg.MaxLen"], loops := true, apart := false, narrowed := true }
def FnExactReductionGroupUptoSaid : Prop := fnExactReductionGroupUptoRow.holds Tryz.pinned (OpenSpec.upto fnExactReductionGroupSpec)

/-- 'laws.FnExactPartsIndependent', WHERE WHAT IT READS IS OF BULK AT MOST 1048576: true; the input reads as it did. -/
def fnExactPartsIndependentUptoRow : OpenClaim := { program := "ytplekceinncepaagreat", sum := "a10d19fe1beab14c410476e0f2d662b88a84e89e8cf71ee73eda72ca0a4285fc", func := "loop.example/loopnests/laws.FnExactPartsIndependent", spec := "fnExactPartsIndependent", inPlace := ["internal/bytealg.IndexByteString", "internal/bytealg.IndexString"], unfollowed := true, recurses := true, named := ["internal/bytealg.MaxLen"], loops := true, apart := false, narrowed := true }
def FnExactPartsIndependentUptoSaid : Prop := fnExactPartsIndependentUptoRow.holds Tryz.pinned (OpenSpec.upto fnExactPartsIndependentSpec)

/-- 'laws.FnExactReducedLegal', WHERE WHAT IT READS IS OF BULK AT MOST 1048576: true; the input reads as it did. -/
def fnExactReducedLegalUptoRow : OpenClaim := { program := "ytplekceinncepaagreat", sum := "a10d19fe1beab14c410476e0f2d662b88a84e89e8cf71ee73eda72ca0a4285fc", func := "loop.example/loopnests/laws.FnExactReducedLegal", spec := "fnExactReducedLegal", inPlace := ["internal/bytealg.IndexByteString", "internal/bytealg.IndexString"], unfollowed := true, recurses := true, named := ["internal/bytealg.MaxLen"], loops := true, apart := false, narrowed := true }
def FnExactReducedLegalUptoSaid : Prop := fnExactReducedLegalUptoRow.holds Tryz.pinned (OpenSpec.upto fnExactReducedLegalSpec)

/-- 'laws.FnExactLoopParallel', WHERE WHAT IT READS IS OF BULK AT MOST 1048576: true; the input reads as it did. -/
def fnExactLoopParallelUptoRow : OpenClaim := { program := "ytplekceinncepaagreat", sum := "a10d19fe1beab14c410476e0f2d662b88a84e89e8cf71ee73eda72ca0a4285fc", func := "loop.example/loopnests/laws.FnExactLoopParallel", spec := "fnExactLoopParallel", inPlace := ["internal/bytealg.IndexByteString", "internal/bytealg.IndexString"], unfollowed := true, recurses := true, named := ["internal/bytealg.MaxLen"], loops := true, apart := false, narrowed := true }
def FnExactLoopParallelUptoSaid : Prop := fnExactLoopParallelUptoRow.holds Tryz.pinned (OpenSpec.upto fnExactLoopParallelSpec)

end Rows
end Go.Proofs.YtplekceinncepaaGreat
