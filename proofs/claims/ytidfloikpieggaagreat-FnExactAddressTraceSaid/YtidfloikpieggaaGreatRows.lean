/-
  NARROWER THAN 'FOR EVERY INPUT', by the rows' own cells (each row's printed sentence says how): FnExactLoopParallel: loops · FnExactCarriedLevels: loops · FnExactParallelLoops: loops · FnExactAddressTrace: loops · FnExactShrinkArray: loops · FnExactSwapParts: loops · FnExactDropPart: loops.
  DERIVED. THE GIVEN ROWS OF THIS SEAT. 7 by the template 'for every input the law returns true; each argument reads behind the call as it read before'; 0 by the template 'total and deterministic' (their statements: YtidfloikpieggaaGreatTotals.lean).
  GIVEN WITH THE SEED: the statements are not yours to turn. If you find one false, say at which input.
  Laid BY PROGRAM, IN A SANDBOX (cutbox-rows.mjs): the forced cells as the released guide's own fill.sh prints them over the translation 466fee3254cc581d… (all of the seat's roots in one cut). By AI agents, Wed Nov 11 2026. No macro, syntax, notation, axiom, sorry.
-/
import Derived.Test.YtidfloikpieggaaGreatChecked
import GoSem.Claim
import GoSem.ClaimJoined
import GoSem.ClaimMapViews
import Derived.JoinedTies
import Derived.KernelRfl
namespace Go.Proofs.YtidfloikpieggaaGreat
/- THE CELL 'sum', in the pinned program and in every row, IS THE sha256 OF THE DUMP (.gsa) THAT YtidfloikpieggaaGreatProg.lean LOADS. Nothing in Lean hashes anything: it is a label: what it is worth is what the hold of that sum in a sandbox is worth. -/
noncomputable def Tryz.pinned : Pinned := { name := "ytidfloikpieggaagreat", sum := "466fee3254cc581d5a63bc7398e12bd9df6bf826534654e2709445575312a924", checked := Tryz.checked }
namespace Rows
def none {H : Type} : Left H := { results := [], args := [] }

/-- 'laws.FnExactLoopParallel': WHATEVER THE INPUT: true; the input reads as it did. -/
def fnExactLoopParallelSpec : ChangeSpec := { name := "fnExactLoopParallel", fn := fun _ => fun
  | [d1, d2, d3] => { results := [.lit (.bool true)], args := [d1, d2, d3] }
  | _ => none }
def fnExactLoopParallelRow : OpenClaim := { program := "ytidfloikpieggaagreat", sum := "466fee3254cc581d5a63bc7398e12bd9df6bf826534654e2709445575312a924", func := "loop.example/loopnests/laws.FnExactLoopParallel", spec := "fnExactLoopParallel", inPlace := ["internal/bytealg.IndexByteString", "internal/bytealg.IndexString"], unfollowed := true, recurses := true, named := ["internal/bytealg.MaxLen"], loops := true, apart := false }
def FnExactLoopParallelSaid : Prop := fnExactLoopParallelRow.holds Tryz.pinned (OpenSpec.ofChange fnExactLoopParallelSpec)

/-- ITS FALSE NEIGHBOUR: 'it returns false'. Refute it at one input. -/
def fnExactLoopParallelWrong : ChangeSpec := { name := "fnExactLoopParallel", fn := fun _ => fun
  | [d1, d2, d3] => { results := [.lit (.bool false)], args := [d1, d2, d3] }
  | _ => none }
def FnExactLoopParallelWrongFalsely : Prop := fnExactLoopParallelRow.holds Tryz.pinned (OpenSpec.ofChange fnExactLoopParallelWrong)

/-- 'laws.FnExactCarriedLevels': WHATEVER THE INPUT: true; the input reads as it did. -/
def fnExactCarriedLevelsSpec : ChangeSpec := { name := "fnExactCarriedLevels", fn := fun _ => fun
  | [d1, d2] => { results := [.lit (.bool true)], args := [d1, d2] }
  | _ => none }
def fnExactCarriedLevelsRow : OpenClaim := { program := "ytidfloikpieggaagreat", sum := "466fee3254cc581d5a63bc7398e12bd9df6bf826534654e2709445575312a924", func := "loop.example/loopnests/laws.FnExactCarriedLevels", spec := "fnExactCarriedLevels", inPlace := ["internal/bytealg.IndexByteString", "internal/bytealg.IndexString"], unfollowed := true, recurses := true, named := ["internal/bytealg.MaxLen"], loops := true, apart := false }
def FnExactCarriedLevelsSaid : Prop := fnExactCarriedLevelsRow.holds Tryz.pinned (OpenSpec.ofChange fnExactCarriedLevelsSpec)

/-- ITS FALSE NEIGHBOUR: 'it returns false'. Refute it at one input. -/
def fnExactCarriedLevelsWrong : ChangeSpec := { name := "fnExactCarriedLevels", fn := fun _ => fun
  | [d1, d2] => { results := [.lit (.bool false)], args := [d1, d2] }
  | _ => none }
def FnExactCarriedLevelsWrongFalsely : Prop := fnExactCarriedLevelsRow.holds Tryz.pinned (OpenSpec.ofChange fnExactCarriedLevelsWrong)

/-- 'laws.FnExactParallelLoops': WHATEVER THE INPUT: true; the input reads as it did. -/
def fnExactParallelLoopsSpec : ChangeSpec := { name := "fnExactParallelLoops", fn := fun _ => fun
  | [d1, d2] => { results := [.lit (.bool true)], args := [d1, d2] }
  | _ => none }
def fnExactParallelLoopsRow : OpenClaim := { program := "ytidfloikpieggaagreat", sum := "466fee3254cc581d5a63bc7398e12bd9df6bf826534654e2709445575312a924", func := "loop.example/loopnests/laws.FnExactParallelLoops", spec := "fnExactParallelLoops", inPlace := ["internal/bytealg.IndexByteString", "internal/bytealg.IndexString"], unfollowed := true, recurses := true, named := ["internal/bytealg.MaxLen"], loops := true, apart := false }
def FnExactParallelLoopsSaid : Prop := fnExactParallelLoopsRow.holds Tryz.pinned (OpenSpec.ofChange fnExactParallelLoopsSpec)

/-- ITS FALSE NEIGHBOUR: 'it returns false'. Refute it at one input. -/
def fnExactParallelLoopsWrong : ChangeSpec := { name := "fnExactParallelLoops", fn := fun _ => fun
  | [d1, d2] => { results := [.lit (.bool false)], args := [d1, d2] }
  | _ => none }
def FnExactParallelLoopsWrongFalsely : Prop := fnExactParallelLoopsRow.holds Tryz.pinned (OpenSpec.ofChange fnExactParallelLoopsWrong)

/-- 'laws.FnExactAddressTrace': WHATEVER THE INPUT: true; the input reads as it did. -/
def fnExactAddressTraceSpec : ChangeSpec := { name := "fnExactAddressTrace", fn := fun _ => fun
  | [d] => { results := [.lit (.bool true)], args := [d] }
  | _ => none }
def fnExactAddressTraceRow : OpenClaim := { program := "ytidfloikpieggaagreat", sum := "466fee3254cc581d5a63bc7398e12bd9df6bf826534654e2709445575312a924", func := "loop.example/loopnests/laws.FnExactAddressTrace", spec := "fnExactAddressTrace", inPlace := ["internal/bytealg.IndexByteString", "internal/bytealg.IndexString"], unfollowed := true, recurses := true, named := ["internal/bytealg.MaxLen"], loops := true, apart := false }
def FnExactAddressTraceSaid : Prop := fnExactAddressTraceRow.holds Tryz.pinned (OpenSpec.ofChange fnExactAddressTraceSpec)

/-- ITS FALSE NEIGHBOUR: 'it returns false'. Refute it at one input. -/
def fnExactAddressTraceWrong : ChangeSpec := { name := "fnExactAddressTrace", fn := fun _ => fun
  | [d] => { results := [.lit (.bool false)], args := [d] }
  | _ => none }
def FnExactAddressTraceWrongFalsely : Prop := fnExactAddressTraceRow.holds Tryz.pinned (OpenSpec.ofChange fnExactAddressTraceWrong)

/-- 'laws.FnExactShrinkArray': WHATEVER THE INPUT: true; the input reads as it did. -/
def fnExactShrinkArraySpec : ChangeSpec := { name := "fnExactShrinkArray", fn := fun _ => fun
  | [d1, d2] => { results := [.lit (.bool true)], args := [d1, d2] }
  | _ => none }
def fnExactShrinkArrayRow : OpenClaim := { program := "ytidfloikpieggaagreat", sum := "466fee3254cc581d5a63bc7398e12bd9df6bf826534654e2709445575312a924", func := "loop.example/loopnests/laws.FnExactShrinkArray", spec := "fnExactShrinkArray", inPlace := ["internal/bytealg.IndexByteString", "internal/bytealg.IndexString"], unfollowed := true, recurses := true, named := ["internal/bytealg.MaxLen"], loops := true, apart := false }
def FnExactShrinkArraySaid : Prop := fnExactShrinkArrayRow.holds Tryz.pinned (OpenSpec.ofChange fnExactShrinkArraySpec)

/-- ITS FALSE NEIGHBOUR: 'it returns false'. Refute it at one input. -/
def fnExactShrinkArrayWrong : ChangeSpec := { name := "fnExactShrinkArray", fn := fun _ => fun
  | [d1, d2] => { results := [.lit (.bool false)], args := [d1, d2] }
  | _ => none }
def FnExactShrinkArrayWrongFalsely : Prop := fnExactShrinkArrayRow.holds Tryz.pinned (OpenSpec.ofChange fnExactShrinkArrayWrong)

/-- 'laws.FnExactSwapParts': WHATEVER THE INPUT: true; the input reads as it did. -/
def fnExactSwapPartsSpec : ChangeSpec := { name := "fnExactSwapParts", fn := fun _ => fun
  | [d1, d2] => { results := [.lit (.bool true)], args := [d1, d2] }
  | _ => none }
def fnExactSwapPartsRow : OpenClaim := { program := "ytidfloikpieggaagreat", sum := "466fee3254cc581d5a63bc7398e12bd9df6bf826534654e2709445575312a924", func := "loop.example/loopnests/laws.FnExactSwapParts", spec := "fnExactSwapParts", inPlace := ["internal/bytealg.IndexByteString", "internal/bytealg.IndexString"], unfollowed := true, recurses := true, named := ["internal/bytealg.MaxLen"], loops := true, apart := false }
def FnExactSwapPartsSaid : Prop := fnExactSwapPartsRow.holds Tryz.pinned (OpenSpec.ofChange fnExactSwapPartsSpec)

/-- ITS FALSE NEIGHBOUR: 'it returns false'. Refute it at one input. -/
def fnExactSwapPartsWrong : ChangeSpec := { name := "fnExactSwapParts", fn := fun _ => fun
  | [d1, d2] => { results := [.lit (.bool false)], args := [d1, d2] }
  | _ => none }
def FnExactSwapPartsWrongFalsely : Prop := fnExactSwapPartsRow.holds Tryz.pinned (OpenSpec.ofChange fnExactSwapPartsWrong)

/-- 'laws.FnExactDropPart': WHATEVER THE INPUT: true; the input reads as it did. -/
def fnExactDropPartSpec : ChangeSpec := { name := "fnExactDropPart", fn := fun _ => fun
  | [d1, d2] => { results := [.lit (.bool true)], args := [d1, d2] }
  | _ => none }
def fnExactDropPartRow : OpenClaim := { program := "ytidfloikpieggaagreat", sum := "466fee3254cc581d5a63bc7398e12bd9df6bf826534654e2709445575312a924", func := "loop.example/loopnests/laws.FnExactDropPart", spec := "fnExactDropPart", inPlace := ["internal/bytealg.IndexByteString", "internal/bytealg.IndexString"], unfollowed := true, recurses := true, named := ["internal/bytealg.MaxLen"], loops := true, apart := false }
def FnExactDropPartSaid : Prop := fnExactDropPartRow.holds Tryz.pinned (OpenSpec.ofChange fnExactDropPartSpec)

/-- ITS FALSE NEIGHBOUR: 'it returns false'. Refute it at one input. -/
def fnExactDropPartWrong : ChangeSpec := { name := "fnExactDropPart", fn := fun _ => fun
  | [d1, d2] => { results := [.lit (.bool false)], args := [d1, d2] }
  | _ => none }
def FnExactDropPartWrongFalsely : Prop := fnExactDropPartRow.holds Tryz.pinned (OpenSpec.ofChange fnExactDropPartWrong)

/- THE SECOND FORM. 'bulk': how many values and letters a reading holds, each counted each time it is reached (what is shared counts as often as it is met; a slice's spare places count too). A statement '..UptoSaid' is the law's where the arguments, and the package variables that the reading takes, are together of bulk at most 1048576: NARROWER than '..Said'. Prove '..Said' where nothing that the law and all that it calls make is longer than what came in: it says more and counts as full. Else prove '..UptoSaid'. A law counts once. -/
mutual
def uptoBulk {H : Type} : DataW H → Nat
  | .lit (.string bytes) => bytes.length + 1
  | .lit _ => 1
  | .nil => 1
  | .ptr d => uptoBulk d + 1
  | .slice elems spare => uptoBulkAll elems + uptoBulkAll spare + 1
  | .agg parts => uptoBulkAll parts + 1
  | .iface _ d => uptoBulk d + 1
  | .map entries => uptoBulkEntries entries + 1
  | .held _ => 1
def uptoBulkAll {H : Type} : List (DataW H) → Nat
  | [] => 0
  | d :: r => uptoBulk d + uptoBulkAll r
def uptoBulkEntries {H : Type} : List (Lit × DataW H) → Nat
  | [] => 0
  | x :: r => uptoBulkEntry x + uptoBulkEntries r
def uptoBulkEntry {H : Type} : Lit × DataW H → Nat
  | (.string bytes, d) => bytes.length + uptoBulk d + 1
  | (_, d) => uptoBulk d + 1
 end
def uptoSmall : (H : Type) → List (DataW H) → Bool := fun _ ds => decide (uptoBulkAll ds ≤ 1048576)
def OpenSpec.upto (s : _root_.Go.ChangeSpec) : _root_.Go.OpenSpec := { _root_.Go.OpenSpec.ofChange s with cond := some uptoSmall }

/-- 'laws.FnExactLoopParallel', WHERE WHAT IT READS IS OF BULK AT MOST 1048576: true; the input reads as it did. -/
def fnExactLoopParallelUptoRow : OpenClaim := { program := "ytidfloikpieggaagreat", sum := "466fee3254cc581d5a63bc7398e12bd9df6bf826534654e2709445575312a924", func := "loop.example/loopnests/laws.FnExactLoopParallel", spec := "fnExactLoopParallel", inPlace := ["internal/bytealg.IndexByteString", "internal/bytealg.IndexString"], unfollowed := true, recurses := true, named := ["internal/bytealg.MaxLen"], loops := true, apart := false, narrowed := true }
def FnExactLoopParallelUptoSaid : Prop := fnExactLoopParallelUptoRow.holds Tryz.pinned (OpenSpec.upto fnExactLoopParallelSpec)

/-- 'laws.FnExactCarriedLevels', WHERE WHAT IT READS IS OF BULK AT MOST 1048576: true; the input reads as it did. -/
def fnExactCarriedLevelsUptoRow : OpenClaim := { program := "ytidfloikpieggaagreat", sum := "466fee3254cc581d5a63bc7398e12bd9df6bf826534654e2709445575312a924", func := "loop.example/loopnests/laws.FnExactCarriedLevels", spec := "fnExactCarriedLevels", inPlace := ["internal/bytealg.IndexByteString", "internal/bytealg.IndexString"], unfollowed := true, recurses := true, named := ["internal/bytealg.MaxLen"], loops := true, apart := false, narrowed := true }
def FnExactCarriedLevelsUptoSaid : Prop := fnExactCarriedLevelsUptoRow.holds Tryz.pinned (OpenSpec.upto fnExactCarriedLevelsSpec)

/-- 'laws.FnExactParallelLoops', WHERE WHAT IT READS IS OF BULK AT MOST 1048576: true; the input reads as it did. -/
def fnExactParallelLoopsUptoRow : OpenClaim := { program := "ytidfloikpieggaagreat", sum := "466fee3254cc581d5a63bc7398e12bd9df6bf826534654e2709445575312a924", func := "loop.example/loopnests/laws.FnExactParallelLoops", spec := "fnExactParallelLoops", inPlace := ["internal/bytealg.IndexByteString", "internal/bytealg.IndexString"], unfollowed := true, recurses := true, named := ["internal/bytealg.MaxLen"], loops := true, apart := false, narrowed := true }
def FnExactParallelLoopsUptoSaid : Prop := fnExactParallelLoopsUptoRow.holds Tryz.pinned (OpenSpec.upto fnExactParallelLoopsSpec)

/-- 'laws.FnExactAddressTrace', WHERE WHAT IT READS IS OF BULK AT MOST 1048576: true; the input reads as it did. -/
def fnExactAddressTraceUptoRow : OpenClaim := { program := "ytidfloikpieggaagreat", sum := "466fee3254cc581d5a63bc7398e12bd9df6bf826534654e2709445575312a924", func := "loop.example/loopnests/laws.FnExactAddressTrace", spec := "fnExactAddressTrace", inPlace := ["internal/bytealg.IndexByteString", "internal/bytealg.IndexString"], unfollowed := true, recurses := true, named := ["internal/bytealg.MaxLen"], loops := true, apart := false, narrowed := true }
def FnExactAddressTraceUptoSaid : Prop := fnExactAddressTraceUptoRow.holds Tryz.pinned (OpenSpec.upto fnExactAddressTraceSpec)

/-- 'laws.FnExactShrinkArray', WHERE WHAT IT READS IS OF BULK AT MOST 1048576: true; the input reads as it did. -/
def fnExactShrinkArrayUptoRow : OpenClaim := { program := "ytidfloikpieggaagreat", sum := "466fee3254cc581d5a63bc7398e12bd9df6bf826534654e2709445575312a924", func := "loop.example/loopnests/laws.FnExactShrinkArray", spec := "fnExactShrinkArray", inPlace := ["internal/bytealg.IndexByteString", "internal/bytealg.IndexString"], unfollowed := true, recurses := true, named := ["internal/bytealg.MaxLen"], loops := true, apart := false, narrowed := true }
def FnExactShrinkArrayUptoSaid : Prop := fnExactShrinkArrayUptoRow.holds Tryz.pinned (OpenSpec.upto fnExactShrinkArraySpec)

/-- 'laws.FnExactSwapParts', WHERE WHAT IT READS IS OF BULK AT MOST 1048576: true; the input reads as it did. -/
def fnExactSwapPartsUptoRow : OpenClaim := { program := "ytidfloikpieggaagreat", sum := "466fee3254cc581d5a63bc7398e12bd9df6bf826534654e2709445575312a924", func := "loop.example/loopnests/laws.FnExactSwapParts", spec := "fnExactSwapParts", inPlace := ["internal/bytealg.IndexByteString", "internal/bytealg.IndexString"], unfollowed := true, recurses := true, named := ["internal/bytealg.MaxLen"], loops := true, apart := false, narrowed := true }
def FnExactSwapPartsUptoSaid : Prop := fnExactSwapPartsUptoRow.holds Tryz.pinned (OpenSpec.upto fnExactSwapPartsSpec)

/-- 'laws.FnExactDropPart', WHERE WHAT IT READS IS OF BULK AT MOST 1048576: true; the input reads as it did. -/
def fnExactDropPartUptoRow : OpenClaim := { program := "ytidfloikpieggaagreat", sum := "466fee3254cc581d5a63bc7398e12bd9df6bf826534654e2709445575312a924", func := "loop.example/loopnests/laws.FnExactDropPart", spec := "fnExactDropPart", inPlace := ["internal/bytealg.IndexByteString", "internal/bytealg.IndexString"], unfollowed := true, recurses := true, named := ["internal/bytealg.MaxLen"], loops := true, apart := false, narrowed := true }
def FnExactDropPartUptoSaid : Prop := fnExactDropPartUptoRow.holds Tryz.pinned (OpenSpec.upto fnExactDropPartSpec)

end Rows
end Go.Proofs.YtidfloikpieggaaGreat
