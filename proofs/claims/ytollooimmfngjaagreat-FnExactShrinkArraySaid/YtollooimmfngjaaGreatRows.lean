/-
  NARROWER THAN 'FOR EVERY INPUT', by the rows' own cells (each row's printed sentence says how): FnExactShrinkArray: loops · FnExactSwapParts: loops · FnExactDropPart: loops.
  DERIVED. THE GIVEN ROWS OF THIS SEAT. 3 by the template 'for every input the law returns true; each argument reads behind the call as it read before'; 0 by the template 'total and deterministic' (their statements: YtollooimmfngjaaGreatTotals.lean).
  GIVEN WITH THE SEED: the statements are not yours to turn. If you find one false, say at which input.
  Laid BY PROGRAM, IN A SANDBOX (cutbox-rows.mjs): the forced cells as the released guide's own fill.sh prints them over the translation e2ed0f1f1fca9fdb… (all of the seat's roots in one cut). By AI agents, Wed Nov 11 2026. No macro, syntax, notation, axiom, sorry.
-/
import Derived.Test.YtollooimmfngjaaGreatChecked
import GoSem.Claim
import GoSem.ClaimJoined
import GoSem.ClaimMapViews
import Derived.JoinedTies
import Derived.KernelRfl
namespace Go.Proofs.YtollooimmfngjaaGreat
/- THE CELL 'sum', in the pinned program and in every row, IS THE sha256 OF THE DUMP (.gsa) THAT YtollooimmfngjaaGreatProg.lean LOADS. Nothing in Lean hashes anything: it is a label: what it is worth is what the hold of that sum in a sandbox is worth. -/
noncomputable def Tryz.pinned : Pinned := { name := "ytollooimmfngjaagreat", sum := "e2ed0f1f1fca9fdb50efe0eae0121636920b8514b6ff5d2342a9468f991e6ab8", checked := Tryz.checked }
namespace Rows
def none {H : Type} : Left H := { results := [], args := [] }

/-- 'laws.FnExactShrinkArray': WHATEVER THE INPUT: true; the input reads as it did. -/
def fnExactShrinkArraySpec : ChangeSpec := { name := "fnExactShrinkArray", fn := fun _ => fun
  | [d1, d2] => { results := [.lit (.bool true)], args := [d1, d2] }
  | _ => none }
def fnExactShrinkArrayRow : OpenClaim := { program := "ytollooimmfngjaagreat", sum := "e2ed0f1f1fca9fdb50efe0eae0121636920b8514b6ff5d2342a9468f991e6ab8", func := "loop.example/loopnests/laws.FnExactShrinkArray", spec := "fnExactShrinkArray", inPlace := ["internal/bytealg.IndexByteString", "internal/bytealg.IndexString"], unfollowed := true, recurses := true, named := ["internal/bytealg.MaxLen"], loops := true, apart := false }
def FnExactShrinkArraySaid : Prop := fnExactShrinkArrayRow.holds Tryz.pinned (OpenSpec.ofChange fnExactShrinkArraySpec)

/-- ITS FALSE NEIGHBOUR: 'it returns false'. Refute it at one input. -/
def fnExactShrinkArrayWrong : ChangeSpec := { name := "fnExactShrinkArray", fn := fun _ => fun
  | [d1, d2] => { results := [.lit (.bool false)], args := [d1, d2] }
  | _ => none }
def FnExactShrinkArrayWrongFalsely : Prop := fnExactShrinkArrayRow.holds Tryz.pinned (OpenSpec.ofChange fnExactShrinkArrayWrong)

/-- 'laws.FnExactSwapParts': WHATEVER THE INPUT: true; the input reads as it did. -/
def fnExactSwapPartsSpec : ChangeSpec := { name := "fnExactSwapParts", fn := fun _ => fun
  | [d1, d2] => { results := [.lit (.bool true)], args := [d1, d2] }
  | _ => none }
def fnExactSwapPartsRow : OpenClaim := { program := "ytollooimmfngjaagreat", sum := "e2ed0f1f1fca9fdb50efe0eae0121636920b8514b6ff5d2342a9468f991e6ab8", func := "loop.example/loopnests/laws.FnExactSwapParts", spec := "fnExactSwapParts", inPlace := ["internal/bytealg.IndexByteString", "internal/bytealg.IndexString"], unfollowed := true, recurses := true, named := ["internal/bytealg.MaxLen"], loops := true, apart := false }
def FnExactSwapPartsSaid : Prop := fnExactSwapPartsRow.holds Tryz.pinned (OpenSpec.ofChange fnExactSwapPartsSpec)

/-- ITS FALSE NEIGHBOUR: 'it returns false'. Refute it at one input. -/
def fnExactSwapPartsWrong : ChangeSpec := { name := "fnExactSwapParts", fn := fun _ => fun
  | [d1, d2] => { results := [.lit (.bool false)], args := [d1, d2] }
  | _ => none }
def FnExactSwapPartsWrongFalsely : Prop := fnExactSwapPartsRow.holds Tryz.pinned (OpenSpec.ofChange fnExactSwapPartsWrong)

/-- 'laws.FnExactDropPart': WHATEVER THE INPUT: true; the input reads as it did. -/
def fnExactDropPartSpec : ChangeSpec := { name := "fnExactDropPart", fn := fun _ => fun
  | [d1, d2] => { results := [.lit (.bool true)], args := [d1, d2] }
  | _ => none }
def fnExactDropPartRow : OpenClaim := { program := "ytollooimmfngjaagreat", sum := "e2ed0f1f1fca9fdb50efe0eae0121636920b8514b6ff5d2342a9468f991e6ab8", func := "loop.example/loopnests/laws.FnExactDropPart", spec := "fnExactDropPart", inPlace := ["internal/bytealg.IndexByteString", "internal/bytealg.IndexString"], unfollowed := true, recurses := true, named := ["internal/bytealg.MaxLen"], loops := true, apart := false }
def FnExactDropPartSaid : Prop := fnExactDropPartRow.holds Tryz.pinned (OpenSpec.ofChange fnExactDropPartSpec)

/-- ITS FALSE NEIGHBOUR: 'it returns false'. Refute it at one input. -/
def fnExactDropPartWrong : ChangeSpec := { name := "fnExactDropPart", fn := fun _ => fun
  | [d1, d2] => { results := [.lit (.bool false)], args := [d1, d2] }
  | _ => none }
def FnExactDropPartWrongFalsely : Prop := fnExactDropPartRow.holds Tryz.pinned (OpenSpec.ofChange fnExactDropPartWrong)

/- THE SECOND FORM. 'bulk': how many values and letters a reading holds, each counted each time it is reached (what is shared counts as often as it is met; a slice's spare places count too). A statement '..UptoSaid' is the law's where the arguments, and the package variables that the reading takes, are together of bulk at most 1048576: NARROWER than '..Said'. Prove '..Said' where nothing that the law and all that it calls make is longer than what came in: it says more and counts as full. Else prove '..UptoSaid'. A law counts once. -/
mutual
def uptoBulk {H : Type} : DataW H → Nat
  | .lit (.string bytes) => bytes.length + 1
  | .lit _ => 1
  | .nil => 1
  | .ptr d => uptoBulk d + 1
  | .slice elems spare => uptoBulkAll elems + uptoBulkAll spare + 1
  | .agg parts => uptoBulkAll parts + 1
  | .iface _ d => uptoBulk d + 1
  | .map entries => uptoBulkEntries entries + 1
  | .held _ => 1
def uptoBulkAll {H : Type} : List (DataW H) → Nat
  | [] => 0
  | d :: r => uptoBulk d + uptoBulkAll r
def uptoBulkEntries {H : Type} : List (Lit × DataW H) → Nat
  | [] => 0
  | x :: r => uptoBulkEntry x + uptoBulkEntries r
def uptoBulkEntry {H : Type} : Lit × DataW H → Nat
  | (.string bytes, d) => bytes.length + uptoBulk d + 1
  | (_, d) => uptoBulk d + 1
 end
def uptoSmall : (H : Type) → List (DataW H) → Bool := fun _ ds => decide (uptoBulkAll ds ≤ 1048576)
def OpenSpec.upto (s : _root_.Go.ChangeSpec) : _root_.Go.OpenSpec := { _root_.Go.OpenSpec.ofChange s with cond := some uptoSmall }

/-- 'laws.FnExactShrinkArray', WHERE WHAT IT READS IS OF BULK AT MOST 1048576: true; the input reads as it did. -/
def fnExactShrinkArrayUptoRow : OpenClaim := { program := "ytollooimmfngjaagreat", sum := "e2ed0f1f1fca9fdb50efe0eae0121636920b8514b6ff5d2342a9468f991e6ab8", func := "loop.example/loopnests/laws.FnExactShrinkArray", spec := "fnExactShrinkArray", inPlace := ["internal/bytealg.IndexByteString", "internal/bytealg.IndexString"], unfollowed := true, recurses := true, named := ["internal/bytealg.MaxLen"], loops := true, apart := false, narrowed := true }
def FnExactShrinkArrayUptoSaid : Prop := fnExactShrinkArrayUptoRow.holds Tryz.pinned (OpenSpec.upto fnExactShrinkArraySpec)

/-- 'laws.FnExactSwapParts', WHERE WHAT IT READS IS OF BULK AT MOST 1048576: true; the input reads as it did. -/
def fnExactSwapPartsUptoRow : OpenClaim := { program := "ytollooimmfngjaagreat", sum := "e2ed0f1f1fca9fdb50efe0eae0121636920b8514b6ff5d2342a9468f991e6ab8", func := "loop.example/loopnests/laws.FnExactSwapParts", spec := "fnExactSwapParts", inPlace := ["internal/bytealg.IndexByteString", "internal/bytealg.IndexString"], unfollowed := true, recurses := true, named := ["internal/bytealg.MaxLen"], loops := true, apart := false, narrowed := true }
def FnExactSwapPartsUptoSaid : Prop := fnExactSwapPartsUptoRow.holds Tryz.pinned (OpenSpec.upto fnExactSwapPartsSpec)

/-- 'laws.FnExactDropPart', WHERE WHAT IT READS IS OF BULK AT MOST 1048576: true; the input reads as it did. -/
def fnExactDropPartUptoRow : OpenClaim := { program := "ytollooimmfngjaagreat", sum := "e2ed0f1f1fca9fdb50efe0eae0121636920b8514b6ff5d2342a9468f991e6ab8", func := "loop.example/loopnests/laws.FnExactDropPart", spec := "fnExactDropPart", inPlace := ["internal/bytealg.IndexByteString", "internal/bytealg.IndexString"], unfollowed := true, recurses := true, named := ["internal/bytealg.MaxLen"], loops := true, apart := false, narrowed := true }
def FnExactDropPartUptoSaid : Prop := fnExactDropPartUptoRow.holds Tryz.pinned (OpenSpec.upto fnExactDropPartSpec)

end Rows
end Go.Proofs.YtollooimmfngjaaGreat
