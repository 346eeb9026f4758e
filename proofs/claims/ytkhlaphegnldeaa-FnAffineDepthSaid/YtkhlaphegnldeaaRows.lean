/-
  No cell of these rows narrows 'for every input' (looked for: loops, veiled, ifaces, maps, wideKeys, modest, calm, conditions, laid).
  DERIVED. THE GIVEN ROWS OF THIS SEAT. 7 by the template 'for every input the law returns true; each argument reads behind the call as it read before'; 0 by the template 'total and deterministic' (their statements: YtkhlaphegnldeaaTotals.lean).
  GIVEN WITH THE SEED: the statements are not yours to turn. If you find one false, say at which input.
  Laid BY PROGRAM, IN A SANDBOX (cutbox-rows.mjs): the forced cells as the released guide's own fill.sh prints them over the translation 20c474979b38870d… (all of the seat's roots in one cut). By AI agents, Wed Nov 11 2026. No macro, syntax, notation, axiom, sorry.
-/
import Derived.Test.YtkhlaphegnldeaaChecked
import GoSem.Claim
import GoSem.ClaimJoined
import GoSem.ClaimMapViews
import Derived.JoinedTies
import Derived.KernelRfl
namespace Go.Proofs.Ytkhlaphegnldeaa
/- THE CELL 'sum', in the pinned program and in every row, IS THE sha256 OF THE DUMP (.gsa) THAT YtkhlaphegnldeaaProg.lean LOADS. Nothing in Lean hashes anything: it is a label: what it is worth is what the hold of that sum in a sandbox is worth. -/
noncomputable def Try.pinned : Pinned := { name := "ytkhlaphegnldeaa", sum := "20c474979b38870dcf90ea87fae998c7b5d8f5768b72d484a54a113303675d05", checked := Try.checked }
namespace Rows
def none {H : Type} : Left H := { results := [], args := [] }

/-- 'laws.FnAffineDepth': WHATEVER THE INPUT: true; the input reads as it did. -/
def fnAffineDepthSpec : ChangeSpec := { name := "fnAffineDepth", fn := fun _ => fun
  | [d1, d2] => { results := [.lit (.bool true)], args := [d1, d2] }
  | _ => none }
def fnAffineDepthRow : OpenClaim := { program := "ytkhlaphegnldeaa", sum := "20c474979b38870dcf90ea87fae998c7b5d8f5768b72d484a54a113303675d05", func := "loop.example/loopnests/laws.FnAffineDepth", spec := "fnAffineDepth", unfollowed := true, recurses := true, apart := false }
def FnAffineDepthSaid : Prop := fnAffineDepthRow.holds Try.pinned (OpenSpec.ofChange fnAffineDepthSpec)

/-- ITS FALSE NEIGHBOUR: 'it returns false'. Refute it at one input. -/
def fnAffineDepthWrong : ChangeSpec := { name := "fnAffineDepth", fn := fun _ => fun
  | [d1, d2] => { results := [.lit (.bool false)], args := [d1, d2] }
  | _ => none }
def FnAffineDepthWrongFalsely : Prop := fnAffineDepthRow.holds Try.pinned (OpenSpec.ofChange fnAffineDepthWrong)

/-- 'laws.FnEvalAffine': WHATEVER THE INPUT: true; the input reads as it did. -/
def fnEvalAffineSpec : ChangeSpec := { name := "fnEvalAffine", fn := fun _ => fun
  | [d] => { results := [.lit (.bool true)], args := [d] }
  | _ => none }
def fnEvalAffineRow : OpenClaim := { program := "ytkhlaphegnldeaa", sum := "20c474979b38870dcf90ea87fae998c7b5d8f5768b72d484a54a113303675d05", func := "loop.example/loopnests/laws.FnEvalAffine", spec := "fnEvalAffine", unfollowed := true, recurses := true, apart := false }
def FnEvalAffineSaid : Prop := fnEvalAffineRow.holds Try.pinned (OpenSpec.ofChange fnEvalAffineSpec)

/-- ITS FALSE NEIGHBOUR: 'it returns false'. Refute it at one input. -/
def fnEvalAffineWrong : ChangeSpec := { name := "fnEvalAffine", fn := fun _ => fun
  | [d] => { results := [.lit (.bool false)], args := [d] }
  | _ => none }
def FnEvalAffineWrongFalsely : Prop := fnEvalAffineRow.holds Try.pinned (OpenSpec.ofChange fnEvalAffineWrong)

/-- 'laws.FnSubstIdentity': WHATEVER THE INPUT: true; the input reads as it did. -/
def fnSubstIdentitySpec : ChangeSpec := { name := "fnSubstIdentity", fn := fun _ => fun
  | [d] => { results := [.lit (.bool true)], args := [d] }
  | _ => none }
def fnSubstIdentityRow : OpenClaim := { program := "ytkhlaphegnldeaa", sum := "20c474979b38870dcf90ea87fae998c7b5d8f5768b72d484a54a113303675d05", func := "loop.example/loopnests/laws.FnSubstIdentity", spec := "fnSubstIdentity", unfollowed := true, recurses := true, apart := false }
def FnSubstIdentitySaid : Prop := fnSubstIdentityRow.holds Try.pinned (OpenSpec.ofChange fnSubstIdentitySpec)

/-- ITS FALSE NEIGHBOUR: 'it returns false'. Refute it at one input. -/
def fnSubstIdentityWrong : ChangeSpec := { name := "fnSubstIdentity", fn := fun _ => fun
  | [d] => { results := [.lit (.bool false)], args := [d] }
  | _ => none }
def FnSubstIdentityWrongFalsely : Prop := fnSubstIdentityRow.holds Try.pinned (OpenSpec.ofChange fnSubstIdentityWrong)

/-- 'laws.FnScaleAdd': WHATEVER THE INPUT: true; the input reads as it did. -/
def fnScaleAddSpec : ChangeSpec := { name := "fnScaleAdd", fn := fun _ => fun
  | [d1, d2] => { results := [.lit (.bool true)], args := [d1, d2] }
  | _ => none }
def fnScaleAddRow : OpenClaim := { program := "ytkhlaphegnldeaa", sum := "20c474979b38870dcf90ea87fae998c7b5d8f5768b72d484a54a113303675d05", func := "loop.example/loopnests/laws.FnScaleAdd", spec := "fnScaleAdd", unfollowed := true, recurses := true, apart := false }
def FnScaleAddSaid : Prop := fnScaleAddRow.holds Try.pinned (OpenSpec.ofChange fnScaleAddSpec)

/-- ITS FALSE NEIGHBOUR: 'it returns false'. Refute it at one input. -/
def fnScaleAddWrong : ChangeSpec := { name := "fnScaleAdd", fn := fun _ => fun
  | [d1, d2] => { results := [.lit (.bool false)], args := [d1, d2] }
  | _ => none }
def FnScaleAddWrongFalsely : Prop := fnScaleAddRow.holds Try.pinned (OpenSpec.ofChange fnScaleAddWrong)

/-- 'laws.FnSubstAdd': WHATEVER THE INPUT: true; the input reads as it did. -/
def fnSubstAddSpec : ChangeSpec := { name := "fnSubstAdd", fn := fun _ => fun
  | [d1, d2] => { results := [.lit (.bool true)], args := [d1, d2] }
  | _ => none }
def fnSubstAddRow : OpenClaim := { program := "ytkhlaphegnldeaa", sum := "20c474979b38870dcf90ea87fae998c7b5d8f5768b72d484a54a113303675d05", func := "loop.example/loopnests/laws.FnSubstAdd", spec := "fnSubstAdd", unfollowed := true, recurses := true, apart := false }
def FnSubstAddSaid : Prop := fnSubstAddRow.holds Try.pinned (OpenSpec.ofChange fnSubstAddSpec)

/-- ITS FALSE NEIGHBOUR: 'it returns false'. Refute it at one input. -/
def fnSubstAddWrong : ChangeSpec := { name := "fnSubstAdd", fn := fun _ => fun
  | [d1, d2] => { results := [.lit (.bool false)], args := [d1, d2] }
  | _ => none }
def FnSubstAddWrongFalsely : Prop := fnSubstAddRow.holds Try.pinned (OpenSpec.ofChange fnSubstAddWrong)

/-- 'laws.FnSubstAffine': WHATEVER THE INPUT: true; the input reads as it did. -/
def fnSubstAffineSpec : ChangeSpec := { name := "fnSubstAffine", fn := fun _ => fun
  | [d1, d2] => { results := [.lit (.bool true)], args := [d1, d2] }
  | _ => none }
def fnSubstAffineRow : OpenClaim := { program := "ytkhlaphegnldeaa", sum := "20c474979b38870dcf90ea87fae998c7b5d8f5768b72d484a54a113303675d05", func := "loop.example/loopnests/laws.FnSubstAffine", spec := "fnSubstAffine", unfollowed := true, recurses := true, apart := false }
def FnSubstAffineSaid : Prop := fnSubstAffineRow.holds Try.pinned (OpenSpec.ofChange fnSubstAffineSpec)

/-- ITS FALSE NEIGHBOUR: 'it returns false'. Refute it at one input. -/
def fnSubstAffineWrong : ChangeSpec := { name := "fnSubstAffine", fn := fun _ => fun
  | [d1, d2] => { results := [.lit (.bool false)], args := [d1, d2] }
  | _ => none }
def FnSubstAffineWrongFalsely : Prop := fnSubstAffineRow.holds Try.pinned (OpenSpec.ofChange fnSubstAffineWrong)

/-- 'laws.FnAddAffine': WHATEVER THE INPUT: true; the input reads as it did. -/
def fnAddAffineSpec : ChangeSpec := { name := "fnAddAffine", fn := fun _ => fun
  | [d1, d2] => { results := [.lit (.bool true)], args := [d1, d2] }
  | _ => none }
def fnAddAffineRow : OpenClaim := { program := "ytkhlaphegnldeaa", sum := "20c474979b38870dcf90ea87fae998c7b5d8f5768b72d484a54a113303675d05", func := "loop.example/loopnests/laws.FnAddAffine", spec := "fnAddAffine", unfollowed := true, recurses := true, apart := false }
def FnAddAffineSaid : Prop := fnAddAffineRow.holds Try.pinned (OpenSpec.ofChange fnAddAffineSpec)

/-- ITS FALSE NEIGHBOUR: 'it returns false'. Refute it at one input. -/
def fnAddAffineWrong : ChangeSpec := { name := "fnAddAffine", fn := fun _ => fun
  | [d1, d2] => { results := [.lit (.bool false)], args := [d1, d2] }
  | _ => none }
def FnAddAffineWrongFalsely : Prop := fnAddAffineRow.holds Try.pinned (OpenSpec.ofChange fnAddAffineWrong)

/- THE SECOND FORM. 'bulk': how many values and letters a reading holds, each counted each time it is reached (what is shared counts as often as it is met; a slice's spare places count too). A statement '..UptoSaid' is the law's where the arguments, and the package variables that the reading takes, are together of bulk at most 1048576: NARROWER than '..Said'. Prove '..Said' where nothing that the law and all that it calls make is longer than what came in: it says more and counts as full. Else prove '..UptoSaid'. A law counts once. -/
mutual
def uptoBulk {H : Type} : DataW H → Nat
  | .lit (.string bytes) => bytes.length + 1
  | .lit _ => 1
  | .nil => 1
  | .ptr d => uptoBulk d + 1
  | .slice elems spare => uptoBulkAll elems + uptoBulkAll spare + 1
  | .agg parts => uptoBulkAll parts + 1
  | .iface _ d => uptoBulk d + 1
  | .map entries => uptoBulkEntries entries + 1
  | .held _ => 1
def uptoBulkAll {H : Type} : List (DataW H) → Nat
  | [] => 0
  | d :: r => uptoBulk d + uptoBulkAll r
def uptoBulkEntries {H : Type} : List (Lit × DataW H) → Nat
  | [] => 0
  | x :: r => uptoBulkEntry x + uptoBulkEntries r
def uptoBulkEntry {H : Type} : Lit × DataW H → Nat
  | (.string bytes, d) => bytes.length + uptoBulk d + 1
  | (_, d) => uptoBulk d + 1
 end
def uptoSmall : (H : Type) → List (DataW H) → Bool := fun _ ds => decide (uptoBulkAll ds ≤ 1048576)
def OpenSpec.upto (s : _root_.Go.ChangeSpec) : _root_.Go.OpenSpec := { _root_.Go.OpenSpec.ofChange s with cond := some uptoSmall }

/-- 'laws.FnAffineDepth', WHERE WHAT IT READS IS OF BULK AT MOST 1048576: true; the input reads as it did. -/
def fnAffineDepthUptoRow : OpenClaim := { program := "ytkhlaphegnldeaa", sum := "20c474979b38870dcf90ea87fae998c7b5d8f5768b72d484a54a113303675d05", func := "loop.example/loopnests/laws.FnAffineDepth", spec := "fnAffineDepth", unfollowed := true, recurses := true, apart := false, narrowed := true }
def FnAffineDepthUptoSaid : Prop := fnAffineDepthUptoRow.holds Try.pinned (OpenSpec.upto fnAffineDepthSpec)

/-- 'laws.FnEvalAffine', WHERE WHAT IT READS IS OF BULK AT MOST 1048576: true; the input reads as it did. -/
def fnEvalAffineUptoRow : OpenClaim := { program := "ytkhlaphegnldeaa", sum := "20c474979b38870dcf90ea87fae998c7b5d8f5768b72d484a54a113303675d05", func := "loop.example/loopnests/laws.FnEvalAffine", spec := "fnEvalAffine", unfollowed := true, recurses := true, apart := false, narrowed := true }
def FnEvalAffineUptoSaid : Prop := fnEvalAffineUptoRow.holds Try.pinned (OpenSpec.upto fnEvalAffineSpec)

/-- 'laws.FnSubstIdentity', WHERE WHAT IT READS IS OF BULK AT MOST 1048576: true; the input reads as it did. -/
def fnSubstIdentityUptoRow : OpenClaim := { program := "ytkhlaphegnldeaa", sum := "20c474979b38870dcf90ea87fae998c7b5d8f5768b72d484a54a113303675d05", func := "loop.example/loopnests/laws.FnSubstIdentity", spec := "fnSubstIdentity", unfollowed := true, recurses := true, apart := false, narrowed := true }
def FnSubstIdentityUptoSaid : Prop := fnSubstIdentityUptoRow.holds Try.pinned (OpenSpec.upto fnSubstIdentitySpec)

/-- 'laws.FnScaleAdd', WHERE WHAT IT READS IS OF BULK AT MOST 1048576: true; the input reads as it did. -/
def fnScaleAddUptoRow : OpenClaim := { program := "ytkhlaphegnldeaa", sum := "20c474979b38870dcf90ea87fae998c7b5d8f5768b72d484a54a113303675d05", func := "loop.example/loopnests/laws.FnScaleAdd", spec := "fnScaleAdd", unfollowed := true, recurses := true, apart := false, narrowed := true }
def FnScaleAddUptoSaid : Prop := fnScaleAddUptoRow.holds Try.pinned (OpenSpec.upto fnScaleAddSpec)

/-- 'laws.FnSubstAdd', WHERE WHAT IT READS IS OF BULK AT MOST 1048576: true; the input reads as it did. -/
def fnSubstAddUptoRow : OpenClaim := { program := "ytkhlaphegnldeaa", sum := "20c474979b38870dcf90ea87fae998c7b5d8f5768b72d484a54a113303675d05", func := "loop.example/loopnests/laws.FnSubstAdd", spec := "fnSubstAdd", unfollowed := true, recurses := true, apart := false, narrowed := true }
def FnSubstAddUptoSaid : Prop := fnSubstAddUptoRow.holds Try.pinned (OpenSpec.upto fnSubstAddSpec)

/-- 'laws.FnSubstAffine', WHERE WHAT IT READS IS OF BULK AT MOST 1048576: true; the input reads as it did. -/
def fnSubstAffineUptoRow : OpenClaim := { program := "ytkhlaphegnldeaa", sum := "20c474979b38870dcf90ea87fae998c7b5d8f5768b72d484a54a113303675d05", func := "loop.example/loopnests/laws.FnSubstAffine", spec := "fnSubstAffine", unfollowed := true, recurses := true, apart := false, narrowed := true }
def FnSubstAffineUptoSaid : Prop := fnSubstAffineUptoRow.holds Try.pinned (OpenSpec.upto fnSubstAffineSpec)

/-- 'laws.FnAddAffine', WHERE WHAT IT READS IS OF BULK AT MOST 1048576: true; the input reads as it did. -/
def fnAddAffineUptoRow : OpenClaim := { program := "ytkhlaphegnldeaa", sum := "20c474979b38870dcf90ea87fae998c7b5d8f5768b72d484a54a113303675d05", func := "loop.example/loopnests/laws.FnAddAffine", spec := "fnAddAffine", unfollowed := true, recurses := true, apart := false, narrowed := true }
def FnAddAffineUptoSaid : Prop := fnAddAffineUptoRow.holds Try.pinned (OpenSpec.upto fnAddAffineSpec)

end Rows
end Go.Proofs.Ytkhlaphegnldeaa
