/-
  No cell of these rows narrows 'for every input' (looked for: loops, veiled, ifaces, maps, wideKeys, modest, calm, conditions, laid).
  DERIVED. THE GIVEN ROWS OF THIS SEAT. 10 by the template 'for every input the law returns true; each argument reads behind the call as it read before'; 0 by the template 'total and deterministic' (their statements: YtgcpdpbapgkdjaaTotals.lean).
  GIVEN WITH THE SEED: the statements are not yours to turn. If you find one false, say at which input.
  Laid BY PROGRAM, IN A SANDBOX (cutbox-rows.mjs): the forced cells as the released guide's own fill.sh prints them over the translation 3fb829eb1ada2155… (all of the seat's roots in one cut). By AI agents, Wed Nov 11 2026. No macro, syntax, notation, axiom, sorry.
-/
import Derived.Test.YtgcpdpbapgkdjaaChecked
import GoSem.Claim
import GoSem.ClaimJoined
import GoSem.ClaimMapViews
import Derived.JoinedTies
import Derived.KernelRfl
namespace Go.Proofs.Ytgcpdpbapgkdjaa
/- THE CELL 'sum', in the pinned program and in every row, IS THE sha256 OF THE DUMP (.gsa) THAT YtgcpdpbapgkdjaaProg.lean LOADS. Nothing in Lean hashes anything: it is a label: what it is worth is what the hold of that sum in a sandbox is worth. -/
noncomputable def Try.pinned : Pinned := { name := "ytgcpdpbapgkdjaa", sum := "3fb829eb1ada21553c634fe24eaa4117a17841038ab42b43651daf8376b2054c", checked := Try.checked }
namespace Rows
def none {H : Type} : Left H := { results := [], args := [] }

/-- 'laws.FnNestSame': WHATEVER THE INPUT: true; the input reads as it did. -/
def fnNestSameSpec : ChangeSpec := { name := "fnNestSame", fn := fun _ => fun
  | [d] => { results := [.lit (.bool true)], args := [d] }
  | _ => none }
def fnNestSameRow : OpenClaim := { program := "ytgcpdpbapgkdjaa", sum := "3fb829eb1ada21553c634fe24eaa4117a17841038ab42b43651daf8376b2054c", func := "loop.example/loopnests/laws.FnNestSame", spec := "fnNestSame", unfollowed := true, recurses := true, apart := false }
def FnNestSameSaid : Prop := fnNestSameRow.holds Try.pinned (OpenSpec.ofChange fnNestSameSpec)

/-- ITS FALSE NEIGHBOUR: 'it returns false'. Refute it at one input. -/
def fnNestSameWrong : ChangeSpec := { name := "fnNestSame", fn := fun _ => fun
  | [d] => { results := [.lit (.bool false)], args := [d] }
  | _ => none }
def FnNestSameWrongFalsely : Prop := fnNestSameRow.holds Try.pinned (OpenSpec.ofChange fnNestSameWrong)

/-- 'laws.FnBoxNest': WHATEVER THE INPUT: true; the input reads as it did. -/
def fnBoxNestSpec : ChangeSpec := { name := "fnBoxNest", fn := fun _ => fun
  | [d] => { results := [.lit (.bool true)], args := [d] }
  | _ => none }
def fnBoxNestRow : OpenClaim := { program := "ytgcpdpbapgkdjaa", sum := "3fb829eb1ada21553c634fe24eaa4117a17841038ab42b43651daf8376b2054c", func := "loop.example/loopnests/laws.FnBoxNest", spec := "fnBoxNest", unfollowed := true, recurses := true, apart := false }
def FnBoxNestSaid : Prop := fnBoxNestRow.holds Try.pinned (OpenSpec.ofChange fnBoxNestSpec)

/-- ITS FALSE NEIGHBOUR: 'it returns false'. Refute it at one input. -/
def fnBoxNestWrong : ChangeSpec := { name := "fnBoxNest", fn := fun _ => fun
  | [d] => { results := [.lit (.bool false)], args := [d] }
  | _ => none }
def FnBoxNestWrongFalsely : Prop := fnBoxNestRow.holds Try.pinned (OpenSpec.ofChange fnBoxNestWrong)

/-- 'laws.FnRectNest': WHATEVER THE INPUT: true; the input reads as it did. -/
def fnRectNestSpec : ChangeSpec := { name := "fnRectNest", fn := fun _ => fun
  | [d1, d2] => { results := [.lit (.bool true)], args := [d1, d2] }
  | _ => none }
def fnRectNestRow : OpenClaim := { program := "ytgcpdpbapgkdjaa", sum := "3fb829eb1ada21553c634fe24eaa4117a17841038ab42b43651daf8376b2054c", func := "loop.example/loopnests/laws.FnRectNest", spec := "fnRectNest", unfollowed := true, recurses := true, apart := false }
def FnRectNestSaid : Prop := fnRectNestRow.holds Try.pinned (OpenSpec.ofChange fnRectNestSpec)

/-- ITS FALSE NEIGHBOUR: 'it returns false'. Refute it at one input. -/
def fnRectNestWrong : ChangeSpec := { name := "fnRectNest", fn := fun _ => fun
  | [d1, d2] => { results := [.lit (.bool false)], args := [d1, d2] }
  | _ => none }
def FnRectNestWrongFalsely : Prop := fnRectNestRow.holds Try.pinned (OpenSpec.ofChange fnRectNestWrong)

/-- 'laws.FnLoopRange': WHATEVER THE INPUT: true; the input reads as it did. -/
def fnLoopRangeSpec : ChangeSpec := { name := "fnLoopRange", fn := fun _ => fun
  | [d] => { results := [.lit (.bool true)], args := [d] }
  | _ => none }
def fnLoopRangeRow : OpenClaim := { program := "ytgcpdpbapgkdjaa", sum := "3fb829eb1ada21553c634fe24eaa4117a17841038ab42b43651daf8376b2054c", func := "loop.example/loopnests/laws.FnLoopRange", spec := "fnLoopRange", unfollowed := true, recurses := true, apart := false }
def FnLoopRangeSaid : Prop := fnLoopRangeRow.holds Try.pinned (OpenSpec.ofChange fnLoopRangeSpec)

/-- ITS FALSE NEIGHBOUR: 'it returns false'. Refute it at one input. -/
def fnLoopRangeWrong : ChangeSpec := { name := "fnLoopRange", fn := fun _ => fun
  | [d] => { results := [.lit (.bool false)], args := [d] }
  | _ => none }
def FnLoopRangeWrongFalsely : Prop := fnLoopRangeRow.holds Try.pinned (OpenSpec.ofChange fnLoopRangeWrong)

/-- 'laws.FnNestCount': WHATEVER THE INPUT: true; the input reads as it did. -/
def fnNestCountSpec : ChangeSpec := { name := "fnNestCount", fn := fun _ => fun
  | [d] => { results := [.lit (.bool true)], args := [d] }
  | _ => none }
def fnNestCountRow : OpenClaim := { program := "ytgcpdpbapgkdjaa", sum := "3fb829eb1ada21553c634fe24eaa4117a17841038ab42b43651daf8376b2054c", func := "loop.example/loopnests/laws.FnNestCount", spec := "fnNestCount", unfollowed := true, recurses := true, apart := false }
def FnNestCountSaid : Prop := fnNestCountRow.holds Try.pinned (OpenSpec.ofChange fnNestCountSpec)

/-- ITS FALSE NEIGHBOUR: 'it returns false'. Refute it at one input. -/
def fnNestCountWrong : ChangeSpec := { name := "fnNestCount", fn := fun _ => fun
  | [d] => { results := [.lit (.bool false)], args := [d] }
  | _ => none }
def FnNestCountWrongFalsely : Prop := fnNestCountRow.holds Try.pinned (OpenSpec.ofChange fnNestCountWrong)

/-- 'laws.FnNestPrefix': WHATEVER THE INPUT: true; the input reads as it did. -/
def fnNestPrefixSpec : ChangeSpec := { name := "fnNestPrefix", fn := fun _ => fun
  | [d1, d2] => { results := [.lit (.bool true)], args := [d1, d2] }
  | _ => none }
def fnNestPrefixRow : OpenClaim := { program := "ytgcpdpbapgkdjaa", sum := "3fb829eb1ada21553c634fe24eaa4117a17841038ab42b43651daf8376b2054c", func := "loop.example/loopnests/laws.FnNestPrefix", spec := "fnNestPrefix", unfollowed := true, recurses := true, apart := false }
def FnNestPrefixSaid : Prop := fnNestPrefixRow.holds Try.pinned (OpenSpec.ofChange fnNestPrefixSpec)

/-- ITS FALSE NEIGHBOUR: 'it returns false'. Refute it at one input. -/
def fnNestPrefixWrong : ChangeSpec := { name := "fnNestPrefix", fn := fun _ => fun
  | [d1, d2] => { results := [.lit (.bool false)], args := [d1, d2] }
  | _ => none }
def FnNestPrefixWrongFalsely : Prop := fnNestPrefixRow.holds Try.pinned (OpenSpec.ofChange fnNestPrefixWrong)

/-- 'laws.FnExactSubscriptRange': WHATEVER THE INPUT: true; the input reads as it did. -/
def fnExactSubscriptRangeSpec : ChangeSpec := { name := "fnExactSubscriptRange", fn := fun _ => fun
  | [d1, d2] => { results := [.lit (.bool true)], args := [d1, d2] }
  | _ => none }
def fnExactSubscriptRangeRow : OpenClaim := { program := "ytgcpdpbapgkdjaa", sum := "3fb829eb1ada21553c634fe24eaa4117a17841038ab42b43651daf8376b2054c", func := "loop.example/loopnests/laws.FnExactSubscriptRange", spec := "fnExactSubscriptRange", unfollowed := true, recurses := true, apart := false }
def FnExactSubscriptRangeSaid : Prop := fnExactSubscriptRangeRow.holds Try.pinned (OpenSpec.ofChange fnExactSubscriptRangeSpec)

/-- ITS FALSE NEIGHBOUR: 'it returns false'. Refute it at one input. -/
def fnExactSubscriptRangeWrong : ChangeSpec := { name := "fnExactSubscriptRange", fn := fun _ => fun
  | [d1, d2] => { results := [.lit (.bool false)], args := [d1, d2] }
  | _ => none }
def FnExactSubscriptRangeWrongFalsely : Prop := fnExactSubscriptRangeRow.holds Try.pinned (OpenSpec.ofChange fnExactSubscriptRangeWrong)

/-- 'laws.FnPointIn': WHATEVER THE INPUT: true; the input reads as it did. -/
def fnPointInSpec : ChangeSpec := { name := "fnPointIn", fn := fun _ => fun
  | [d] => { results := [.lit (.bool true)], args := [d] }
  | _ => none }
def fnPointInRow : OpenClaim := { program := "ytgcpdpbapgkdjaa", sum := "3fb829eb1ada21553c634fe24eaa4117a17841038ab42b43651daf8376b2054c", func := "loop.example/loopnests/laws.FnPointIn", spec := "fnPointIn", unfollowed := true, recurses := true, apart := false }
def FnPointInSaid : Prop := fnPointInRow.holds Try.pinned (OpenSpec.ofChange fnPointInSpec)

/-- ITS FALSE NEIGHBOUR: 'it returns false'. Refute it at one input. -/
def fnPointInWrong : ChangeSpec := { name := "fnPointIn", fn := fun _ => fun
  | [d] => { results := [.lit (.bool false)], args := [d] }
  | _ => none }
def FnPointInWrongFalsely : Prop := fnPointInRow.holds Try.pinned (OpenSpec.ofChange fnPointInWrong)

/-- 'laws.FnSubscriptRange': WHATEVER THE INPUT: true; the input reads as it did. -/
def fnSubscriptRangeSpec : ChangeSpec := { name := "fnSubscriptRange", fn := fun _ => fun
  | [d] => { results := [.lit (.bool true)], args := [d] }
  | _ => none }
def fnSubscriptRangeRow : OpenClaim := { program := "ytgcpdpbapgkdjaa", sum := "3fb829eb1ada21553c634fe24eaa4117a17841038ab42b43651daf8376b2054c", func := "loop.example/loopnests/laws.FnSubscriptRange", spec := "fnSubscriptRange", unfollowed := true, recurses := true, apart := false }
def FnSubscriptRangeSaid : Prop := fnSubscriptRangeRow.holds Try.pinned (OpenSpec.ofChange fnSubscriptRangeSpec)

/-- ITS FALSE NEIGHBOUR: 'it returns false'. Refute it at one input. -/
def fnSubscriptRangeWrong : ChangeSpec := { name := "fnSubscriptRange", fn := fun _ => fun
  | [d] => { results := [.lit (.bool false)], args := [d] }
  | _ => none }
def FnSubscriptRangeWrongFalsely : Prop := fnSubscriptRangeRow.holds Try.pinned (OpenSpec.ofChange fnSubscriptRangeWrong)

/-- 'laws.FnNestPoints': WHATEVER THE INPUT: true; the input reads as it did. -/
def fnNestPointsSpec : ChangeSpec := { name := "fnNestPoints", fn := fun _ => fun
  | [d] => { results := [.lit (.bool true)], args := [d] }
  | _ => none }
def fnNestPointsRow : OpenClaim := { program := "ytgcpdpbapgkdjaa", sum := "3fb829eb1ada21553c634fe24eaa4117a17841038ab42b43651daf8376b2054c", func := "loop.example/loopnests/laws.FnNestPoints", spec := "fnNestPoints", unfollowed := true, recurses := true, apart := false }
def FnNestPointsSaid : Prop := fnNestPointsRow.holds Try.pinned (OpenSpec.ofChange fnNestPointsSpec)

/-- ITS FALSE NEIGHBOUR: 'it returns false'. Refute it at one input. -/
def fnNestPointsWrong : ChangeSpec := { name := "fnNestPoints", fn := fun _ => fun
  | [d] => { results := [.lit (.bool false)], args := [d] }
  | _ => none }
def FnNestPointsWrongFalsely : Prop := fnNestPointsRow.holds Try.pinned (OpenSpec.ofChange fnNestPointsWrong)

/- THE SECOND FORM. 'bulk': how many values and letters a reading holds, each counted each time it is reached (what is shared counts as often as it is met; a slice's spare places count too). A statement '..UptoSaid' is the law's where the arguments, and the package variables that the reading takes, are together of bulk at most 1048576: NARROWER than '..Said'. Prove '..Said' where nothing that the law and all that it calls make is longer than what came in: it says more and counts as full. Else prove '..UptoSaid'. A law counts once. -/
mutual
def uptoBulk {H : Type} : DataW H → Nat
  | .lit (.string bytes) => bytes.length + 1
  | .lit _ => 1
  | .nil => 1
  | .ptr d => uptoBulk d + 1
  | .slice elems spare => uptoBulkAll elems + uptoBulkAll spare + 1
  | .agg parts => uptoBulkAll parts + 1
  | .iface _ d => uptoBulk d + 1
  | .map entries => uptoBulkEntries entries + 1
  | .held _ => 1
def uptoBulkAll {H : Type} : List (DataW H) → Nat
  | [] => 0
  | d :: r => uptoBulk d + uptoBulkAll r
def uptoBulkEntries {H : Type} : List (Lit × DataW H) → Nat
  | [] => 0
  | x :: r => uptoBulkEntry x + uptoBulkEntries r
def uptoBulkEntry {H : Type} : Lit × DataW H → Nat
  | (.string bytes, d) => bytes.length + uptoBulk d + 1
  | (_, d) => uptoBulk d + 1
 end
def uptoSmall : (H : Type) → List (DataW H) → Bool := fun _ ds => decide (uptoBulkAll ds ≤ 1048576)
def OpenSpec.upto (s : _root_.Go.ChangeSpec) : _root_.Go.OpenSpec := { _root_.Go.OpenSpec.ofChange s with cond := some uptoSmall }

/-- 'laws.FnNestSame', WHERE WHAT IT READS IS OF BULK AT MOST 1048576: true; the input reads as it did. -/
def fnNestSameUptoRow : OpenClaim := { program := "ytgcpdpbapgkdjaa", sum := "3fb829eb1ada21553c634fe24eaa4117a17841038ab42b43651daf8376b2054c", func := "loop.example/loopnests/laws.FnNestSame", spec := "fnNestSame", unfollowed := true, recurses := true, apart := false, narrowed := true }
def FnNestSameUptoSaid : Prop := fnNestSameUptoRow.holds Try.pinned (OpenSpec.upto fnNestSameSpec)

/-- 'laws.FnBoxNest', WHERE WHAT IT READS IS OF BULK AT MOST 1048576: true; the input reads as it did. -/
def fnBoxNestUptoRow : OpenClaim := { program := "ytgcpdpbapgkdjaa", sum := "3fb829eb1ada21553c634fe24eaa4117a17841038ab42b43651daf8376b2054c", func := "loop.example/loopnests/laws.FnBoxNest", spec := "fnBoxNest", unfollowed := true, recurses := true, apart := false, narrowed := true }
def FnBoxNestUptoSaid : Prop := fnBoxNestUptoRow.holds Try.pinned (OpenSpec.upto fnBoxNestSpec)

/-- 'laws.FnRectNest', WHERE WHAT IT READS IS OF BULK AT MOST 1048576: true; the input reads as it did. -/
def fnRectNestUptoRow : OpenClaim := { program := "ytgcpdpbapgkdjaa", sum := "3fb829eb1ada21553c634fe24eaa4117a17841038ab42b43651daf8376b2054c", func := "loop.example/loopnests/laws.FnRectNest", spec := "fnRectNest", unfollowed := true, recurses := true, apart := false, narrowed := true }
def FnRectNestUptoSaid : Prop := fnRectNestUptoRow.holds Try.pinned (OpenSpec.upto fnRectNestSpec)

/-- 'laws.FnLoopRange', WHERE WHAT IT READS IS OF BULK AT MOST 1048576: true; the input reads as it did. -/
def fnLoopRangeUptoRow : OpenClaim := { program := "ytgcpdpbapgkdjaa", sum := "3fb829eb1ada21553c634fe24eaa4117a17841038ab42b43651daf8376b2054c", func := "loop.example/loopnests/laws.FnLoopRange", spec := "fnLoopRange", unfollowed := true, recurses := true, apart := false, narrowed := true }
def FnLoopRangeUptoSaid : Prop := fnLoopRangeUptoRow.holds Try.pinned (OpenSpec.upto fnLoopRangeSpec)

/-- 'laws.FnNestCount', WHERE WHAT IT READS IS OF BULK AT MOST 1048576: true; the input reads as it did. -/
def fnNestCountUptoRow : OpenClaim := { program := "ytgcpdpbapgkdjaa", sum := "3fb829eb1ada21553c634fe24eaa4117a17841038ab42b43651daf8376b2054c", func := "loop.example/loopnests/laws.FnNestCount", spec := "fnNestCount", unfollowed := true, recurses := true, apart := false, narrowed := true }
def FnNestCountUptoSaid : Prop := fnNestCountUptoRow.holds Try.pinned (OpenSpec.upto fnNestCountSpec)

/-- 'laws.FnNestPrefix', WHERE WHAT IT READS IS OF BULK AT MOST 1048576: true; the input reads as it did. -/
def fnNestPrefixUptoRow : OpenClaim := { program := "ytgcpdpbapgkdjaa", sum := "3fb829eb1ada21553c634fe24eaa4117a17841038ab42b43651daf8376b2054c", func := "loop.example/loopnests/laws.FnNestPrefix", spec := "fnNestPrefix", unfollowed := true, recurses := true, apart := false, narrowed := true }
def FnNestPrefixUptoSaid : Prop := fnNestPrefixUptoRow.holds Try.pinned (OpenSpec.upto fnNestPrefixSpec)

/-- 'laws.FnExactSubscriptRange', WHERE WHAT IT READS IS OF BULK AT MOST 1048576: true; the input reads as it did. -/
def fnExactSubscriptRangeUptoRow : OpenClaim := { program := "ytgcpdpbapgkdjaa", sum := "3fb829eb1ada21553c634fe24eaa4117a17841038ab42b43651daf8376b2054c", func := "loop.example/loopnests/laws.FnExactSubscriptRange", spec := "fnExactSubscriptRange", unfollowed := true, recurses := true, apart := false, narrowed := true }
def FnExactSubscriptRangeUptoSaid : Prop := fnExactSubscriptRangeUptoRow.holds Try.pinned (OpenSpec.upto fnExactSubscriptRangeSpec)

/-- 'laws.FnPointIn', WHERE WHAT IT READS IS OF BULK AT MOST 1048576: true; the input reads as it did. -/
def fnPointInUptoRow : OpenClaim := { program := "ytgcpdpbapgkdjaa", sum := "3fb829eb1ada21553c634fe24eaa4117a17841038ab42b43651daf8376b2054c", func := "loop.example/loopnests/laws.FnPointIn", spec := "fnPointIn", unfollowed := true, recurses := true, apart := false, narrowed := true }
def FnPointInUptoSaid : Prop := fnPointInUptoRow.holds Try.pinned (OpenSpec.upto fnPointInSpec)

/-- 'laws.FnSubscriptRange', WHERE WHAT IT READS IS OF BULK AT MOST 1048576: true; the input reads as it did. -/
def fnSubscriptRangeUptoRow : OpenClaim := { program := "ytgcpdpbapgkdjaa", sum := "3fb829eb1ada21553c634fe24eaa4117a17841038ab42b43651daf8376b2054c", func := "loop.example/loopnests/laws.FnSubscriptRange", spec := "fnSubscriptRange", unfollowed := true, recurses := true, apart := false, narrowed := true }
def FnSubscriptRangeUptoSaid : Prop := fnSubscriptRangeUptoRow.holds Try.pinned (OpenSpec.upto fnSubscriptRangeSpec)

/-- 'laws.FnNestPoints', WHERE WHAT IT READS IS OF BULK AT MOST 1048576: true; the input reads as it did. -/
def fnNestPointsUptoRow : OpenClaim := { program := "ytgcpdpbapgkdjaa", sum := "3fb829eb1ada21553c634fe24eaa4117a17841038ab42b43651daf8376b2054c", func := "loop.example/loopnests/laws.FnNestPoints", spec := "fnNestPoints", unfollowed := true, recurses := true, apart := false, narrowed := true }
def FnNestPointsUptoSaid : Prop := fnNestPointsUptoRow.holds Try.pinned (OpenSpec.upto fnNestPointsSpec)

end Rows
end Go.Proofs.Ytgcpdpbapgkdjaa
