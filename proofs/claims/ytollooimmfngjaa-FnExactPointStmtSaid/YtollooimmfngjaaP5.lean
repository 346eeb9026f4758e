/- Part 5 of 5 of the proof: laws on memory and data, then what the functions compute, in the order in which they build on each other; conditions: those that each theorem names. -/
import Derived.Test.YtollooimmfngjaaP4
set_option maxRecDepth 100000
set_option maxHeartbeats 1600000

namespace Go.Proofs.Ytollooimmfngjaa
set_option linter.unusedVariables false
set_option linter.unusedSimpArgs false
open Go.ChangeShapes Go.WideShapes Go.ChangeAt Go.RowKit
section
variable {H : Type} {enc : TypeId × Value → H} {w : World} {spare : Nat → Bool} {held : Bool}
theorem opInts (n : Nat) : OpF enc Try.prog w spare held n 25 (fun l : List Int => [dIs l]) (fun l => l.length ≤ 17592186044416) :=
  OpF.mono (f := fun l : List Int => [dIs l]) (n := n + 1) (opSlice (enc := enc) (w := w) (spare := spare) (held := held) (n := n) (t := 25) 1 8 Try.underlying25 (by kernel_rfl) (by kernel_rfl) (by rfl) (opInt Try.underlying3)) (by omega) fun a h => h.1
end
end Go.Proofs.Ytollooimmfngjaa
