/- Substitution in the reference; condition: what the arguments hold. -/
import Derived.Test.YtkhlaphegnldeaaDoorAffDm
import Derived.Test.YtkhlaphegnldeaaDoorAffQ
namespace Go.Proofs.YtkhlaphegnldeaaDoor
set_option linter.unusedVariables false
set_option linter.unusedSimpArgs false
open Go.RowKit

end Go.Proofs.YtkhlaphegnldeaaDoor
