/- The walks of the reference's writer. -/
import Derived.Test.YtcinmgifadmbeaaWrite2
namespace Go.Proofs.Ytcinmgifadmbeaa
open Go.RowKit
set_option linter.unusedVariables false

end Go.Proofs.Ytcinmgifadmbeaa
