/- The draws of a deed and of deeds that have texts. -/
import Derived.Test.YtedadhoneebfnaaGreatDoorXe
import Derived.Test.YtedadhoneebfnaaGreatDoorDy
set_option linter.unusedSimpArgs false
set_option linter.unusedVariables false
namespace Go.Proofs.YtedadhoneebfnaaGreatDoor
open Go.RowKit

end Go.Proofs.YtedadhoneebfnaaGreatDoor
