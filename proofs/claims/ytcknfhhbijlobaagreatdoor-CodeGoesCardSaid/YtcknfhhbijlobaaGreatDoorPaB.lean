import Derived.Test.YtcknfhhbijlobaaGreatDoorMG
namespace Go.Proofs.YtcknfhhbijlobaaGreatDoor.D
open Go
set_option linter.unusedVariables false
set_option linter.unusedSimpArgs false
set_option maxRecDepth 100000
end Go.Proofs.YtcknfhhbijlobaaGreatDoor.D
