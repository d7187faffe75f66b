import Derived.Test.YtcknfhhbijlobaaGreatDoorCo12
namespace Go.Proofs.YtcknfhhbijlobaaGreatDoor.D
open Go
set_option maxRecDepth 100000
theorem br4 : ∀ b, b < 10 → ∀ c, c < 10 → branchB 4 b c = true := by decide +kernel
theorem br5 : ∀ b, b < 10 → ∀ c, c < 10 → branchB 5 b c = true := by decide +kernel
theorem br6 : ∀ b, b < 10 → ∀ c, c < 10 → branchB 6 b c = true := by decide +kernel
end Go.Proofs.YtcknfhhbijlobaaGreatDoor.D
