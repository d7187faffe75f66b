import Derived.Test.YtcknfhhbijlobaaGreatDoorCo12
namespace Go.Proofs.YtcknfhhbijlobaaGreatDoor.D
open Go
set_option maxRecDepth 100000
theorem br0 : ∀ b, b < 10 → ∀ c, c < 10 → branchB 0 b c = true := by decide +kernel
theorem br1 : ∀ b, b < 10 → ∀ c, c < 10 → branchB 1 b c = true := by decide +kernel
theorem br2 : ∀ b, b < 10 → ∀ c, c < 10 → branchB 2 b c = true := by decide +kernel
theorem br3 : ∀ b, b < 10 → ∀ c, c < 10 → branchB 3 b c = true := by decide +kernel
end Go.Proofs.YtcknfhhbijlobaaGreatDoor.D
