import Derived.Test.YtcknfhhbijlobaaGreatDoorCo12
namespace Go.Proofs.YtcknfhhbijlobaaGreatDoor.D
open Go
set_option maxRecDepth 100000
theorem br7 : ∀ b, b < 10 → ∀ c, c < 10 → branchB 7 b c = true := by decide +kernel
theorem br8 : ∀ b, b < 10 → ∀ c, c < 10 → branchB 8 b c = true := by decide +kernel
theorem br9 : ∀ b, b < 10 → ∀ c, c < 10 → branchB 9 b c = true := by decide +kernel
end Go.Proofs.YtcknfhhbijlobaaGreatDoor.D
