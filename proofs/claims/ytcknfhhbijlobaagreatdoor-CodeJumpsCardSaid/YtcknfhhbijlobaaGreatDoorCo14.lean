import Derived.Test.YtcknfhhbijlobaaGreatDoorCo12
namespace Go.Proofs.YtcknfhhbijlobaaGreatDoor.D
open Go
set_option linter.unusedVariables false
set_option linter.unusedSimpArgs false
set_option maxRecDepth 100000
def labsJ : Nat → List UInt8
 | 0 => []
 | i + 1 => labsJ i ++ [108, 97, 98, 101, 108, 32, 120] ++ [UInt8.ofNat (97 + i)] ++ [59]
theorem labsJ_len : ∀ i, (labsJ i).length = 9 * i
 | 0 => rfl
 | i + 1 => by rw [labsJ, List.length_append, List.length_append, List.length_append, labsJ_len i]; simp; omega
def srcJ (n m k : Nat) : List UInt8 := [109, 111, 100, 101, 32, 112, 111, 112, 51, 59, 111, 110, 32, 108, 59] ++ stopsL n ++ labsJ k ++ [108, 97, 98, 101, 108, 32, 108, 59] ++ stopsL m ++ [103, 111, 116, 111, 32, 108, 59]
def jumpB (n m k : Nat) : Bool := decide ((checkS (srcJ n m k)).e = 0) && decide ((opsR (checkS (srcJ n m k))).length = n + m + 3) && isOp (opsR (checkS (srcJ n m k))) 0 15 (1 + n) && isOp (opsR (checkS (srcJ n m k))) (1 + n + m) 18 (1 + n)
theorem ju0 : ∀ m, m < 10 → ∀ k, k < 6 → jumpB 0 m k = true := by decide +kernel
theorem ju1 : ∀ m, m < 10 → ∀ k, k < 6 → jumpB 1 m k = true := by decide +kernel
theorem ju2 : ∀ m, m < 10 → ∀ k, k < 6 → jumpB 2 m k = true := by decide +kernel
theorem ju3 : ∀ m, m < 10 → ∀ k, k < 6 → jumpB 3 m k = true := by decide +kernel
theorem ju4 : ∀ m, m < 10 → ∀ k, k < 6 → jumpB 4 m k = true := by decide +kernel
theorem ju5 : ∀ m, m < 10 → ∀ k, k < 6 → jumpB 5 m k = true := by decide +kernel
theorem ju6 : ∀ m, m < 10 → ∀ k, k < 6 → jumpB 6 m k = true := by decide +kernel
theorem ju7 : ∀ m, m < 10 → ∀ k, k < 6 → jumpB 7 m k = true := by decide +kernel
theorem ju8 : ∀ m, m < 10 → ∀ k, k < 6 → jumpB 8 m k = true := by decide +kernel
theorem ju9 : ∀ m, m < 10 → ∀ k, k < 6 → jumpB 9 m k = true := by decide +kernel
theorem jump_all {n m k : Nat} (hn : n < 10) (hm : m < 10) (hk : k < 6) : jumpB n m k = true := by
 have : n = 0 ∨ n = 1 ∨ n = 2 ∨ n = 3 ∨ n = 4 ∨ n = 5 ∨ n = 6 ∨ n = 7 ∨ n = 8 ∨ n = 9 := by omega
 rcases this with rfl | rfl | rfl | rfl | rfl | rfl | rfl | rfl | rfl | rfl
 ·exact ju0 m hm k hk
 ·exact ju1 m hm k hk
 ·exact ju2 m hm k hk
 ·exact ju3 m hm k hk
 ·exact ju4 m hm k hk
 ·exact ju5 m hm k hk
 ·exact ju6 m hm k hk
 ·exact ju7 m hm k hk
 ·exact ju8 m hm k hk
 ·exact ju9 m hm k hk
end Go.Proofs.YtcknfhhbijlobaaGreatDoor.D
