import Derived.Test.YtcknfhhbijlobaaGreatDoorCoS
namespace Go.Proofs.YtcknfhhbijlobaaGreatDoor.D
open Go
set_option linter.unusedVariables false
set_option linter.unusedSimpArgs false
set_option maxRecDepth 100000
def stopsL : Nat → List UInt8
 | 0 => []
 | n + 1 => stopsL n ++ [115, 116, 111, 112, 59]
theorem stops_len : ∀ n, (stopsL n).length = 5 * n
 | 0 => rfl
 | n + 1 => by rw [stopsL, List.length_append, stops_len n]; simp; omega
theorem many_ok {n : Nat} {H : DH} (hn : n < 100) : WC cfg 39 [.int .i64 n] H fun v H' => v = .str (stopsL n) ∧ H' = H := by
 refine WC_of (show Has cfg 39 13 [.tmp 2] _ from ⟨by kernel_rfl, Tryz.f39, Tryz.func39, rfl, rfl, rfl, by kernel_rfl⟩) (by simp) ?_
 simp -dsimp (disch := first | omega | (apply DrawYes.mk; decide +kernel)) only [go_sem]
 refine Y_loop (α := Nat) (fun k σ H' => k ≤ n ∧ H' = H ∧ σ 0 = .int .i64 n ∧ σ 3 = .str (stopsL k) ∧ σ 4 = .int .i64 k) (fun k => n - k) 0 ?_ ?_
 ·simp -dsimp (disch := first | omega | (apply DrawYes.mk; decide +kernel)) only [go_sem]
  exact ⟨Nat.zero_le _, rfl⟩
 rintro k σ H2 ⟨hk, rfl, s0, s3, s4⟩
 by_cases hlt : k < n
 ·have i0 : (k : Int) < n := by omega
  have hl := stops_len k
  simp -dsimp (disch := first | omega | (apply DrawYes.mk; decide +kernel)) only [go_sem, s0, s3, s4, i0]
  exact ⟨by omega, k + 1, ⟨by omega, rfl, by congr 1⟩, by omega⟩
 ·have hkk : k = n := by omega
  have i0 : ¬ (k : Int) < n := by omega
  subst hkk
  simp -dsimp (disch := first | omega | (apply DrawYes.mk; decide +kernel)) only [go_sem, s0, s3, s4, i0]
def srcB (a b c : Nat) : List UInt8 := [109, 111, 100, 101, 32, 115, 109, 116, 112, 59] ++ stopsL a ++ [105, 102, 32, 99, 97, 112, 32, 34, 120, 34, 32, 123] ++ stopsL b ++ [125, 32, 101, 108, 115, 101, 32, 123] ++ stopsL c ++ [125]
def jmpB (c : Nat) : Nat := if c = 0 then 0 else 1
def isOp (l : List Opr) (i k to : Nat) : Bool := match l[i]? with
 | some o => decide (o.kind = k) && decide (o.to = to)
 | none => false
def branchB (a b c : Nat) : Bool := decide ((checkS (srcB a b c)).e = 0) && decide ((opsR (checkS (srcB a b c))).length = a + 1 + b + jmpB c + c + 1) && isOp (opsR (checkS (srcB a b c))) a 5 (a + 1 + b + jmpB c) && (decide (c = 0) || isOp (opsR (checkS (srcB a b c))) (a + 1 + b) 18 (a + 2 + b + c))
theorem isOp_get {l : List Opr} {i k to : Nat} (h : isOp l i k to = true) : ∃ o, l[i]? = some o ∧ o.kind = k ∧ o.to = to := by
 unfold isOp at h
 cases hg : l[i]? with
 | none => simp [hg] at h
 | some o => simp [hg] at h; exact ⟨o, rfl, h.1, h.2⟩
end Go.Proofs.YtcknfhhbijlobaaGreatDoor.D
