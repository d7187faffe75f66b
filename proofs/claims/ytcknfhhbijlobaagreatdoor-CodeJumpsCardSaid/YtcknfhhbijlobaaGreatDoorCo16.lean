import Derived.Test.YtcknfhhbijlobaaGreatDoorCo14
namespace Go.Proofs.YtcknfhhbijlobaaGreatDoor.D
open Go
set_option linter.unusedVariables false
set_option linter.unusedSimpArgs false
set_option maxRecDepth 100000
theorem codeJumps_ok {x y z : UInt8} {H : DH} : WC cfg 13 [byteDV x, byteDV y, byteDV z] H fun v H' => v = .bool true := by
 refine WC_of (show Has cfg 13 107 [.tmp 6] _ from ⟨by kernel_rfl, Tryz.f13, Tryz.func13, rfl, rfl, rfl, by kernel_rfl⟩) (by simp) ?_
 have hx := x.toNat_lt
 have hy := y.toNat_lt
 have hz := z.toNat_lt
 simp -dsimp (disch := first | omega | (apply DrawYes.mk; decide +kernel)) only [go_sem]
 refine call coshown_ok ?_
 rintro _ H1 ⟨rfl, hE⟩
 have ma : (x.toNat : Int).tmod 10 = ((x.toNat % 10 : Nat) : Int) := by rw [Int.tmod_eq_emod_of_nonneg (by omega)]; omega
 have mb : (y.toNat : Int).tmod 10 = ((y.toNat % 10 : Nat) : Int) := by rw [Int.tmod_eq_emod_of_nonneg (by omega)]; omega
 have mc : (z.toNat : Int).tmod 6 = ((z.toNat % 6 : Nat) : Int) := by rw [Int.tmod_eq_emod_of_nonneg (by omega)]; omega
 have la : x.toNat % 10 < 10 := Nat.mod_lt _ (by decide)
 have lb : y.toNat % 10 < 10 := Nat.mod_lt _ (by decide)
 have lc : z.toNat % 6 < 6 := Nat.mod_lt _ (by decide)
 simp -dsimp (disch := first | omega | (apply DrawYes.mk; decide +kernel)) only [go_sem, ma, mb]
 generalize x.toNat % 10 = n at *
 generalize y.toNat % 10 = m at *
 generalize z.toNat % 6 = k at *
 have sln := stops_len n
 have slm := stops_len m
 refine call (many_ok (n := n) (by omega)) ?_
 rintro _ _ ⟨rfl, rfl⟩
 simp -dsimp (disch := first | omega | (apply DrawYes.mk; decide +kernel)) only [go_sem, List.length_append, sln]
 refine ⟨by omega, ?_⟩
 refine Y_loop (α := Nat) (fun i σ H' => i ≤ k ∧ σ 2 = byteDV z ∧ σ 7 = .bool true ∧ σ 8 = .int .i64 n ∧ σ 9 = .int .i64 m ∧ σ 10 = .str ([109, 111, 100, 101, 32, 112, 111, 112, 51, 59, 111, 110, 32, 108, 59] ++ stopsL n ++ labsJ i) ∧ σ 11 = .int .i64 i) (fun i => k - i) 0 ?_ ?_
 ·simp -dsimp (disch := first | omega | (apply DrawYes.mk; decide +kernel)) only [go_sem]
  exact ⟨Nat.zero_le _, by simp [labsJ]⟩
 rintro i σ H2 ⟨hi, s2, s7, s8, s9, s10, s11⟩
 have sli := labsJ_len i
 by_cases hlt : i < k
 ·have i0 : (i : Int) < k := by omega
  have hgv : ([.str [97], .str [98], .str [99], .str [100], .str [101]] : List DV)[i]? = some (.str [UInt8.ofNat (97 + i)]) := by
   have : i = 0 ∨ i = 1 ∨ i = 2 ∨ i = 3 ∨ i = 4 := by omega
   rcases this with rfl | rfl | rfl | rfl | rfl <;> rfl
  simp -dsimp (disch := first | omega | (apply DrawYes.mk; decide +kernel)) only [go_sem, s2, s7, s8, s9, s10, s11, mc, i0, hgv, List.length_append, sln, sli]
  exact ⟨by omega, by omega, by omega, by omega, i + 1, ⟨by omega, by simp [labsJ], by congr 1⟩, by omega⟩
 ·have hkk : i = k := by omega
  have i0 : ¬ (i : Int) < k := by omega
  subst hkk
  simp -dsimp (disch := first | omega | (apply DrawYes.mk; decide +kernel)) only [go_sem, s2, s7, s8, s9, s10, s11, mc, i0, List.length_append, sln, sli]
  refine ⟨by omega, ?_⟩
  refine call (many_ok (n := m) (by omega)) ?_
  rintro _ _ ⟨rfl, rfl⟩
  simp -dsimp (disch := first | omega | (apply DrawYes.mk; decide +kernel)) only [go_sem, List.length_append, sln, sli, slm]
  refine ⟨by omega, by omega, ?_⟩
  have hsrc : (109 :: 111 :: 100 :: 101 :: 32 :: 112 :: 111 :: 112 :: 51 :: 59 :: 111 :: 110 :: 32 :: 108 :: 59 :: (stopsL n ++ labsJ i ++ [108, 97, 98, 101, 108, 32, 108, 59] ++ stopsL m ++ [103, 111, 116, 111, 32, 108, 59]) : List UInt8) = srcJ n m i := by simp [srcJ]
  rw [hsrc]
  have hB := jump_all la lb lc
  unfold jumpB at hB
  simp only [Bool.and_eq_true, decide_eq_true_eq] at hB
  obtain ⟨⟨⟨h1, h2⟩, h3⟩, h4⟩ := hB
  obtain ⟨o1, g1, k1, t1⟩ := isOp_get h3
  obtain ⟨o2, g2, k2, t2⟩ := isOp_get h4
  refine call (csrc_ok (s := srcJ n m i) (by simp [srcJ, sln, slm, sli]; omega)) ?_
  rintro _ H3 ⟨hE2, ov, rfl, hov⟩
  have hlo := fun H' => hov.len (H := H') und_51
  simp only [List.length_map] at hlo
  rw [h2] at hlo
  rw [h1]
  generalize opsR (checkS (srcJ n m i)) = ops at *
  rcases hov with ⟨_, h0⟩ | ⟨id, off, rfl⟩
  ·rw [List.map_eq_nil_iff] at h0; rw [h0] at h2; simp at h2
  have hgv : (ops.map oprV)[0]? = some (.agg [.int .i64 o1.kind, .str o1.s, .str o1.t, .str o1.u, .int .i64 o1.n, .int .i64 o1.to]) := by rw [List.getElem?_map, g1]; rfl
  have b1 : ((o1.kind : Int) == 15) = true := by rw [k1]; rfl
  have b2 : (((n + m + 3 : Nat) : Int) == (n : Int) + m + 3) = true := by simp
  have b3 : ((o1.to : Int) == 1 + (n : Int)) = true := by rw [t1]; simp
  have e1 : ((1 : Int) + n + m).toNat = 1 + n + m := by omega
  have hgw : (ops.map oprV)[1 + n + m]? = some (.agg [.int .i64 o2.kind, .str o2.s, .str o2.t, .str o2.u, .int .i64 o2.n, .int .i64 o2.to]) := by rw [List.getElem?_map, g2]; rfl
  have b5 : ((o2.kind : Int) == 18) = true := by rw [k2]; rfl
  have b6 : ((o2.to : Int) == 1 + (n : Int)) = true := by rw [t2]; simp
  simp -dsimp (disch := first | omega | (apply DrawYes.mk; decide +kernel)) only [go_sem, s7, s8, s9, hlo, hgv, b1, b2, b3, e1, hgw, b5, b6]
  omega
end Go.Proofs.YtcknfhhbijlobaaGreatDoor.D
