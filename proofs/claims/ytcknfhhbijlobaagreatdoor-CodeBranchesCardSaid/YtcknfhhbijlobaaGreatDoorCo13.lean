import Derived.Test.YtcknfhhbijlobaaGreatDoorCoB1
import Derived.Test.YtcknfhhbijlobaaGreatDoorCoB2
import Derived.Test.YtcknfhhbijlobaaGreatDoorCoB3
namespace Go.Proofs.YtcknfhhbijlobaaGreatDoor.D
open Go
set_option linter.unusedVariables false
set_option linter.unusedSimpArgs false
set_option maxRecDepth 100000
theorem branch_all {a b c : Nat} (ha : a < 10) (hb : b < 10) (hc : c < 10) : branchB a b c = true := by
 have : a = 0 ∨ a = 1 ∨ a = 2 ∨ a = 3 ∨ a = 4 ∨ a = 5 ∨ a = 6 ∨ a = 7 ∨ a = 8 ∨ a = 9 := by omega
 rcases this with rfl | rfl | rfl | rfl | rfl | rfl | rfl | rfl | rfl | rfl
 ·exact br0 b hb c hc
 ·exact br1 b hb c hc
 ·exact br2 b hb c hc
 ·exact br3 b hb c hc
 ·exact br4 b hb c hc
 ·exact br5 b hb c hc
 ·exact br6 b hb c hc
 ·exact br7 b hb c hc
 ·exact br8 b hb c hc
 ·exact br9 b hb c hc
theorem codeBranches_ok {x y z : UInt8} {H : DH} : WC cfg 12 [.agg [byteDV x, byteDV y, byteDV z]] H fun v H' => v = .bool true := by
 refine WC_of (show Has cfg 12 116 [.tmp 2] _ from ⟨by kernel_rfl, Tryz.f12, Tryz.func12, rfl, rfl, rfl, by kernel_rfl⟩) (by simp) ?_
 have hx := x.toNat_lt
 have hy := y.toNat_lt
 have hz := z.toNat_lt
 simp -dsimp (disch := first | omega | (apply DrawYes.mk; decide +kernel)) only [go_sem]
 refine call coshown_ok ?_
 rintro _ H1 ⟨rfl, hE⟩
 have q1 := hE.get (b := H.next) (Nat.lt_succ_self _) (new_at rfl)
 have ma : (x.toNat : Int).tmod 10 = ((x.toNat % 10 : Nat) : Int) := by rw [Int.tmod_eq_emod_of_nonneg (by omega)]; omega
 have mb : (y.toNat : Int).tmod 10 = ((y.toNat % 10 : Nat) : Int) := by rw [Int.tmod_eq_emod_of_nonneg (by omega)]; omega
 have mc : (z.toNat : Int).tmod 10 = ((z.toNat % 10 : Nat) : Int) := by rw [Int.tmod_eq_emod_of_nonneg (by omega)]; omega
 have la : x.toNat % 10 < 10 := Nat.mod_lt _ (by decide)
 have lb : y.toNat % 10 < 10 := Nat.mod_lt _ (by decide)
 have lc : z.toNat % 10 < 10 := Nat.mod_lt _ (by decide)
 have ia := fun {b off : Nat} {k : IntKind} {i : Int} {K : DV → Prop} {q : Later K} => @ia_arr cfg.T 59 5 3 1 und_59 size_5 b off k i K q
 simp -dsimp (disch := first | omega | (apply DrawYes.mk; decide +kernel)) only [go_sem, q1, ma, mb, mc, ia]
 generalize x.toNat % 10 = a at *
 generalize y.toNat % 10 = b at *
 generalize z.toNat % 10 = c at *
 have sla := stops_len a
 have slb := stops_len b
 have slc := stops_len c
 refine call (many_ok (n := a) (by omega)) ?_
 rintro _ _ ⟨rfl, rfl⟩
 simp -dsimp (disch := first | omega | (apply DrawYes.mk; decide +kernel)) only [go_sem, List.length_append, sla]
 refine ⟨by omega, by omega, ?_⟩
 refine call (many_ok (n := b) (by omega)) ?_
 rintro _ _ ⟨rfl, rfl⟩
 simp -dsimp (disch := first | omega | (apply DrawYes.mk; decide +kernel)) only [go_sem, List.length_append, sla, slb]
 refine ⟨by omega, by omega, ?_⟩
 refine call (many_ok (n := c) (by omega)) ?_
 rintro _ _ ⟨rfl, rfl⟩
 simp -dsimp (disch := first | omega | (apply DrawYes.mk; decide +kernel)) only [go_sem, List.length_append, sla, slb, slc]
 refine ⟨by omega, by omega, ?_⟩
 have hsrc : (109 :: 111 :: 100 :: 101 :: 32 :: 115 :: 109 :: 116 :: 112 :: 59 :: (stopsL a ++ [105, 102, 32, 99, 97, 112, 32, 34, 120, 34, 32, 123] ++ stopsL b ++ [125, 32, 101, 108, 115, 101, 32, 123] ++ stopsL c ++ [125]) : List UInt8) = srcB a b c := by simp [srcB]
 rw [hsrc]
 have hB := branch_all la lb lc
 unfold branchB at hB
 simp only [Bool.and_eq_true, Bool.or_eq_true, decide_eq_true_eq] at hB
 obtain ⟨⟨⟨h1, h2⟩, h3⟩, h4⟩ := hB
 obtain ⟨o1, g1, k1, t1⟩ := isOp_get h3
 refine call (csrc_ok (s := srcB a b c) (by simp [srcB, sla, slb, slc]; omega)) ?_
 rintro _ H2 ⟨hE2, ov, rfl, hov⟩
 have hlo := fun H' => hov.len (H := H') und_51
 simp only [List.length_map] at hlo
 rw [h2] at hlo
 rw [h1]
 generalize opsR (checkS (srcB a b c)) = ops at *
 rcases hov with ⟨_, h0⟩ | ⟨id, off, rfl⟩
 ·rw [List.map_eq_nil_iff] at h0; rw [h0] at h2; simp at h2
 have hgv : (ops.map oprV)[a]? = some (.agg [.int .i64 o1.kind, .str o1.s, .str o1.t, .str o1.u, .int .i64 o1.n, .int .i64 o1.to]) := by rw [List.getElem?_map, g1]; rfl
 have b1 : ((o1.kind : Int) != 5) = false := by rw [k1]; rfl
 by_cases hc0 : c = 0
 ·have i0 : ¬ (0 : Int) < c := by omega
  have b2 : (((a + 1 + b + jmpB c + c + 1 : Nat) : Int) != (a : Int) + 1 + b + 0 + c + 1) = false := by simp [jmpB, hc0]
  have b3 : ((o1.to : Int) != (a : Int) + 1 + b + 0) = false := by rw [t1]; simp [jmpB, hc0]
  have b4 : ((c : Int) == 0) = true := by simp [hc0]
  simp -dsimp (disch := first | omega | (apply DrawYes.mk; decide +kernel)) only [go_sem, hlo, i0, hgv, b1, b2, b3, b4]
  omega
 ·obtain ⟨o2, g2, k2, t2⟩ := isOp_get (h4.resolve_left hc0)
  have i0 : (0 : Int) < c := by omega
  have b2 : (((a + 1 + b + jmpB c + c + 1 : Nat) : Int) != (a : Int) + 1 + b + 1 + c + 1) = false := by simp [jmpB, hc0]
  have b3 : ((o1.to : Int) != (a : Int) + 1 + b + 1) = false := by rw [t1]; simp [jmpB, hc0]
  have b4 : ((c : Int) == 0) = false := by simp [hc0]
  have e1 : ((a : Int) + 1 + b).toNat = a + 1 + b := by omega
  have hgw : (ops.map oprV)[a + 1 + b]? = some (.agg [.int .i64 o2.kind, .str o2.s, .str o2.t, .str o2.u, .int .i64 o2.n, .int .i64 o2.to]) := by rw [List.getElem?_map, g2]; rfl
  have b5 : ((o2.kind : Int) == 18) = true := by rw [k2]; rfl
  have b6 : ((o2.to : Int) == (a : Int) + 2 + b + c) = true := by rw [t2]; simp
  simp -dsimp (disch := first | omega | (apply DrawYes.mk; decide +kernel)) only [go_sem, hlo, i0, hgv, b1, b2, b3, b4, e1, hgw, b5, b6]
  omega
end Go.Proofs.YtcknfhhbijlobaaGreatDoor.D
