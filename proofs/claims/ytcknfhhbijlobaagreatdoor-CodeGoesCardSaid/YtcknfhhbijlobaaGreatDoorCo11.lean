import Derived.Test.YtcknfhhbijlobaaGreatDoorCoG
namespace Go.Proofs.YtcknfhhbijlobaaGreatDoor.D
open Go
set_option linter.unusedVariables false
set_option linter.unusedSimpArgs false
set_option maxRecDepth 100000
theorem codeGoes_ok {s : List UInt8} {H : DH} (hs : s.length ≤ 9223372036854775807) : WC cfg 10 [.str s] H fun v H' => v = .bool true := by
 refine WC_of (show Has cfg 10 148 [.tmp 2] _ from ⟨by kernel_rfl, Tryz.f10, Tryz.func10, rfl, rfl, rfl, by kernel_rfl⟩) (by simp) ?_
 simp -dsimp (disch := first | omega | (apply DrawYes.mk; decide +kernel)) only [go_sem]
 refine call coshown_ok ?_
 rintro _ H1 ⟨rfl, hE1⟩
 simp -dsimp (disch := first | omega | (apply DrawYes.mk; decide +kernel)) only [go_sem, coshort_eq]
 have hlen : (s.take 2100).length ≤ 2100 := by rw [List.length_take]; omega
 generalize s.take 2100 = u at *
 refine call (csrc_ok (s := u) (by omega)) ?_
 rintro _ H2 ⟨hE2, ov, rfl, hov⟩
 have hlo := fun H' => hov.len (H := H') und_51
 simp only [List.length_map] at hlo
 by_cases he : (checkS u).e ≠ 0
 ·have j0 : (((checkS u).e : Int) != 0) = true := by simp; omega
  rw [opsR_n he] at hlo
  rw [checkS_bad he]
  simp -dsimp (disch := first | omega | (apply DrawYes.mk; decide +kernel)) only [go_sem, j0, hlo]
 have he' : (checkS u).e = 0 := by simpa using he
 have j0 : (((checkS u).e : Int) != 0) = false := by simp; omega
 have hg := goodP_of he'
 rw [opsR_0 he'] at hov hlo
 have hgood := fun i o => @ops_good _ _ _ hg i o
 have hmo := hg.mo
 have hol : 0 < (opsP (checkS u).R (checkS u).top).length ∧ (opsP (checkS u).R (checkS u).top).length ≤ 201 := ⟨by simp [opsP], opsP_len hg⟩
 generalize opsP (checkS u).R (checkS u).top = ops at *
 generalize (checkS u).mode = md at *
 obtain ⟨ol1, ol2⟩ := hol
 rcases hov with ⟨_, h0⟩ | ⟨id, off, rfl⟩
 ·rw [List.map_eq_nil_iff] at h0; rw [h0] at ol1; simp at ol1
 simp -dsimp (disch := first | omega | (apply DrawYes.mk; decide +kernel)) only [go_sem, j0, hlo]
 refine Y_loop (α := Nat) (fun i σ H' => i ≤ ops.length ∧ σ 3 = .bool true ∧ σ 4 = .sl id 6 off (ops.map oprV) ∧ σ 5 = .int .i64 md ∧ σ 8 = .int .i64 i) (fun i => ops.length - i) 0 ?_ ?_
 ·simp -dsimp (disch := first | omega | (apply DrawYes.mk; decide +kernel)) only [go_sem]
  exact Nat.zero_le _
 rintro i σ H3 ⟨hi, s3, s4, s5, s8⟩
 by_cases hlt : i < ops.length
 ·have i0 : (i : Int) < ops.length := by omega
  have hgo : ops[i]? = some ops[i] := List.getElem?_eq_getElem hlt
  generalize ops[i] = o at hgo
  obtain ⟨g1, g2, ⟨g3, g4, g5, g6⟩, g7, g8, g9⟩ := hgood i o hgo
  have hgv : (ops.map oprV)[i]? = some (.agg [.int .i64 o.kind, .str o.s, .str o.t, .str o.u, .int .i64 o.n, .int .i64 o.to]) := by rw [List.getElem?_map, hgo]; rfl
  have b13 : ((o.kind : Int) == 13) = false := by simp; omega
  have b14 : ((o.kind : Int) == 14) = false := by simp; omega
  have j1 : ¬ (o.to : Int) < 0 := by omega
  have j2 : ¬ (ops.length : Int) ≤ o.to := by omega
  have jb : ∃ bl : Bool, ((o.kind : Int) == 19) = bl ∧ ((i : Int) == (ops.length : Int) - 1) = bl := by
   by_cases h : o.kind = 19
   ·refine ⟨true, by simp; omega, ?_⟩; have := g7.1 h; simp; omega
   ·refine ⟨false, by simp; omega, ?_⟩; have : ¬ i + 1 = ops.length := fun hh => h (g7.2 hh); simp; omega
  obtain ⟨bl, jb1, jb2⟩ := jb
  by_cases k18 : o.kind = 18
  ·skip
   have b18 : ((o.kind : Int) == 18) = true := by simp; omega
   have b15 : ((o.kind : Int) == 15) = false := by simp; omega
   have b5 : ((o.kind : Int) == 5) = false := by simp; omega
   have b6 : ((o.kind : Int) == 6) = false := by simp; omega
   simp -dsimp (disch := first | omega | (apply DrawYes.mk; decide +kernel)) only [go_sem, s3, s4, s5, s8, i0, hgv, hlo, b13, b14, j1, j2, jb1, jb2, b18, b15, b5, b6]
   refine ⟨by omega, ?_⟩
   refine Y_loop (α := Nat) (fun k σ' H' => σ' 3 = .bool true ∧ σ' 4 = .sl id 6 off (ops.map oprV) ∧ σ' 5 = .int .i64 md ∧ σ' 8 = .int .i64 i ∧ σ' 9 = .ptr H3.next 0 ∧ H'.m H3.next = some (.cells 57 [.int .i64 o.kind, .str o.s, .str o.t, .str o.u, .int .i64 o.n, .int .i64 o.to])) (fun _ => 0) 0 ?_ ?_
   ·simp -dsimp (disch := first | omega | (apply DrawYes.mk; decide +kernel)) only [go_sem, s3, s4, s5, s8]
   ·rintro k σ' H4 ⟨z3, z4, z5, z8, z9, zm⟩
    simp -dsimp (disch := first | omega | (apply DrawYes.mk; decide +kernel)) only [go_sem, z3, z4, z5, z8, z9, zm, b6]
    exact ⟨i + 1, ⟨by omega, by congr 1⟩, by omega⟩
  by_cases k15 : o.kind = 15
  ·skip
   have b18 : ((o.kind : Int) == 18) = false := by simp; omega
   have b15 : ((o.kind : Int) == 15) = true := by simp; omega
   have b5 : ((o.kind : Int) == 5) = false := by simp; omega
   have b6 : ((o.kind : Int) == 6) = false := by simp; omega
   simp -dsimp (disch := first | omega | (apply DrawYes.mk; decide +kernel)) only [go_sem, s3, s4, s5, s8, i0, hgv, hlo, b13, b14, j1, j2, jb1, jb2, b18, b15, b5, b6]
   refine ⟨by omega, ?_⟩
   refine Y_loop (α := Nat) (fun k σ' H' => σ' 3 = .bool true ∧ σ' 4 = .sl id 6 off (ops.map oprV) ∧ σ' 5 = .int .i64 md ∧ σ' 8 = .int .i64 i ∧ σ' 9 = .ptr H3.next 0 ∧ H'.m H3.next = some (.cells 57 [.int .i64 o.kind, .str o.s, .str o.t, .str o.u, .int .i64 o.n, .int .i64 o.to])) (fun _ => 0) 0 ?_ ?_
   ·simp -dsimp (disch := first | omega | (apply DrawYes.mk; decide +kernel)) only [go_sem, s3, s4, s5, s8]
   ·rintro k σ' H4 ⟨z3, z4, z5, z8, z9, zm⟩
    simp -dsimp (disch := first | omega | (apply DrawYes.mk; decide +kernel)) only [go_sem, z3, z4, z5, z8, z9, zm, b6]
    exact ⟨i + 1, ⟨by omega, by congr 1⟩, by omega⟩
  by_cases k5 : o.kind = 5
  ·skip
   have b18 : ((o.kind : Int) == 18) = false := by simp; omega
   have b15 : ((o.kind : Int) == 15) = false := by simp; omega
   have b5 : ((o.kind : Int) == 5) = true := by simp; omega
   have b6 : ((o.kind : Int) == 6) = false := by simp; omega
   have j3 := g8 (by omega)
   have j4 : ¬ (o.to : Int) ≤ i := by omega
   simp -dsimp (disch := first | omega | (apply DrawYes.mk; decide +kernel)) only [go_sem, s3, s4, s5, s8, i0, hgv, hlo, b13, b14, j1, j2, jb1, jb2, b18, b15, b5, b6, j4]
   refine ⟨by omega, ?_⟩
   refine Y_loop (α := Nat) (fun k σ' H' => σ' 3 = .bool true ∧ σ' 4 = .sl id 6 off (ops.map oprV) ∧ σ' 5 = .int .i64 md ∧ σ' 8 = .int .i64 i ∧ σ' 9 = .ptr H3.next 0 ∧ H'.m H3.next = some (.cells 57 [.int .i64 o.kind, .str o.s, .str o.t, .str o.u, .int .i64 o.n, .int .i64 o.to])) (fun _ => 0) 0 ?_ ?_
   ·simp -dsimp (disch := first | omega | (apply DrawYes.mk; decide +kernel)) only [go_sem, s3, s4, s5, s8]
   ·rintro k σ' H4 ⟨z3, z4, z5, z8, z9, zm⟩
    simp -dsimp (disch := first | omega | (apply DrawYes.mk; decide +kernel)) only [go_sem, z3, z4, z5, z8, z9, zm, b6]
    exact ⟨i + 1, ⟨by omega, by congr 1⟩, by omega⟩
  by_cases k6 : o.kind = 6
  ·skip
   have b18 : ((o.kind : Int) == 18) = false := by simp; omega
   have b15 : ((o.kind : Int) == 15) = false := by simp; omega
   have b5 : ((o.kind : Int) == 5) = false := by simp; omega
   have b6 : ((o.kind : Int) == 6) = true := by simp; omega
   have j3 := g8 (by omega)
   have j4 : ¬ (o.to : Int) ≤ i := by omega
   simp -dsimp (disch := first | omega | (apply DrawYes.mk; decide +kernel)) only [go_sem, s3, s4, s5, s8, i0, hgv, hlo, b13, b14, j1, j2, jb1, jb2, b18, b15, b5, b6, j4]
   refine ⟨by omega, ?_⟩
   refine Y_loop (α := Nat) (fun k σ' H' => i < k ∧ k ≤ o.to ∧ σ' 3 = .bool true ∧ σ' 4 = .sl id 6 off (ops.map oprV) ∧ σ' 5 = .int .i64 md ∧ σ' 8 = .int .i64 i ∧ σ' 9 = .ptr H3.next 0 ∧ σ' 11 = .int .i64 k ∧ H'.m H3.next = some (.cells 57 [.int .i64 o.kind, .str o.s, .str o.t, .str o.u, .int .i64 o.n, .int .i64 o.to])) (fun k => o.to - k) (i + 1) ?_ ?_
   ·simp -dsimp (disch := first | omega | (apply DrawYes.mk; decide +kernel)) only [go_sem, s3, s4, s5, s8]
    exact ⟨by omega, by omega, by congr 1⟩
   ·rintro k σ' H4 ⟨z1, z2, z3, z4, z5, z8, z9, z11, zm⟩
    by_cases hkt : k < o.to
    ·have i1 : (k : Int) < o.to := by omega
     have hkl : k < ops.length := by omega
     have hgk : ops[k]? = some ops[k] := List.getElem?_eq_getElem hkl
     have h3 := g9 k6 k _ z1 hkt hgk
     generalize ops[k] = o' at hgk h3
     have hgw : (ops.map oprV)[k]? = some (.agg [.int .i64 o'.kind, .str o'.s, .str o'.t, .str o'.u, .int .i64 o'.n, .int .i64 o'.to]) := by rw [List.getElem?_map, hgk]; rfl
     have c3 : ((o'.kind : Int) != 3) = false := by simp; omega
     simp -dsimp (disch := first | omega | (apply DrawYes.mk; decide +kernel)) only [go_sem, z3, z4, z5, z8, z9, z11, zm, b6, i1, hgw, c3]
     exact ⟨by omega, k + 1, ⟨by omega, by omega, by congr 1⟩, by omega⟩
    ·have i1 : ¬ (k : Int) < o.to := by omega
     simp -dsimp (disch := first | omega | (apply DrawYes.mk; decide +kernel)) only [go_sem, z3, z4, z5, z8, z9, z11, zm, b6, i1]
     exact ⟨i + 1, ⟨by omega, by congr 1⟩, by omega⟩
  ·skip
   have b18 : ((o.kind : Int) == 18) = false := by simp; omega
   have b15 : ((o.kind : Int) == 15) = false := by simp; omega
   have b5 : ((o.kind : Int) == 5) = false := by simp; omega
   have b6 : ((o.kind : Int) == 6) = false := by simp; omega
   have j5 : ((o.to : Int) != 0) = false := by have := g2 (by omega) (by omega) (by omega) (by omega); simp; omega
   simp -dsimp (disch := first | omega | (apply DrawYes.mk; decide +kernel)) only [go_sem, s3, s4, s5, s8, i0, hgv, hlo, b13, b14, j1, j2, jb1, jb2, b18, b15, b5, b6, j5]
   refine ⟨by omega, ?_⟩
   refine Y_loop (α := Nat) (fun k σ' H' => σ' 3 = .bool true ∧ σ' 4 = .sl id 6 off (ops.map oprV) ∧ σ' 5 = .int .i64 md ∧ σ' 8 = .int .i64 i ∧ σ' 9 = .ptr H3.next 0 ∧ H'.m H3.next = some (.cells 57 [.int .i64 o.kind, .str o.s, .str o.t, .str o.u, .int .i64 o.n, .int .i64 o.to])) (fun _ => 0) 0 ?_ ?_
   ·simp -dsimp (disch := first | omega | (apply DrawYes.mk; decide +kernel)) only [go_sem, s3, s4, s5, s8]
   ·rintro k σ' H4 ⟨z3, z4, z5, z8, z9, zm⟩
    simp -dsimp (disch := first | omega | (apply DrawYes.mk; decide +kernel)) only [go_sem, z3, z4, z5, z8, z9, zm, b6]
    exact ⟨i + 1, ⟨by omega, by congr 1⟩, by omega⟩
 ·have hkk : i = ops.length := by omega
  have i0 : ¬ (i : Int) < ops.length := by omega
  subst hkk
  have m1 : (1 : Int) ≤ md := by omega
  have m2 : (md : Int) ≤ 3 := by omega
  have m3 : (0 : Int) < ops.length := by omega
  simp -dsimp (disch := first | omega | (apply DrawYes.mk; decide +kernel)) only [go_sem, s3, s4, s5, s8, i0, hlo, m1, m2, m3]
end Go.Proofs.YtcknfhhbijlobaaGreatDoor.D
