import Derived.Test.YtcknfhhbijlobaaGreatDoorCh20
namespace Go.Proofs.YtcknfhhbijlobaaGreatDoor.D
open Go
set_option linter.unusedVariables false
set_option linter.unusedSimpArgs false
set_option maxRecDepth 100000
theorem rprog17_ok {md : Nat} {R : List Stm} {top : List Nat} {stmv topv : DV} {H : DH} (hP : PrgV R top stmv topv) (hF : FineR R) (hmd : md = 1 ∨ md = 2 ∨ md = 3) :
  WC cfg 28 [.agg [.int .i64 md, stmv, topv]] H fun v H' => v = .tup [.int .i64 (checkP md R).1, .int .i64 (checkP md R).2] ∧ Ext H H' := by
 refine WC_of (show Has cfg 28 25 [.tmp 2, .tmp 3] _ from ⟨by kernel_rfl, Tryz.f28, Tryz.func28, rfl, rfl, rfl, by kernel_rfl⟩) (by simp) ?_
 obtain ⟨a1, a2, a3⟩ := hP.two
 have hRl := hF.1
 simp -dsimp (disch := first | omega | (apply DrawYes.mk; decide +kernel)) only [go_sem, a1, a2]
 refine Y_loop (α := Nat) (fun k σ H' => Ext H H' ∧ H'.m H.next = some (.cells 27 [.int .i64 md, stmv, topv]) ∧ H.next < H'.next ∧ k ≤ R.length ∧ checkL md R (labelsL R) (setsL R) (R.drop k) (labelsL (R.take k)) = checkP md R ∧ σ 1 = .ptr H.next 0 ∧ σ 4 = .int .i64 k) (fun k => R.length - k) 0 ?_ ?_
 ·simp -dsimp (disch := first | omega | (apply DrawYes.mk; decide +kernel)) only [go_sem]
  exact ⟨Ext.refl.new, Nat.lt_succ_self _, Nat.zero_le _, rfl⟩
 rintro k σ H2 ⟨hE, hmm, hln, hk, hck, s1, s4⟩
 by_cases hlt : k < R.length
 ·have i0 : (k : Int) < R.length := by omega
  have hg : R[k]? = some R[k] := List.getElem?_eq_getElem hlt
  have hd : R.drop k = R[k] :: R.drop (k + 1) := List.drop_eq_getElem_cons hlt
  have htk : R.take (k + 1) = R.take k ++ [R[k]] := by rw [List.take_add_one, hg]; rfl
  generalize R[k] = s at hg hd htk
  rw [hd, checkL, ← labelsL_add, ← htk] at hck
  simp -dsimp (disch := first | omega | (apply DrawYes.mk; decide +kernel)) only [go_sem, s1, s4, hmm, a1, a2, a3, i0]
  refine call (rwrong17_ok hP hF hmd hg) ?_
  rintro _ H3 ⟨rfl, hE3⟩
  have hm3 := hE3.get hln hmm
  by_cases he : errB md R (labelsL R) (setsL R) (labelsL (R.take k)) s = 0
  ·rw [if_neg (by omega)] at hck
   rw [he]
   simp -dsimp (disch := first | omega | (apply DrawYes.mk; decide +kernel)) only [go_sem, s1, s4]
   exact ⟨k + 1, ⟨hE.trans hE3, hm3, by have := hE3.le; omega, by omega, hck, rfl⟩, by omega⟩
  ·rw [if_pos he] at hck
   rw [← hck]
   have b1 : ((errB md R (labelsL R) (setsL R) (labelsL (R.take k)) s : Int) != 0) = true := by simp; omega
   obtain ⟨⟨es, hes, hall⟩, htop⟩ := hP
   obtain ⟨d, hgd, vl, vm, rfl, hvl, hvm⟩ := hall.get hg
   obtain ⟨l1, l2, _⟩ := hvl.facts
   obtain ⟨m1, m2, _⟩ := hvm.facts
   obtain ⟨eid, eoff, rfl⟩ : ∃ id off, stmv = .sl id 8 off es := by
    rcases hes with ⟨_, h⟩ | h
    ·rw [h] at hgd; simp at hgd
    ·exact h
   simp -dsimp (disch := first | omega | (apply DrawYes.mk; decide +kernel)) only [go_sem, s1, s4, b1, hm3, hgd, a1, a2, l1, l2, m1, m2]
   exact ⟨by omega, hE.trans hE3⟩
 ·have i0 : ¬ (k : Int) < R.length := by omega
  obtain rfl : k = R.length := by omega
  rw [List.drop_length, checkL] at hck
  simp -dsimp (disch := first | omega | (apply DrawYes.mk; decide +kernel)) only [go_sem, s1, s4, hmm, a1, a2, a3, i0]
  rw [← hck]
  exact ⟨rfl, hE⟩
theorem rsource17_ok {s : List UInt8} {H : DH} (hs : s.length < 1000000) : WC cfg 26 [.str s] H fun v H' => Ext H H' ∧
  ∃ stmv topv, v = .tup [.agg [.int .i64 (checkS s).mode, stmv, topv], .int .i64 (checkS s).at_, .int .i64 (checkS s).e] ∧ PrgV (checkS s).R (checkS s).top stmv topv := by
 refine WC_of (show Has cfg 26 30 [.cell 2 27, .tmp 3, .tmp 4] _ from ⟨by kernel_rfl, Tryz.f26, Tryz.func26, rfl, rfl, rfl, by kernel_rfl⟩) (by simp) ?_
 simp -dsimp (disch := first | omega | (apply DrawYes.mk; decide +kernel)) only [go_sem]
 refine call (rparse_ok hs) ?_
 rintro _ H1 ⟨hE, stmv, topv, rfl, hP⟩
 have hfine := parse_fine s
 have hle := hE.le
 obtain ⟨a1, a2, a3⟩ := hP.two
 have hmd : (parseAll s).e = 0 → (parseAll s).mode = 1 ∨ (parseAll s).mode = 2 ∨ (parseAll s).mode = 3 := fun he => by
  obtain ⟨_, h1, h2, _⟩ := parse_within he
  omega
 unfold checkS
 generalize parseAll s = r at *
 have hro : H1.m H.next = some (.cells 27 [.int .i64 0, .nils, .nils]) := hE.get (by simp only [new_next]; omega) (by rw [new_m, if_pos rfl])
 have y0 : ¬ H.next = H1.next := by simp only [new_next] at hle; omega
 have y1 : ¬ H1.next = H.next := fun h => y0 h.symm
 have hEx : ∀ o o' o'', Ext H (((H1.new o).set H1.next o').set H.next o'') := fun o o' o'' => by
  have hE0 : Ext H H1 := Ext.refl.new.trans hE
  exact ((hE0.new).set hE0.le).set (Nat.le_refl _)
 have hro2 : ∀ o o', ((H1.new o).set H1.next o').m H.next = some (.cells 27 [.int .i64 0, .nils, .nils]) := fun o o' => by rw [set_m, if_neg y0, new_m, if_neg y0]; exact hro
 by_cases he : r.e = 0
 ·have j0 : ((r.e : Int) != 0) = false := by simp; omega
  simp -dsimp (disch := first | omega | (apply DrawYes.mk; decide +kernel)) only [go_sem, j0, a1, a2]
  refine call (rprog17_ok hP hfine (hmd he)) ?_
  rintro _ H2 ⟨rfl, hE2⟩
  have hle2 := hE2.le
  simp only [set_next, new_next] at hle2 hle
  have hro3 := hE2.get (b := H.next) (by simp only [set_next, new_next]; omega) (hro2 _ _)
  have hp3 := hE2.get (b := H1.next) (by simp only [set_next, new_next]; omega) (by rw [set_m, if_pos rfl])
  have hEx2 : ∀ o, Ext H (H2.set H.next o) := fun o => by
   have hE0 : Ext H H1 := Ext.refl.new.trans hE
   exact (((hE0.new).set hE0.le).trans hE2).set (Nat.le_refl _)
  by_cases hc : (checkP r.mode r.R).2 = 0
  ·have j1 : (((checkP r.mode r.R).2 : Int) != 0) = false := by simp; omega
   have hr : checkR r = ⟨r.mode, r.R, r.top, 0, 0⟩ := by unfold checkR; rw [if_neg (by omega), if_neg (by omega)]
   rw [hr]
   simp -dsimp (disch := first | omega | (apply DrawYes.mk; decide +kernel)) only [go_sem, j0, j1, a1, a2, hro3, hp3, y0, y1]
   exact ⟨hEx2 _, _, _, rfl, hP⟩
  ·have j1 : (((checkP r.mode r.R).2 : Int) != 0) = true := by simp; omega
   have hr : checkR r = ⟨0, [], [], (checkP r.mode r.R).1, (checkP r.mode r.R).2⟩ := by unfold checkR; rw [if_neg (by omega), if_pos hc]
   rw [hr]
   simp -dsimp (disch := first | omega | (apply DrawYes.mk; decide +kernel)) only [go_sem, j0, j1, a1, a2, hro3, hp3, y0, y1]
   exact ⟨hEx2 _, _, _, rfl, PrgV.nil⟩
 ·have j1 : ((r.e : Int) != 0) = true := by simp; omega
  have hr : checkR r = ⟨0, [], [], r.at_, r.e⟩ := by unfold checkR; rw [if_pos he]
  rw [hr]
  simp -dsimp (disch := first | omega | (apply DrawYes.mk; decide +kernel)) only [go_sem, j1, a1, a2, hro, y0, y1]
  exact ⟨hEx _ _ _, _, _, rfl, PrgV.nil⟩
theorem checkAll_ok {s : List UInt8} {H : DH} (hs : s.length ≤ 9223372036854775807) : WC cfg 4 [.str s] H fun v H' => v = .bool true := by
 refine WC_of (show Has cfg 4 92 [.tmp 2] _ from ⟨by kernel_rfl, Tryz.f4, Tryz.func4, rfl, rfl, rfl, by kernel_rfl⟩) (by simp) ?_
 simp -dsimp (disch := first | omega | (apply DrawYes.mk; decide +kernel)) only [go_sem]
 refine call chshown_ok ?_
 rintro _ H1 ⟨rfl, hE1⟩
 simp -dsimp (disch := first | omega | (apply DrawYes.mk; decide +kernel)) only [go_sem, chshort_eq]
 have hlen : (s.take 2100).length ≤ 2100 := by rw [List.length_take]; omega
 generalize s.take 2100 = u at *
 refine call (csource_ok (s := u) (by omega)) ?_
 rintro _ H2 ⟨hE2, sa, ta, rfl, hPa⟩
 obtain ⟨n1, n2, n3⟩ := parse_lens u
 have hfine := parse_fine u
 have hmd : (parseAll u).e = 0 → (parseAll u).mode = 1 ∨ (parseAll u).mode = 2 ∨ (parseAll u).mode = 3 := fun he => by
  obtain ⟨_, h1, h2, _⟩ := parse_within he
  omega
 have hcs : (checkS u).R.length ≤ 100 ∧ (checkS u).top.length ≤ 100 ∧ ∀ x ∈ (checkS u).R, x.l.length ≤ 100 ∧ x.m.length ≤ 100 := by
  have : checkS u = checkR (parseAll u) := rfl
  rw [this]
  unfold checkR
  repeat' split
  all_goals first | exact ⟨n1, n2, n3⟩ | simp
 obtain ⟨k1, k2, k3⟩ := hcs
 obtain ⟨a1, a2, a3⟩ := hPa.two
 refine forget (P := fun σ => WO cfg _ _ σ _ _) (fun σ => σ 0 = .str u ∧ σ 3 = .bool true ∧ σ 23 = .tup [.agg [.int .i64 (checkS u).mode, sa, ta], .int .i64 (checkS u).at_, .int .i64 (checkS u).e]) (by simp -dsimp (disch := first | omega | (apply DrawYes.mk; decide +kernel)) only [go_sem]) ?_
 rintro σ ⟨s0, s3, s23⟩
 simp -dsimp (disch := first | omega | (apply DrawYes.mk; decide +kernel)) only [go_sem, s0, s3, s23, a1, a2]
 refine call (rsource17_ok (s := u) (by omega)) ?_
 rintro _ H3 ⟨hE3, sb, tb, rfl, hPb⟩
 obtain ⟨b1, b2, b3⟩ := hPb.two
 have hle3 := hE3.le
 simp only [set_next, new_next] at hle3
 have hm4 := hE3.get (b := H2.next) (by simp only [set_next, new_next]; omega) (by rw [set_m, if_pos rfl])
 refine forget (P := fun σ => WO cfg _ _ σ _ _) (fun σ => σ 0 = .str u ∧ σ 3 = .bool true ∧ σ 4 = .ptr H2.next 0 ∧ σ 5 = .int .i64 (checkS u).at_ ∧ σ 6 = .int .i64 (checkS u).e ∧ σ 29 = .tup [.agg [.int .i64 (checkS u).mode, sb, tb], .int .i64 (checkS u).at_, .int .i64 (checkS u).e]) (by simp -dsimp (disch := first | omega | (apply DrawYes.mk; decide +kernel)) only [go_sem, s0, s3, s23]) ?_
 clear s0 s3 s23 σ
 rintro σ ⟨s0, s3, s4, s5, s6, s29⟩
 have y1 : ¬ H2.next = H3.next := by omega
 simp -dsimp (disch := first | omega | (apply DrawYes.mk; decide +kernel)) only [go_sem, s0, s3, s4, s5, s6, s29, hm4, y1, a1, a2, b1, b2]
 refine call (rsame_ok hPa hPb (by omega) (by omega) (fun x hx => ⟨by have := (k3 x hx).1; omega, by have := (k3 x hx).2; omega⟩)) ?_
 rintro _ H4 ⟨rfl, hE4⟩
 simp -dsimp (disch := first | omega | (apply DrawYes.mk; decide +kernel)) only [go_sem, s0, s3, s4, s5, s6, s29]
 refine call (rparse_ok (s := u) (by omega)) ?_
 rintro _ H5 ⟨hE5, sc, tc, rfl, hPc⟩
 obtain ⟨c1, c2, c3⟩ := hPc.two
 refine forget (P := fun σ => WO cfg _ _ σ _ _) (fun σ => σ 3 = .bool true ∧ σ 5 = .int .i64 (checkS u).at_ ∧ σ 6 = .int .i64 (checkS u).e ∧ σ 8 = .int .i64 (checkS u).at_ ∧ σ 9 = .int .i64 (checkS u).e ∧ σ 10 = .bool true ∧ σ 38 = .tup [.agg [.int .i64 (parseAll u).mode, sc, tc], .int .i64 (parseAll u).at_, .int .i64 (parseAll u).e]) (by simp -dsimp (disch := first | omega | (apply DrawYes.mk; decide +kernel)) only [go_sem, s0, s3, s4, s5, s6, s29]) ?_
 clear s0 s3 s4 s5 s6 s29 σ
 rintro σ ⟨s3, s5, s6, s8, s9, s10, s38⟩
 by_cases he : (parseAll u).e = 0
 ·have j0 : (((parseAll u).e : Int) != 0) = false := by simp; omega
  simp -dsimp (disch := first | omega | (apply DrawYes.mk; decide +kernel)) only [go_sem, s3, s5, s6, s8, s9, s10, s38, c1, c2, j0]
  refine call (ckprog_ok hPc hfine) ?_
  rintro _ H6 ⟨rfl, hE6⟩
  have hm11 := hE6.get (b := H5.next) (by simp only [set_next, new_next]; omega) (by rw [set_m, if_pos rfl])
  simp -dsimp (disch := first | omega | (apply DrawYes.mk; decide +kernel)) only [go_sem, s3, s5, s6, s8, s9, s10, s38, c1, c2, j0, hm11]
  refine call (rprog17_ok hPc hfine (hmd he)) ?_
  rintro _ H7 ⟨rfl, hE7⟩
  simp -dsimp (disch := first | omega | (apply DrawYes.mk; decide +kernel)) only [go_sem, s3, s5, s6, s8, s9, s10, s38]
 ·have j0 : (((parseAll u).e : Int) != 0) = true := by simp; omega
  simp -dsimp (disch := first | omega | (apply DrawYes.mk; decide +kernel)) only [go_sem, s3, s5, s6, s8, s9, s10, s38, c1, c2, j0]
end Go.Proofs.YtcknfhhbijlobaaGreatDoor.D
