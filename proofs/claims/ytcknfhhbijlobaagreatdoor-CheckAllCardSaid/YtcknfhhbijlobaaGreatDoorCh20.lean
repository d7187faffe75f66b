import Derived.Test.YtcknfhhbijlobaaGreatDoorCh19
import Derived.Test.YtcknfhhbijlobaaGreatDoorR15g
namespace Go.Proofs.YtcknfhhbijlobaaGreatDoor.D
open Go
set_option linter.unusedVariables false
set_option linter.unusedSimpArgs false
set_option maxRecDepth 100000
theorem codesR_len {s : Stm} (h1 : s.t.length < 1000000) (h2 : s.u.length < 1000000) : (codesR s).1.length < 1000000 := by
 unfold codesR
 repeat' split
 all_goals first | assumption | simp
theorem errB_mode {md : Nat} {R : List Stm} {labels sets seen : List (List UInt8)} {s : Stm} (h : modeB md R s = false) : errB md R labels sets seen s = 30 := by unfold errB; rw [if_pos h]
theorem errB_window {md : Nat} {R : List Stm} {labels sets seen : List (List UInt8)} {s : Stm} (h1 : modeB md R s = true) (h : windowB s = false) : errB md R labels sets seen s = 1 := by unfold errB; rw [h1, if_neg (by decide), if_pos h]
theorem errB_codes {md : Nat} {R : List Stm} {labels sets seen : List (List UInt8)} {s : Stm} (h1 : modeB md R s = true) (h2 : windowB s = true) (h : codesK md s = false) : errB md R labels sets seen s = 34 := by unfold errB; rw [h1, h2, if_neg (by decide), if_neg (by decide), if_pos h]
theorem errB_once {md : Nat} {R : List Stm} {labels sets seen : List (List UInt8)} {s : Stm} (h1 : modeB md R s = true) (h2 : windowB s = true) (h3 : codesK md s = true) (h : onceB seen s = false) : errB md R labels sets seen s = 31 := by unfold errB; rw [h1, h2, h3, if_neg (by decide), if_neg (by decide), if_neg (by decide), if_pos h]
theorem errB_there {md : Nat} {R : List Stm} {labels sets seen : List (List UInt8)} {s : Stm} (h1 : modeB md R s = true) (h2 : windowB s = true) (h3 : codesK md s = true) (h4 : onceB seen s = true) (h : thereB labels s = false) : errB md R labels sets seen s = 33 := by unfold errB; rw [h1, h2, h3, h4, if_neg (by decide), if_neg (by decide), if_neg (by decide), if_neg (by decide), if_pos h]
theorem errB_known {md : Nat} {R : List Stm} {labels sets seen : List (List UInt8)} {s : Stm} (h1 : modeB md R s = true) (h2 : windowB s = true) (h3 : codesK md s = true) (h4 : onceB seen s = true) (h5 : thereB labels s = true) : errB md R labels sets seen s = if knownB sets s = false then 32 else 0 := by unfold errB; rw [h1, h2, h3, h4, h5, if_neg (by decide), if_neg (by decide), if_neg (by decide), if_neg (by decide), if_neg (by decide)]
theorem rwrong17_ok {md at_ : Nat} {R : List Stm} {top : List Nat} {stmv topv : DV} {s : Stm} {H : DH} (hP : PrgV R top stmv topv) (hF : FineR R) (hmd : md = 1 ∨ md = 2 ∨ md = 3) (hg : R[at_]? = some s) :
  WC cfg 61 [.agg [.int .i64 md, stmv, topv], .int .i64 at_] H fun v H' => v = .int .i64 (errB md R (labelsL R) (setsL R) (labelsL (R.take at_)) s) ∧ Ext H H' := by
 refine WC_of (show Has cfg 61 85 [.tmp 4] _ from ⟨by kernel_rfl, Tryz.f61, Tryz.func61, rfl, rfl, rfl, by kernel_rfl⟩) (by simp) ?_
 have hP0 := hP
 obtain ⟨a1, a2, a3⟩ := hP.two
 have hmem : s ∈ R := List.mem_of_getElem? hg
 have hlt : at_ < R.length := (List.getElem?_eq_some_iff.1 hg).1
 obtain ⟨hRl, hRf⟩ := hF
 obtain ⟨f1, f2, f3, f4, f5⟩ := hRf s hmem
 have hts : ∀ t ∈ textsL s, t.length < 1000000 := FineR.texts ⟨hRl, hRf⟩ hmem
 obtain ⟨⟨es, hes, hall⟩, htop⟩ := hP
 obtain ⟨d, hgd, hd⟩ := hall.get hg
 have hd0 := hd
 obtain ⟨vl, vm, rfl, hl, hmm⟩ := hd
 obtain ⟨l1, l2, l3⟩ := hl.facts
 obtain ⟨m1, m2, _⟩ := hmm.facts
 obtain ⟨eid, eoff, rfl⟩ : ∃ id off, stmv = .sl id 8 off es := by
  rcases hes with ⟨_, h⟩ | h
  ·rw [h] at hgd; simp at hgd
  ·exact h
 have y1 : ¬ H.next = H.next + 1 := by omega
 have y2 : ¬ H.next + 1 = H.next := by omega
 have hck := codesR_ok (md := md) (s := s)
 have hcl := codesR_len f4 f5
 simp -dsimp (disch := first | omega | (apply DrawYes.mk; decide +kernel)) only [go_sem, l1, l2, m1, m2, a1, a2, hgd, y1, y2]
 refine And.intro (by omega) ?_
 refine call (rmode17_ok hP0 hd0 hmd f1 f2) ?_
 rintro _ H1 ⟨rfl, hE1⟩
 have hE01 : Ext H H1 := (Ext.refl.new.new.set (by omega)).trans hE1
 have hle1 := hE1.le
 simp only [set_next, new_next] at hle1
 have p1 : H1.m H.next = some (.cells 27 [.int .i64 md, .sl eid 8 eoff es, topv]) := hE1.get (by simp only [set_next, new_next]; omega) (by rw [set_m, if_neg (by omega), new_m, if_neg (by simp only [new_next]; omega), new_m, if_pos rfl])
 have q1 : H1.m (H.next + 1) = some (.cells 40 [.int .i64 s.kind, .str s.s, .str s.t, .str s.u, .int .i64 s.n, .int .i64 s.at_, vl, vm]) := hE1.get (by simp only [set_next, new_next]; omega) (by rw [set_m, if_pos rfl])
 replace hle1 : H.next + 2 ≤ H1.next := by omega
 refine WO_cut (fun σ H' => H' = H1 ∧ σ 1 = .int .i64 at_ ∧ σ 2 = .ptr H.next 0 ∧ σ 5 = .ptr (H.next + 1) 0 ∧ σ 6 = .bool (modeB md R s)) (by simp -dsimp (disch := first | omega | (apply DrawYes.mk; decide +kernel)) only [go_sem]) ?_
 rintro σ Hx ⟨hHx, s1, s2, s5, s6⟩
 rw [hHx]; clear hHx Hx
 rw [Y_seq]
 refine Y_cut (fun σ H' => H' = H1 ∧ σ 1 = .int .i64 at_ ∧ σ 2 = .ptr H.next 0 ∧ σ 5 = .ptr (H.next + 1) 0 ∧ modeB md R s = true) ?_ ?_
 ·cases hb : modeB md R s with
  | false =>
   rw [hb] at s6
   rw [errB_mode hb]
   simp -dsimp (disch := first | omega | (apply DrawYes.mk; decide +kernel)) only [go_sem, s1, s2, s5, s6]
   exact hE01
  | true =>
   rw [hb] at s6
   simp -dsimp (disch := first | omega | (apply DrawYes.mk; decide +kernel)) only [go_sem, s1, s2, s5, s6]
 clear s1 s2 s5 s6 σ
 rintro σ Hx ⟨hHx, s1, s2, s5, hmode⟩
 rw [hHx]; clear hHx Hx
 rw [Y_seq]
 refine Y_cut (fun σ H' => H' = H1 ∧ σ 1 = .int .i64 at_ ∧ σ 2 = .ptr H.next 0 ∧ σ 5 = .ptr (H.next + 1) 0 ∧ windowB s = true) ?_ ?_
 ·by_cases h6 : s.kind = 6
  ·have b6 : ((s.kind : Int) == 6) = true := by simp; omega
   by_cases n1 : s.n < 1
   ·have i1 : (s.n : Int) < 1 := by omega
    rw [errB_window hmode (by unfold windowB; simp [h6]; omega)]
    simp -dsimp (disch := first | omega | (apply DrawYes.mk; decide +kernel)) only [go_sem, s1, s2, s5, q1, b6, i1, l1, l2, m1, m2]
    exact hE01
   ·have i1 : ¬ (s.n : Int) < 1 := by omega
    by_cases n8 : 8 < s.n
    ·have i8 : 8 < (s.n : Int) := by omega
     rw [errB_window hmode (by unfold windowB; simp [h6]; omega)]
     simp -dsimp (disch := first | omega | (apply DrawYes.mk; decide +kernel)) only [go_sem, s1, s2, s5, q1, b6, i1, i8, l1, l2, m1, m2]
     exact hE01
    ·have i8 : ¬ 8 < (s.n : Int) := by omega
     simp -dsimp (disch := first | omega | (apply DrawYes.mk; decide +kernel)) only [go_sem, s1, s2, s5, q1, b6, i1, i8, l1, l2, m1, m2]
     unfold windowB; simp [h6]; omega
  ·have b6 : ((s.kind : Int) == 6) = false := by simp; omega
   simp -dsimp (disch := first | omega | (apply DrawYes.mk; decide +kernel)) only [go_sem, s1, s2, s5, q1, b6, l1, l2, m1, m2]
   unfold windowB; simp [h6]
 clear s1 s2 s5 σ
 rintro σ Hx ⟨hHx, s1, s2, s5, hwin⟩
 rw [hHx]; clear hHx Hx
 simp -dsimp (disch := first | omega | (apply DrawYes.mk; decide +kernel)) only [go_sem, s1, s2, s5, p1, q1, l1, l2, m1, m2, a1, a2]
 refine call (rcodes17_ok hd0) ?_
 rintro _ H2 ⟨rfl, hEn⟩
 have hE02 : Ext H H2 := hE01.trans hEn
 have p2 := hEn.get (by have := hE01.le; omega) p1
 have q2 := hEn.get (by omega) q1
 have hle2 := hEn.le
 replace hle2 : H.next + 2 ≤ H2.next := by omega
 clear hEn
 simp -dsimp (disch := first | omega | (apply DrawYes.mk; decide +kernel)) only [go_sem, s1, s2, s5, p2, q2, l1, l2, m1, m2, a1, a2]
 refine call (rcodes_ok hcl) ?_
 rintro _ H3 ⟨rfl, hEn⟩
 have hE03 : Ext H H3 := hE02.trans hEn
 have p3 := hEn.get (by have := hE02.le; omega) p2
 have q3 := hEn.get (by omega) q2
 have hle3 := hEn.le
 replace hle3 : H.next + 2 ≤ H3.next := by omega
 clear hEn
 refine WO_cut (fun σ H' => H' = H3 ∧ σ 1 = .int .i64 at_ ∧ σ 2 = .ptr H.next 0 ∧ σ 5 = .ptr (H.next + 1) 0 ∧ σ 8 = .bool (codesR s).2 ∧ σ 9 = .bool (codesB md (codesR s).1)) (by simp -dsimp (disch := first | omega | (apply DrawYes.mk; decide +kernel)) only [go_sem, s1, s2, s5]) ?_
 clear s1 s2 s5 σ
 rintro σ Hx ⟨hHx, s1, s2, s5, s8, s9⟩
 rw [hHx]; clear hHx Hx
 rw [Y_seq]
 refine Y_cut (fun σ H' => H' = H3 ∧ σ 1 = .int .i64 at_ ∧ σ 2 = .ptr H.next 0 ∧ σ 5 = .ptr (H.next + 1) 0 ∧ codesK md s = true) ?_ ?_
 ·cases hask : (codesR s).2 with
  | false =>
   rw [hask] at s8 hck
   simp -dsimp (disch := first | omega | (apply DrawYes.mk; decide +kernel)) only [go_sem, s1, s2, s5, s8, s9]
   rw [hck]; rfl
  | true =>
   rw [hask] at s8 hck
   cases hfi : codesB md (codesR s).1 with
   | true =>
    rw [hfi] at s9 hck
    simp -dsimp (disch := first | omega | (apply DrawYes.mk; decide +kernel)) only [go_sem, s1, s2, s5, s8, s9]
    rw [hck]; rfl
   | false =>
    rw [hfi] at s9 hck
    rw [errB_codes hmode hwin (by rw [hck]; rfl)]
    simp -dsimp (disch := first | omega | (apply DrawYes.mk; decide +kernel)) only [go_sem, s1, s2, s5, s8, s9]
    exact hE03
 clear s1 s2 s5 s8 s9 σ hck hcl
 rintro σ Hx ⟨hHx, s1, s2, s5, hco⟩
 rw [hHx]; clear hHx Hx
 simp -dsimp (disch := first | omega | (apply DrawYes.mk; decide +kernel)) only [go_sem, s1, s2, s5, p3, q3, l1, l2, m1, m2, a1, a2]
 refine call (rhas17_ok hP0 (Nat.le_of_lt hlt) (by omega)) ?_
 rintro _ H4 ⟨rfl, hEn⟩
 have hE04 : Ext H H4 := hE03.trans hEn
 have p4 := hEn.get (by have := hE03.le; omega) p3
 have q4 := hEn.get (by omega) q3
 have hle4 := hEn.le
 replace hle4 : H.next + 2 ≤ H4.next := by omega
 clear hEn
 refine WO_cut (fun σ H' => H' = H4 ∧ σ 1 = .int .i64 at_ ∧ σ 2 = .ptr H.next 0 ∧ σ 5 = .ptr (H.next + 1) 0 ∧ σ 10 = .bool (decide (s.s ∈ labelsL (R.take at_)))) (by simp -dsimp (disch := first | omega | (apply DrawYes.mk; decide +kernel)) only [go_sem, s1, s2, s5]; rfl) ?_
 clear s1 s2 s5 σ
 rintro σ Hx ⟨hHx, s1, s2, s5, s10⟩
 rw [hHx]; clear hHx Hx
 rw [Y_seq]
 refine Y_cut (fun σ H' => H' = H4 ∧ σ 1 = .int .i64 at_ ∧ σ 2 = .ptr H.next 0 ∧ σ 5 = .ptr (H.next + 1) 0 ∧ onceB (labelsL (R.take at_)) s = true) ?_ ?_
 ·by_cases h13 : s.kind = 13
  ·have b13 : ((s.kind : Int) == 13) = true := by simp; omega
   cases hin : decide (s.s ∈ labelsL (R.take at_)) with
   | true =>
    rw [hin] at s10
    rw [errB_once hmode hwin hco (by unfold onceB; rw [hin]; simp [h13])]
    simp -dsimp (disch := first | omega | (apply DrawYes.mk; decide +kernel)) only [go_sem, s1, s2, s5, s10, q4, b13, l1, l2, m1, m2]
    exact hE04
   | false =>
    rw [hin] at s10
    simp -dsimp (disch := first | omega | (apply DrawYes.mk; decide +kernel)) only [go_sem, s1, s2, s5, s10, q4, b13, l1, l2, m1, m2]
    unfold onceB; rw [hin]; simp
  ·have b13 : ((s.kind : Int) == 13) = false := by simp; omega
   simp -dsimp (disch := first | omega | (apply DrawYes.mk; decide +kernel)) only [go_sem, s1, s2, s5, s10, q4, b13, l1, l2, m1, m2]
   unfold onceB; simp [h13]
 clear s1 s2 s5 s10 σ
 rintro σ Hx ⟨hHx, s1, s2, s5, hon⟩
 rw [hHx]; clear hHx Hx
 simp -dsimp (disch := first | omega | (apply DrawYes.mk; decide +kernel)) only [go_sem, s1, s2, s5, p4, q4, l1, l2, m1, m2, a1, a2, a3]
 refine call (rhas17_ok hP0 (Nat.le_refl _) (by omega)) ?_
 rintro _ H5 ⟨rfl, hEn⟩
 have hE05 : Ext H H5 := hE04.trans hEn
 have p5 := hEn.get (by have := hE04.le; omega) p4
 have q5 := hEn.get (by omega) q4
 have hle5 := hEn.le
 replace hle5 : H.next + 2 ≤ H5.next := by omega
 clear hEn
 refine WO_cut (fun σ H' => H' = H5 ∧ σ 1 = .int .i64 at_ ∧ σ 2 = .ptr H.next 0 ∧ σ 5 = .ptr (H.next + 1) 0 ∧ σ 11 = .bool (decide (s.s ∈ labelsL R))) (by simp -dsimp (disch := first | omega | (apply DrawYes.mk; decide +kernel)) only [go_sem, s1, s2, s5]; rfl) ?_
 clear s1 s2 s5 σ
 rintro σ Hx ⟨hHx, s1, s2, s5, s11⟩
 rw [hHx]; clear hHx Hx
 rw [Y_seq]
 refine Y_cut (fun σ H' => H' = H5 ∧ σ 1 = .int .i64 at_ ∧ σ 2 = .ptr H.next 0 ∧ σ 5 = .ptr (H.next + 1) 0 ∧ thereB (labelsL R) s = true) ?_ ?_
 ·by_cases h14 : s.kind = 14
  ·have b14 : ((s.kind : Int) == 14) = true := by simp; omega
   cases hin : decide (s.s ∈ labelsL R) with
   | false =>
    rw [hin] at s11
    rw [errB_there hmode hwin hco hon (by unfold thereB; rw [hin]; simp [h14])]
    simp -dsimp (disch := first | omega | (apply DrawYes.mk; decide +kernel)) only [go_sem, s1, s2, s5, s11, q5, b14, l1, l2, m1, m2]
    exact hE05
   | true =>
    rw [hin] at s11
    simp -dsimp (disch := first | omega | (apply DrawYes.mk; decide +kernel)) only [go_sem, s1, s2, s5, s11, q5, b14, l1, l2, m1, m2]
    unfold thereB; rw [hin]; simp
  ·have b14 : ((s.kind : Int) == 14) = false := by simp; omega
   by_cases h15 : s.kind = 15
   ·have b15 : ((s.kind : Int) == 15) = true := by simp; omega
    cases hin : decide (s.s ∈ labelsL R) with
    | false =>
     rw [hin] at s11
     rw [errB_there hmode hwin hco hon (by unfold thereB; rw [hin]; simp [h15])]
     simp -dsimp (disch := first | omega | (apply DrawYes.mk; decide +kernel)) only [go_sem, s1, s2, s5, s11, q5, b14, b15, l1, l2, m1, m2]
     exact hE05
    | true =>
     rw [hin] at s11
     simp -dsimp (disch := first | omega | (apply DrawYes.mk; decide +kernel)) only [go_sem, s1, s2, s5, s11, q5, b14, b15, l1, l2, m1, m2]
     unfold thereB; rw [hin]; simp
   ·have b15 : ((s.kind : Int) == 15) = false := by simp; omega
    simp -dsimp (disch := first | omega | (apply DrawYes.mk; decide +kernel)) only [go_sem, s1, s2, s5, s11, q5, b14, b15, l1, l2, m1, m2]
    unfold thereB; simp [h14, h15]
 clear s1 s2 s5 s11 σ
 rintro σ Hx ⟨hHx, s1, s2, s5, hth⟩
 rw [hHx]; clear hHx Hx
 rw [errB_known hmode hwin hco hon hth]
 simp -dsimp (disch := first | omega | (apply DrawYes.mk; decide +kernel)) only [go_sem, s1, s2, s5, p5, q5, l1, l2, m1, m2, a1, a2]
 refine call (rknown17_ok hP0 hd0 (by omega) hts) ?_
 rintro _ H6 ⟨rfl, hEn⟩
 have hE06 : Ext H H6 := hE05.trans hEn
 have p6 := hEn.get (by have := hE05.le; omega) p5
 have q6 := hEn.get (by omega) q5
 have hle6 := hEn.le
 replace hle6 : H.next + 2 ≤ H6.next := by omega
 clear hEn
 cases hkn : knownB (setsL R) s with
 | false =>
  simp -dsimp (disch := first | omega | (apply DrawYes.mk; decide +kernel)) only [go_sem, s1, s2, s5]
  exact hE06
 | true =>
  simp -dsimp (disch := first | omega | (apply DrawYes.mk; decide +kernel)) only [go_sem, s1, s2, s5]
  exact hE06
end Go.Proofs.YtcknfhhbijlobaaGreatDoor.D
