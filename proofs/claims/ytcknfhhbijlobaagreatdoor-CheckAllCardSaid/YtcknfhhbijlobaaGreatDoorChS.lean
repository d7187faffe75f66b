import Derived.Test.YtcknfhhbijlobaaGreatDoorChT
namespace Go.Proofs.YtcknfhhbijlobaaGreatDoor.D
open Go
set_option linter.unusedVariables false
set_option linter.unusedSimpArgs false
set_option maxRecDepth 100000
def checkR (r : PR) : PR := if r.e ≠ 0 then ⟨0, [], [], r.at_, r.e⟩ else if (checkP r.mode r.R).2 ≠ 0 then ⟨0, [], [], (checkP r.mode r.R).1, (checkP r.mode r.R).2⟩ else ⟨r.mode, r.R, r.top, 0, 0⟩
def checkS (s : List UInt8) : PR := checkR (parseAll s)
theorem csource_ok {s : List UInt8} {H : DH} (hs : s.length < 1000000) : WC cfg 25 [.str s] H fun v H' => Ext H H' ∧
  ∃ stmv topv, v = .tup [.agg [.int .i64 (checkS s).mode, stmv, topv], .int .i64 (checkS s).at_, .int .i64 (checkS s).e] ∧ PrgV (checkS s).R (checkS s).top stmv topv := by
 refine WC_of (show Has cfg 25 27 [.cell 2 27, .tmp 3, .tmp 4] _ from ⟨by kernel_rfl, Tryz.f25, Tryz.func25, rfl, rfl, rfl, by kernel_rfl⟩) (by simp) ?_
 simp -dsimp (disch := first | omega | (apply DrawYes.mk; decide +kernel)) only [go_sem]
 refine call (parse_ok hs) ?_
 rintro _ H1 ⟨hE, stmv, topv, rfl, hP⟩
 have hfine := parse_fine s
 have hle := hE.le
 obtain ⟨a1, a2, a3⟩ := hP.two
 unfold checkS
 generalize parseAll s = r at *
 have hro : H1.m H.next = some (.cells 27 [.int .i64 0, .nils, .nils]) := hE.get (by simp only [new_next]; omega) (by rw [new_m, if_pos rfl])
 have y0 : ¬ H.next = H1.next := by simp only [new_next] at hle; omega
 have y1 : ¬ H1.next = H.next := fun h => y0 h.symm
 have hEx : ∀ o o' o'', Ext H (((H1.new o).set H1.next o').set H.next o'') := fun o o' o'' => by
  have hE0 : Ext H H1 := Ext.refl.new.trans hE
  exact ((hE0.new).set hE0.le).set (Nat.le_refl _)
 have hro2 : ∀ o o', ((H1.new o).set H1.next o').m H.next = some (.cells 27 [.int .i64 0, .nils, .nils]) := fun o o' => by rw [set_m, if_neg y0, new_m, if_neg y0]; exact hro
 by_cases he : r.e = 0
 ·have j0 : ((r.e : Int) == 0) = true := by simp; omega
  simp -dsimp (disch := first | omega | (apply DrawYes.mk; decide +kernel)) only [go_sem, j0, a1, a2]
  refine call (ckprog_ok hP hfine) ?_
  rintro _ H2 ⟨rfl, hE2⟩
  have hle2 := hE2.le
  simp only [set_next, new_next] at hle2 hle
  have hro3 := hE2.get (b := H.next) (by simp only [set_next, new_next]; omega) (hro2 _ _)
  have hp3 := hE2.get (b := H1.next) (by simp only [set_next, new_next]; omega) (by rw [set_m, if_pos rfl])
  have hEx2 : ∀ o, Ext H (H2.set H.next o) := fun o => by
   have hE0 : Ext H H1 := Ext.refl.new.trans hE
   exact (((hE0.new).set hE0.le).trans hE2).set (Nat.le_refl _)
  by_cases hc : (checkP r.mode r.R).2 = 0
  ·have j1 : (((checkP r.mode r.R).2 : Int) != 0) = false := by simp; omega
   have hr : checkR r = ⟨r.mode, r.R, r.top, 0, 0⟩ := by unfold checkR; rw [if_neg (by omega), if_neg (by omega)]
   rw [hr]
   simp -dsimp (disch := first | omega | (apply DrawYes.mk; decide +kernel)) only [go_sem, j0, j1, a1, a2, hro3, hp3, y0, y1]
   exact ⟨hEx2 _, _, _, rfl, hP⟩
  ·have j1 : (((checkP r.mode r.R).2 : Int) != 0) = true := by simp; omega
   have hr : checkR r = ⟨0, [], [], (checkP r.mode r.R).1, (checkP r.mode r.R).2⟩ := by unfold checkR; rw [if_neg (by omega), if_pos hc]
   rw [hr]
   simp -dsimp (disch := first | omega | (apply DrawYes.mk; decide +kernel)) only [go_sem, j0, j1, a1, a2, hro3, hp3, y0, y1]
   exact ⟨hEx2 _, _, _, rfl, PrgV.nil⟩
 ·have j0 : ((r.e : Int) == 0) = false := by simp; omega
  have j1 : ((r.e : Int) != 0) = true := by simp; omega
  have hr : checkR r = ⟨0, [], [], r.at_, r.e⟩ := by unfold checkR; rw [if_pos he]
  rw [hr]
  simp -dsimp (disch := first | omega | (apply DrawYes.mk; decide +kernel)) only [go_sem, j0, j1, a1, a2, hro, y0, y1]
  exact ⟨hEx _ _ _, _, _, rfl, PrgV.nil⟩
theorem csource_at {s : List UInt8} {md at_ e : Nat} {R : List Stm} {top : List Nat} {H : DH} (hr : checkS s = ⟨md, R, top, at_, e⟩) (hs : s.length < 1000000) : WC cfg 25 [.str s] H fun v H' => Ext H H' ∧
  ∃ stmv topv, v = .tup [.agg [.int .i64 md, stmv, topv], .int .i64 at_, .int .i64 e] ∧ PrgV R top stmv topv := by
 have h := csource_ok (H := H) hs
 rw [hr] at h
 exact h
theorem chshort_ok {s : List UInt8} {H : DH} : WC cfg 24 [.str s] H fun v H' => v = .str (s.take 2100) ∧ H' = H := by
 refine WC_of (show Has cfg 24 9 [.tmp 2] _ from ⟨by kernel_rfl, Tryz.f24, Tryz.func24, rfl, rfl, rfl, by kernel_rfl⟩) (by simp) ?_
 by_cases hb : 2100 < s.length
 ·have i : 2100 < (s.length : Int) := by omega
  simp -dsimp (disch := first | omega | (apply DrawYes.mk; decide +kernel)) only [go_sem, i]
  omega
 ·have i : ¬ 2100 < (s.length : Int) := by omega
  simp -dsimp (disch := first | omega | (apply DrawYes.mk; decide +kernel)) only [go_sem, i]
  rw [List.take_of_length_le (by omega)]
theorem chshort_eq {s : List UInt8} {H : DH} {K : DV → DH → Prop} {b : Later K} : WK cfg 24 [.str s] H b = K (.str (s.take 2100)) H := WK_det chshort_ok
def chshownT : List UInt8 := [109, 111, 100, 101, 32, 115, 109, 116, 112, 59, 32, 103, 111, 116, 111, 32, 120, 59]
theorem chshown_all : checkS chshownT = ⟨0, [], [], 11, 33⟩ := by kernel_rfl
theorem chshown_ok {H : DH} : WC cfg 23 [] H fun v H' => v = .bool true ∧ Ext H H' := by
 refine WC_of (show Has cfg 23 15 [.tmp 0] _ from ⟨by kernel_rfl, Tryz.f23, Tryz.func23, rfl, rfl, rfl, by kernel_rfl⟩) (by simp) ?_
 simp -dsimp (disch := first | omega | (apply DrawYes.mk; decide +kernel)) only [go_sem]
 refine call (csource_at chshown_all (by decide)) ?_
 rintro _ H1 ⟨hE, stmv, topv, rfl, hP⟩
 obtain ⟨a1, a2, a3⟩ := hP.two
 simp -dsimp (disch := first | omega | (apply DrawYes.mk; decide +kernel)) only [go_sem, a1, a2]
 exact (hE.new).set hE.le
end Go.Proofs.YtcknfhhbijlobaaGreatDoor.D
