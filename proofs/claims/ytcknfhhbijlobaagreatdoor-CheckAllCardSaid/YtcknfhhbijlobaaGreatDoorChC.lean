import Derived.Test.YtcknfhhbijlobaaGreatDoorChP
namespace Go.Proofs.YtcknfhhbijlobaaGreatDoor.D
open Go
set_option linter.unusedVariables false
set_option linter.unusedSimpArgs false
set_option maxRecDepth 100000
theorem cktexts_ok {H : DH} {s : Stm} {d : DV} (hd : StmV s d) : WC cfg 88 [d] H fun v H' => SlV 1 v ((textsL s).map .str) ∧ Ext H H' := by
 refine WC_of (show Has cfg 88 34 [.tmp 2] _ from ⟨by kernel_rfl, Tryz.f88, Tryz.func88, rfl, rfl, rfl, by kernel_rfl⟩) (by simp) ?_
 obtain ⟨vl, vm, rfl, hl, hmm⟩ := hd
 obtain ⟨l1, l2, _⟩ := hl.facts
 obtain ⟨m1, m2, _⟩ := hmm.facts
 by_cases e3 : s.kind = 3
 ·have ht : textsL s = [s.s] := by unfold textsL; simp [e3]
  rw [ht]
  have b3 : ((s.kind : Int) == 3) = true := by simp; omega
  have b4 : ((s.kind : Int) == 4) = false := by simp; omega
  have b8 : ((s.kind : Int) == 8) = false := by simp; omega
  have b16 : ((s.kind : Int) == 16) = false := by simp; omega
  have b1 : ((s.kind : Int) == 1) = false := by simp; omega
  have b9 : ((s.kind : Int) == 9) = false := by simp; omega
  have b10 : ((s.kind : Int) == 10) = false := by simp; omega
  have b7 : ((s.kind : Int) == 7) = false := by simp; omega
  have b11 : ((s.kind : Int) == 11) = false := by simp; omega
  simp -dsimp (disch := first | omega | (apply DrawYes.mk; decide +kernel)) only [go_sem, l1, l2, m1, m2, b3, b4, b8, b16, b1, b9, b10, b7, b11]
  exact ⟨.inr ⟨_, _, rfl⟩, Ext.refl.new.new⟩
 by_cases e4 : s.kind = 4
 ·have ht : textsL s = [s.s] := by unfold textsL; simp [e4]
  rw [ht]
  have b3 : ((s.kind : Int) == 3) = false := by simp; omega
  have b4 : ((s.kind : Int) == 4) = true := by simp; omega
  have b8 : ((s.kind : Int) == 8) = false := by simp; omega
  have b16 : ((s.kind : Int) == 16) = false := by simp; omega
  have b1 : ((s.kind : Int) == 1) = false := by simp; omega
  have b9 : ((s.kind : Int) == 9) = false := by simp; omega
  have b10 : ((s.kind : Int) == 10) = false := by simp; omega
  have b7 : ((s.kind : Int) == 7) = false := by simp; omega
  have b11 : ((s.kind : Int) == 11) = false := by simp; omega
  simp -dsimp (disch := first | omega | (apply DrawYes.mk; decide +kernel)) only [go_sem, l1, l2, m1, m2, b3, b4, b8, b16, b1, b9, b10, b7, b11]
  exact ⟨.inr ⟨_, _, rfl⟩, Ext.refl.new.new⟩
 by_cases e8 : s.kind = 8
 ·have ht : textsL s = [s.s] := by unfold textsL; simp [e8]
  rw [ht]
  have b3 : ((s.kind : Int) == 3) = false := by simp; omega
  have b4 : ((s.kind : Int) == 4) = false := by simp; omega
  have b8 : ((s.kind : Int) == 8) = true := by simp; omega
  have b16 : ((s.kind : Int) == 16) = false := by simp; omega
  have b1 : ((s.kind : Int) == 1) = false := by simp; omega
  have b9 : ((s.kind : Int) == 9) = false := by simp; omega
  have b10 : ((s.kind : Int) == 10) = false := by simp; omega
  have b7 : ((s.kind : Int) == 7) = false := by simp; omega
  have b11 : ((s.kind : Int) == 11) = false := by simp; omega
  simp -dsimp (disch := first | omega | (apply DrawYes.mk; decide +kernel)) only [go_sem, l1, l2, m1, m2, b3, b4, b8, b16, b1, b9, b10, b7, b11]
  exact ⟨.inr ⟨_, _, rfl⟩, Ext.refl.new.new⟩
 by_cases e16 : s.kind = 16
 ·have ht : textsL s = [s.s] := by unfold textsL; simp [e16]
  rw [ht]
  have b3 : ((s.kind : Int) == 3) = false := by simp; omega
  have b4 : ((s.kind : Int) == 4) = false := by simp; omega
  have b8 : ((s.kind : Int) == 8) = false := by simp; omega
  have b16 : ((s.kind : Int) == 16) = true := by simp; omega
  have b1 : ((s.kind : Int) == 1) = false := by simp; omega
  have b9 : ((s.kind : Int) == 9) = false := by simp; omega
  have b10 : ((s.kind : Int) == 10) = false := by simp; omega
  have b7 : ((s.kind : Int) == 7) = false := by simp; omega
  have b11 : ((s.kind : Int) == 11) = false := by simp; omega
  simp -dsimp (disch := first | omega | (apply DrawYes.mk; decide +kernel)) only [go_sem, l1, l2, m1, m2, b3, b4, b8, b16, b1, b9, b10, b7, b11]
  exact ⟨.inr ⟨_, _, rfl⟩, Ext.refl.new.new⟩
 by_cases e1 : s.kind = 1
 ·have ht : textsL s = [s.t] := by unfold textsL; simp [e1]
  rw [ht]
  have b3 : ((s.kind : Int) == 3) = false := by simp; omega
  have b4 : ((s.kind : Int) == 4) = false := by simp; omega
  have b8 : ((s.kind : Int) == 8) = false := by simp; omega
  have b16 : ((s.kind : Int) == 16) = false := by simp; omega
  have b1 : ((s.kind : Int) == 1) = true := by simp; omega
  have b9 : ((s.kind : Int) == 9) = false := by simp; omega
  have b10 : ((s.kind : Int) == 10) = false := by simp; omega
  have b7 : ((s.kind : Int) == 7) = false := by simp; omega
  have b11 : ((s.kind : Int) == 11) = false := by simp; omega
  simp -dsimp (disch := first | omega | (apply DrawYes.mk; decide +kernel)) only [go_sem, l1, l2, m1, m2, b3, b4, b8, b16, b1, b9, b10, b7, b11]
  exact ⟨.inr ⟨_, _, rfl⟩, Ext.refl.new.new⟩
 by_cases e9 : s.kind = 9
 ·have ht : textsL s = [s.t] := by unfold textsL; simp [e9]
  rw [ht]
  have b3 : ((s.kind : Int) == 3) = false := by simp; omega
  have b4 : ((s.kind : Int) == 4) = false := by simp; omega
  have b8 : ((s.kind : Int) == 8) = false := by simp; omega
  have b16 : ((s.kind : Int) == 16) = false := by simp; omega
  have b1 : ((s.kind : Int) == 1) = false := by simp; omega
  have b9 : ((s.kind : Int) == 9) = true := by simp; omega
  have b10 : ((s.kind : Int) == 10) = false := by simp; omega
  have b7 : ((s.kind : Int) == 7) = false := by simp; omega
  have b11 : ((s.kind : Int) == 11) = false := by simp; omega
  simp -dsimp (disch := first | omega | (apply DrawYes.mk; decide +kernel)) only [go_sem, l1, l2, m1, m2, b3, b4, b8, b16, b1, b9, b10, b7, b11]
  exact ⟨.inr ⟨_, _, rfl⟩, Ext.refl.new.new⟩
 by_cases e10 : s.kind = 10
 ·have ht : textsL s = [s.t] := by unfold textsL; simp [e10]
  rw [ht]
  have b3 : ((s.kind : Int) == 3) = false := by simp; omega
  have b4 : ((s.kind : Int) == 4) = false := by simp; omega
  have b8 : ((s.kind : Int) == 8) = false := by simp; omega
  have b16 : ((s.kind : Int) == 16) = false := by simp; omega
  have b1 : ((s.kind : Int) == 1) = false := by simp; omega
  have b9 : ((s.kind : Int) == 9) = false := by simp; omega
  have b10 : ((s.kind : Int) == 10) = true := by simp; omega
  have b7 : ((s.kind : Int) == 7) = false := by simp; omega
  have b11 : ((s.kind : Int) == 11) = false := by simp; omega
  simp -dsimp (disch := first | omega | (apply DrawYes.mk; decide +kernel)) only [go_sem, l1, l2, m1, m2, b3, b4, b8, b16, b1, b9, b10, b7, b11]
  exact ⟨.inr ⟨_, _, rfl⟩, Ext.refl.new.new⟩
 by_cases e7 : s.kind = 7
 ·have ht : textsL s = [s.t, s.u] := by unfold textsL; simp [e7]
  rw [ht]
  have b3 : ((s.kind : Int) == 3) = false := by simp; omega
  have b4 : ((s.kind : Int) == 4) = false := by simp; omega
  have b8 : ((s.kind : Int) == 8) = false := by simp; omega
  have b16 : ((s.kind : Int) == 16) = false := by simp; omega
  have b1 : ((s.kind : Int) == 1) = false := by simp; omega
  have b9 : ((s.kind : Int) == 9) = false := by simp; omega
  have b10 : ((s.kind : Int) == 10) = false := by simp; omega
  have b7 : ((s.kind : Int) == 7) = true := by simp; omega
  have b11 : ((s.kind : Int) == 11) = false := by simp; omega
  simp -dsimp (disch := first | omega | (apply DrawYes.mk; decide +kernel)) only [go_sem, l1, l2, m1, m2, b3, b4, b8, b16, b1, b9, b10, b7, b11]
  exact ⟨.inr ⟨_, _, rfl⟩, Ext.refl.new.new⟩
 by_cases e11 : s.kind = 11
 ·have ht : textsL s = [s.s, s.t] := by unfold textsL; simp [e11]
  rw [ht]
  have b3 : ((s.kind : Int) == 3) = false := by simp; omega
  have b4 : ((s.kind : Int) == 4) = false := by simp; omega
  have b8 : ((s.kind : Int) == 8) = false := by simp; omega
  have b16 : ((s.kind : Int) == 16) = false := by simp; omega
  have b1 : ((s.kind : Int) == 1) = false := by simp; omega
  have b9 : ((s.kind : Int) == 9) = false := by simp; omega
  have b10 : ((s.kind : Int) == 10) = false := by simp; omega
  have b7 : ((s.kind : Int) == 7) = false := by simp; omega
  have b11 : ((s.kind : Int) == 11) = true := by simp; omega
  simp -dsimp (disch := first | omega | (apply DrawYes.mk; decide +kernel)) only [go_sem, l1, l2, m1, m2, b3, b4, b8, b16, b1, b9, b10, b7, b11]
  exact ⟨.inr ⟨_, _, rfl⟩, Ext.refl.new.new⟩
 have ht : textsL s = [] := by unfold textsL; simp [e3, e4, e8, e16, e1, e9, e10, e7, e11]
 rw [ht]
 have b3 : ((s.kind : Int) == 3) = false := by simp; omega
 have b4 : ((s.kind : Int) == 4) = false := by simp; omega
 have b8 : ((s.kind : Int) == 8) = false := by simp; omega
 have b16 : ((s.kind : Int) == 16) = false := by simp; omega
 have b1 : ((s.kind : Int) == 1) = false := by simp; omega
 have b9 : ((s.kind : Int) == 9) = false := by simp; omega
 have b10 : ((s.kind : Int) == 10) = false := by simp; omega
 have b7 : ((s.kind : Int) == 7) = false := by simp; omega
 have b11 : ((s.kind : Int) == 11) = false := by simp; omega
 simp -dsimp (disch := first | omega | (apply DrawYes.mk; decide +kernel)) only [go_sem, l1, l2, m1, m2, b3, b4, b8, b16, b1, b9, b10, b7, b11]
 exact ⟨.inl ⟨rfl, rfl⟩, Ext.refl.new⟩
theorem ckonce_ok {H : DH} {p md : Nat} {R : List Stm} {stmv topv lv sv ev : DV} {es : List DV} {labels sets seen : List (List UInt8)} {s : Stm} {d : DV} (h : CkS H p md R stmv topv lv sv ev es labels sets seen) (hd : StmV s d) :
  WC cfg 58 [.ptr p 0, d] H fun v H' => v = .bool (onceB seen s) ∧ Ext H H' := by
 refine WC_of (show Has cfg 58 18 [.tmp 4] _ from ⟨by kernel_rfl, Tryz.f58, Tryz.func58, rfl, rfl, rfl, by kernel_rfl⟩) (by simp) ?_
 obtain ⟨vl, vm, rfl, hl, hmm⟩ := hd
 obtain ⟨l1, l2, _⟩ := hl.facts
 obtain ⟨m1, m2, _⟩ := hmm.facts
 have hm := h.obj
 have hp := h.hp
 have yp : ¬ p = H.next := by omega
 have hse := h.see
 have hel := h.el
 unfold onceB
 by_cases h13 : s.kind = 13
 ·have b1 : ((s.kind : Int) != 13) = false := by simp; omega
  have e1 : decide (s.kind ≠ 13) = false := by simp [h13]
  rw [e1]
  simp -dsimp (disch := first | omega | (apply DrawYes.mk; decide +kernel)) only [go_sem, l1, l2, m1, m2, hm, yp, b1]
  refine call (sCont_ok (by omega) hse) ?_
  rintro _ _ ⟨rfl, rfl⟩
  simp -dsimp (disch := first | omega | (apply DrawYes.mk; decide +kernel)) only [go_sem]
  exact Ext.refl.new
 ·have b1 : ((s.kind : Int) != 13) = true := by simp; omega
  have e1 : decide (s.kind ≠ 13) = true := by simp [h13]
  rw [e1]
  simp -dsimp (disch := first | omega | (apply DrawYes.mk; decide +kernel)) only [go_sem, l1, l2, m1, m2, hm, yp, b1]
  exact Ext.refl.new
theorem ckthere_ok {H : DH} {p md : Nat} {R : List Stm} {stmv topv lv sv ev : DV} {es : List DV} {labels sets seen : List (List UInt8)} {s : Stm} {d : DV} (h : CkS H p md R stmv topv lv sv ev es labels sets seen) (hd : StmV s d) :
  WC cfg 59 [.ptr p 0, d] H fun v H' => v = .bool (thereB labels s) ∧ Ext H H' := by
 refine WC_of (show Has cfg 59 22 [.tmp 4] _ from ⟨by kernel_rfl, Tryz.f59, Tryz.func59, rfl, rfl, rfl, by kernel_rfl⟩) (by simp) ?_
 obtain ⟨vl, vm, rfl, hl, hmm⟩ := hd
 obtain ⟨l1, l2, _⟩ := hl.facts
 obtain ⟨m1, m2, _⟩ := hmm.facts
 have hm := h.obj
 have hp := h.hp
 have yp : ¬ p = H.next := by omega
 have hse := h.lab
 have hel := h.ll
 unfold thereB
 by_cases h14 : s.kind = 14
 ·have b1 : ((s.kind : Int) != 14) = false := by simp; omega
  have e1 : decide (s.kind ≠ 14) = false := by simp [h14]
  rw [e1]
  simp -dsimp (disch := first | omega | (apply DrawYes.mk; decide +kernel)) only [go_sem, l1, l2, m1, m2, hm, yp, b1]
  refine call (sCont_ok (by omega) hse) ?_
  rintro _ _ ⟨rfl, rfl⟩
  simp -dsimp (disch := first | omega | (apply DrawYes.mk; decide +kernel)) only [go_sem]
  exact ⟨by simp, Ext.refl.new⟩
 ·have b1 : ((s.kind : Int) != 14) = true := by simp; omega
  have e1 : decide (s.kind ≠ 14) = true := by simp [h14]
  rw [e1]
  by_cases h15 : s.kind = 15
  ·have b2 : ((s.kind : Int) != 15) = false := by simp; omega
   have e2 : decide (s.kind ≠ 15) = false := by simp [h15]
   rw [e2]
   simp -dsimp (disch := first | omega | (apply DrawYes.mk; decide +kernel)) only [go_sem, l1, l2, m1, m2, hm, yp, b1, b2]
   refine call (sCont_ok (by omega) hse) ?_
   rintro _ _ ⟨rfl, rfl⟩
   simp -dsimp (disch := first | omega | (apply DrawYes.mk; decide +kernel)) only [go_sem]
   exact Ext.refl.new
  ·have b2 : ((s.kind : Int) != 15) = true := by simp; omega
   have e2 : decide (s.kind ≠ 15) = true := by simp [h15]
   rw [e2]
   simp -dsimp (disch := first | omega | (apply DrawYes.mk; decide +kernel)) only [go_sem, l1, l2, m1, m2, hm, yp, b1, b2]
   exact Ext.refl.new
theorem ckcodes_ok {H : DH} {p md : Nat} {R : List Stm} {stmv topv lv sv ev : DV} {es : List DV} {labels sets seen : List (List UInt8)} {s : Stm} {d : DV} (h : CkS H p md R stmv topv lv sv ev es labels sets seen) (hd : StmV s d) (ht : s.t.length < 1000000) (hu : s.u.length < 1000000) :
  WC cfg 57 [.ptr p 0, d] H fun v H' => v = .bool (codesK md s) ∧ Ext H H' := by
 refine WC_of (show Has cfg 57 45 [.tmp 4] _ from ⟨by kernel_rfl, Tryz.f57, Tryz.func57, rfl, rfl, rfl, by kernel_rfl⟩) (by simp) ?_
 obtain ⟨vl, vm, rfl, hl, hmm⟩ := hd
 obtain ⟨l1, l2, _⟩ := hl.facts
 obtain ⟨m1, m2, _⟩ := hmm.facts
 have hm := h.obj
 have hp := h.hp
 have yp : ¬ p = H.next := by omega
 by_cases e2 : s.kind = 2
 ·have hv : codesK md s = codesB md s.t := by unfold codesK; simp [e2]
  rw [hv]
  have b2 : ((s.kind : Int) == 2) = true := by simp; omega
  have b3 : ((s.kind : Int) == 3) = false := by simp; omega
  have b4 : ((s.kind : Int) == 4) = false := by simp; omega
  have b8 : ((s.kind : Int) == 8) = false := by simp; omega
  have b5 : ((s.kind : Int) == 5) = false := by simp; omega
  have b9 : ((s.kind : Int) == 9) = false := by simp; omega
  simp -dsimp (disch := first | omega | (apply DrawYes.mk; decide +kernel)) only [go_sem, l1, l2, m1, m2, hm, yp, b2, b3, b4, b8, b5, b9]
  refine call (lcodes_ok ht) ?_
  rintro _ H2 ⟨rfl, hE2⟩
  simp -dsimp (disch := first | omega | (apply DrawYes.mk; decide +kernel)) only [go_sem]
  exact Ext.refl.new.trans hE2
 by_cases e3 : s.kind = 3
 ·have hv : codesK md s = codesB md s.t := by unfold codesK; simp [e3]
  rw [hv]
  have b2 : ((s.kind : Int) == 2) = false := by simp; omega
  have b3 : ((s.kind : Int) == 3) = true := by simp; omega
  have b4 : ((s.kind : Int) == 4) = false := by simp; omega
  have b8 : ((s.kind : Int) == 8) = false := by simp; omega
  have b5 : ((s.kind : Int) == 5) = false := by simp; omega
  have b9 : ((s.kind : Int) == 9) = false := by simp; omega
  simp -dsimp (disch := first | omega | (apply DrawYes.mk; decide +kernel)) only [go_sem, l1, l2, m1, m2, hm, yp, b2, b3, b4, b8, b5, b9]
  refine call (lcodes_ok ht) ?_
  rintro _ H2 ⟨rfl, hE2⟩
  simp -dsimp (disch := first | omega | (apply DrawYes.mk; decide +kernel)) only [go_sem]
  exact Ext.refl.new.trans hE2
 by_cases e4 : s.kind = 4
 ·have hv : codesK md s = codesB md s.t := by unfold codesK; simp [e4]
  rw [hv]
  have b2 : ((s.kind : Int) == 2) = false := by simp; omega
  have b3 : ((s.kind : Int) == 3) = false := by simp; omega
  have b4 : ((s.kind : Int) == 4) = true := by simp; omega
  have b8 : ((s.kind : Int) == 8) = false := by simp; omega
  have b5 : ((s.kind : Int) == 5) = false := by simp; omega
  have b9 : ((s.kind : Int) == 9) = false := by simp; omega
  simp -dsimp (disch := first | omega | (apply DrawYes.mk; decide +kernel)) only [go_sem, l1, l2, m1, m2, hm, yp, b2, b3, b4, b8, b5, b9]
  refine call (lcodes_ok ht) ?_
  rintro _ H2 ⟨rfl, hE2⟩
  simp -dsimp (disch := first | omega | (apply DrawYes.mk; decide +kernel)) only [go_sem]
  exact Ext.refl.new.trans hE2
 by_cases e8 : s.kind = 8
 ·have hv : codesK md s = codesB md s.t := by unfold codesK; simp [e8]
  rw [hv]
  have b2 : ((s.kind : Int) == 2) = false := by simp; omega
  have b3 : ((s.kind : Int) == 3) = false := by simp; omega
  have b4 : ((s.kind : Int) == 4) = false := by simp; omega
  have b8 : ((s.kind : Int) == 8) = true := by simp; omega
  have b5 : ((s.kind : Int) == 5) = false := by simp; omega
  have b9 : ((s.kind : Int) == 9) = false := by simp; omega
  simp -dsimp (disch := first | omega | (apply DrawYes.mk; decide +kernel)) only [go_sem, l1, l2, m1, m2, hm, yp, b2, b3, b4, b8, b5, b9]
  refine call (lcodes_ok ht) ?_
  rintro _ H2 ⟨rfl, hE2⟩
  simp -dsimp (disch := first | omega | (apply DrawYes.mk; decide +kernel)) only [go_sem]
  exact Ext.refl.new.trans hE2
 by_cases e5 : s.kind = 5
 ·have hv : codesK md s = (decide (s.s ≠ code4) || codesB md s.t) := by unfold codesK; simp [e5]
  rw [hv]
  have b2 : ((s.kind : Int) == 2) = false := by simp; omega
  have b3 : ((s.kind : Int) == 3) = false := by simp; omega
  have b4 : ((s.kind : Int) == 4) = false := by simp; omega
  have b8 : ((s.kind : Int) == 8) = false := by simp; omega
  have b5 : ((s.kind : Int) == 5) = true := by simp; omega
  have b9 : ((s.kind : Int) == 9) = false := by simp; omega
  by_cases hc : s.s = code4
  ·have c1 : (s.s == [99, 111, 100, 101]) = true := by rw [hc]; rfl
   have c2 : decide (s.s ≠ code4) = false := by simp [hc]
   rw [c2, Bool.false_or]
   simp -dsimp (disch := first | omega | (apply DrawYes.mk; decide +kernel)) only [go_sem, l1, l2, m1, m2, hm, yp, b2, b3, b4, b8, b5, b9, c1]
   refine call (lcodes_ok ht) ?_
   rintro _ H2 ⟨rfl, hE2⟩
   simp -dsimp (disch := first | omega | (apply DrawYes.mk; decide +kernel)) only [go_sem]
   exact Ext.refl.new.trans hE2
  ·have c1 : (s.s == [99, 111, 100, 101]) = false := beq_eq_false_iff_ne.2 hc
   have c2 : decide (s.s ≠ code4) = true := by simp [hc]
   rw [c2, Bool.true_or]
   simp -dsimp (disch := first | omega | (apply DrawYes.mk; decide +kernel)) only [go_sem, l1, l2, m1, m2, hm, yp, b2, b3, b4, b8, b5, b9, c1]
   exact Ext.refl.new
 by_cases e9 : s.kind = 9
 ·have hv : codesK md s = codesB md s.u := by unfold codesK; simp [e9]
  rw [hv]
  have b2 : ((s.kind : Int) == 2) = false := by simp; omega
  have b3 : ((s.kind : Int) == 3) = false := by simp; omega
  have b4 : ((s.kind : Int) == 4) = false := by simp; omega
  have b8 : ((s.kind : Int) == 8) = false := by simp; omega
  have b5 : ((s.kind : Int) == 5) = false := by simp; omega
  have b9 : ((s.kind : Int) == 9) = true := by simp; omega
  simp -dsimp (disch := first | omega | (apply DrawYes.mk; decide +kernel)) only [go_sem, l1, l2, m1, m2, hm, yp, b2, b3, b4, b8, b5, b9]
  refine call (lcodes_ok hu) ?_
  rintro _ H2 ⟨rfl, hE2⟩
  simp -dsimp (disch := first | omega | (apply DrawYes.mk; decide +kernel)) only [go_sem]
  exact Ext.refl.new.trans hE2
 have hv : codesK md s = true := by unfold codesK; simp [e2, e3, e4, e8, e5, e9]
 rw [hv]
 have b2 : ((s.kind : Int) == 2) = false := by simp; omega
 have b3 : ((s.kind : Int) == 3) = false := by simp; omega
 have b4 : ((s.kind : Int) == 4) = false := by simp; omega
 have b8 : ((s.kind : Int) == 8) = false := by simp; omega
 have b5 : ((s.kind : Int) == 5) = false := by simp; omega
 have b9 : ((s.kind : Int) == 9) = false := by simp; omega
 simp -dsimp (disch := first | omega | (apply DrawYes.mk; decide +kernel)) only [go_sem, l1, l2, m1, m2, hm, yp, b2, b3, b4, b8, b5, b9]
 exact Ext.refl.new
end Go.Proofs.YtcknfhhbijlobaaGreatDoor.D
