import Derived.Test.YtcknfhhbijlobaaGreatDoorChI
namespace Go.Proofs.YtcknfhhbijlobaaGreatDoor.D
open Go
set_option linter.unusedVariables false
set_option linter.unusedSimpArgs false
set_option maxRecDepth 100000
def plainW : List UInt8 := [112, 108, 97, 105, 110]
def loginW : List UInt8 := [108, 111, 103, 105, 110]
def cramW : List UInt8 := [99, 114, 97, 109]
def apopW : List UInt8 := [97, 112, 111, 112]
def code4 : List UInt8 := [99, 111, 100, 101]
def stm00 : Stm := ⟨0, [], [], [], 0, 0, [], []⟩
def modeB (md : Nat) (R : List Stm) (s : Stm) : Bool :=
 if s.kind = 8 then decide (md ∈ [1]) else if s.kind = 9 then decide (md ∈ [2]) else if s.kind = 10 ∨ s.kind = 11 then decide (md ∈ [3])
 else if s.kind = 7 then (decide (s.s ∈ [plainW, loginW, cramW]) && decide (md ∈ [1, 2])) || (decide (s.s = apopW) && decide (md ∈ [2]))
 else if s.kind = 6 then decide (md ∈ [1, 2]) && !(s.l.any fun n => decide ((R.getD n stm00).kind ≠ 3)) else true
def windowB (s : Stm) : Bool := decide (s.kind ≠ 6) || (decide (1 ≤ s.n) && decide (s.n ≤ 8))
def codesK (md : Nat) (s : Stm) : Bool :=
 if s.kind = 2 ∨ s.kind = 3 ∨ s.kind = 4 ∨ s.kind = 8 then codesB md s.t else if s.kind = 5 then decide (s.s ≠ code4) || codesB md s.t else if s.kind = 9 then codesB md s.u else true
def onceB (seen : List (List UInt8)) (s : Stm) : Bool := decide (s.kind ≠ 13) || !decide (s.s ∈ seen)
def thereB (labels : List (List UInt8)) (s : Stm) : Bool := (decide (s.kind ≠ 14) && decide (s.kind ≠ 15)) || decide (s.s ∈ labels)
def textsL (s : Stm) : List (List UInt8) :=
 if s.kind = 3 ∨ s.kind = 4 ∨ s.kind = 8 ∨ s.kind = 16 then [s.s] else if s.kind = 1 ∨ s.kind = 9 ∨ s.kind = 10 then [s.t] else if s.kind = 7 then [s.t, s.u] else if s.kind = 11 then [s.s, s.t] else []
def namesB (sets : List (List UInt8)) (t : List UInt8) : Bool := match namesL t with
 | none => false
 | some ns => !(ns.any fun n => !decide (n ∈ sets))
def knownB (sets : List (List UInt8)) (s : Stm) : Bool := (textsL s).all (namesB sets)
def errB (md : Nat) (R : List Stm) (labels sets seen : List (List UInt8)) (s : Stm) : Nat :=
 if modeB md R s = false then 30 else if windowB s = false then 1 else if codesK md s = false then 34 else if onceB seen s = false then 31 else if thereB labels s = false then 33 else if knownB sets s = false then 32 else 0
def checkL (md : Nat) (R : List Stm) (labels sets : List (List UInt8)) : List Stm → List (List UInt8) → Nat × Nat
 | [], _ => (0, 0)
 | s :: r, seen => if errB md R labels sets seen s ≠ 0 then (s.at_, errB md R labels sets seen s) else checkL md R labels sets r (if s.kind = 13 then seen ++ [s.s] else seen)
def labelsL (R : List Stm) : List (List UInt8) := (R.filter fun s => decide (s.kind = 13)).map (·.s)
def setsL (R : List Stm) : List (List UInt8) := (R.filter fun s => decide (s.kind = 1 ∨ s.kind = 9 ∨ s.kind = 10)).map (·.s)
def checkP (md : Nat) (R : List Stm) : Nat × Nat := checkL md R (labelsL R) (setsL R) R []
structure CkS (H : DH) (p md : Nat) (R : List Stm) (stmv topv lv sv ev : DV) (es : List DV) (labels sets seen : List (List UInt8)) : Prop where
 hp : p < H.next
 obj : H.m p = some (.cells 85 [.int .i64 md, stmv, topv, lv, sv, ev])
 stm : SlV 8 stmv es
 all : All2 StmV R es
 lab : SlV 1 lv (labels.map .str)
 set : SlV 1 sv (sets.map .str)
 see : SlV 1 ev (seen.map .str)
 ll : labels.length < 1000000
 sl : sets.length < 1000000
 el : seen.length < 1000000
theorem CkS.ext {H H' : DH} {p md : Nat} {R : List Stm} {stmv topv lv sv ev : DV} {es : List DV} {labels sets seen : List (List UInt8)} (h : CkS H p md R stmv topv lv sv ev es labels sets seen) (x : Ext H H') : CkS H' p md R stmv topv lv sv ev es labels sets seen :=
 ⟨Nat.lt_of_lt_of_le h.hp x.le, x.get h.hp h.obj, h.stm, h.all, h.lab, h.set, h.see, h.ll, h.sl, h.el⟩
theorem ckof_ok {H : DH} {p md id off : Nat} {R : List Stm} {stmv topv lv sv ev : DV} {es : List DV} {labels sets seen : List (List UInt8)} {l : List Nat} (h : CkS H p md R stmv topv lv sv ev es labels sets seen) (hl : l.length < 1000000) :
  WC cfg 84 [.ptr p 0, .sl id 1 off (l.map intV)] H fun v H' => v = .bool (decide (md ∈ l)) ∧ H' = H := by
 refine WC_of (show Has cfg 84 12 [.tmp 4] _ from ⟨by kernel_rfl, Tryz.f84, Tryz.func84, rfl, rfl, rfl, by kernel_rfl⟩) (by simp) ?_
 have hm := h.obj
 simp -dsimp (disch := first | omega | (apply DrawYes.mk; decide +kernel)) only [go_sem, hm]
 refine call (iIndex_ok (x := md) (by omega)) ?_
 rintro _ _ ⟨rfl, rfl⟩
 simp -dsimp (disch := first | omega | (apply DrawYes.mk; decide +kernel)) only [go_sem]
theorem ckwindow_ok {H : DH} {p md : Nat} {R : List Stm} {stmv topv lv sv ev : DV} {es : List DV} {labels sets seen : List (List UInt8)} {s : Stm} {d : DV} (h : CkS H p md R stmv topv lv sv ev es labels sets seen) (hd : StmV s d) :
  WC cfg 56 [.ptr p 0, d] H fun v H' => v = .bool (windowB s) ∧ Ext H H' := by
 refine WC_of (show Has cfg 56 18 [.tmp 4] _ from ⟨by kernel_rfl, Tryz.f56, Tryz.func56, rfl, rfl, rfl, by kernel_rfl⟩) (by simp) ?_
 obtain ⟨vl, vm, rfl, hl, hm⟩ := hd
 obtain ⟨l1, l2, _⟩ := hl.facts
 obtain ⟨m1, m2, _⟩ := hm.facts
 unfold windowB
 by_cases h6 : s.kind = 6
 ·have b1 : ((s.kind : Int) != 6) = false := by simp; omega
  have e1 : decide (s.kind ≠ 6) = false := by simp [h6]
  rw [e1]
  by_cases h1 : 1 ≤ s.n
  ·have i1 : (1 : Int) ≤ s.n := by omega
   rw [decide_eq_true h1]
   simp -dsimp (disch := first | omega | (apply DrawYes.mk; decide +kernel)) only [go_sem, l1, l2, m1, m2, b1, i1]
   refine ⟨?_, Ext.refl.new⟩
   congr 1
   rw [Bool.eq_iff_iff]; simp
   omega
  ·have i1 : ¬ (1 : Int) ≤ s.n := by omega
   rw [decide_eq_false h1]
   simp -dsimp (disch := first | omega | (apply DrawYes.mk; decide +kernel)) only [go_sem, l1, l2, m1, m2, b1, i1]
   exact ⟨rfl, Ext.refl.new⟩
 ·have b1 : ((s.kind : Int) != 6) = true := by simp; omega
  have e1 : decide (s.kind ≠ 6) = true := by simp [h6]
  rw [e1]
  simp -dsimp (disch := first | omega | (apply DrawYes.mk; decide +kernel)) only [go_sem, l1, l2, m1, m2, b1]
  exact Ext.refl.new
end Go.Proofs.YtcknfhhbijlobaaGreatDoor.D
