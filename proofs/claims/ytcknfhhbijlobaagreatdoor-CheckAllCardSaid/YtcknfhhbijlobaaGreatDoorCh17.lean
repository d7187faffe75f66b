import Derived.Test.YtcknfhhbijlobaaGreatDoorCh16
namespace Go.Proofs.YtcknfhhbijlobaaGreatDoor.D
open Go
set_option linter.unusedVariables false
set_option linter.unusedSimpArgs false
set_option maxRecDepth 100000
theorem rmode17_ok {md : Nat} {R : List Stm} {top : List Nat} {stmv topv d : DV} {s : Stm} {H : DH} (hP : PrgV R top stmv topv) (hd : StmV s d) (hmd : md = 1 ∨ md = 2 ∨ md = 3) (hsl : ∀ n ∈ s.l, n < R.length) (hsl2 : s.l.length < 1000000) :
  WC cfg 92 [.agg [.int .i64 md, stmv, topv], d] H fun v H' => v = .bool (modeB md R s) ∧ Ext H H' := by
 refine WC_of (show Has cfg 92 77 [.tmp 4] _ from ⟨by kernel_rfl, Tryz.f92, Tryz.func92, rfl, rfl, rfl, by kernel_rfl⟩) (by simp) ?_
 obtain ⟨vl, vm, rfl, hl, hmm⟩ := hd
 obtain ⟨l1, l2, l3⟩ := hl.facts
 obtain ⟨m1, m2, _⟩ := hmm.facts
 obtain ⟨a1, a2, a3⟩ := hP.two
 have y1 : ¬ H.next = H.next + 1 := by omega
 have y2 : ¬ H.next + 1 = H.next := by omega
 have hx : ∀ o o', Ext H ((H.new o).new o') := fun o o' => Ext.refl.new.new
 by_cases e8 : s.kind = 8
 ·have b8 : ((s.kind : Int) == 8) = true := by simp; omega
  have hv : modeB md R s = ((md : Int) == 1) := by unfold modeB; rw [if_pos e8, Bool.eq_iff_iff]; simp; omega
  rw [hv]
  simp -dsimp (disch := first | omega | (apply DrawYes.mk; decide +kernel)) only [go_sem, l1, l2, m1, m2, a1, a2, y1, y2, b8]
  exact hx _ _
 have b8 : ((s.kind : Int) == 8) = false := by simp; omega
 by_cases e9 : s.kind = 9
 ·have b9 : ((s.kind : Int) == 9) = true := by simp; omega
  have hv : modeB md R s = ((md : Int) == 2) := by unfold modeB; rw [if_neg e8, if_pos e9, Bool.eq_iff_iff]; simp; omega
  rw [hv]
  simp -dsimp (disch := first | omega | (apply DrawYes.mk; decide +kernel)) only [go_sem, l1, l2, m1, m2, a1, a2, y1, y2, b8, b9]
  exact hx _ _
 have b9 : ((s.kind : Int) == 9) = false := by simp; omega
 by_cases e1 : s.kind = 10 ∨ s.kind = 11
 ·have hv : modeB md R s = ((md : Int) == 3) := by unfold modeB; rw [if_neg e8, if_neg e9, if_pos e1, Bool.eq_iff_iff]; simp; omega
  rw [hv]
  by_cases e10 : s.kind = 10
  ·have b10 : ((s.kind : Int) == 10) = true := by simp; omega
   simp -dsimp (disch := first | omega | (apply DrawYes.mk; decide +kernel)) only [go_sem, l1, l2, m1, m2, a1, a2, y1, y2, b8, b9, b10]
   exact hx _ _
  ·have b10 : ((s.kind : Int) == 10) = false := by simp; omega
   have b11 : ((s.kind : Int) == 11) = true := by simp; omega
   simp -dsimp (disch := first | omega | (apply DrawYes.mk; decide +kernel)) only [go_sem, l1, l2, m1, m2, a1, a2, y1, y2, b8, b9, b10, b11]
   exact hx _ _
 have b10 : ((s.kind : Int) == 10) = false := by simp; omega
 have b11 : ((s.kind : Int) == 11) = false := by simp; omega
 by_cases e7 : s.kind = 7
 ·have b7 : ((s.kind : Int) == 7) = true := by simp; omega
  have hv : modeB md R s = ((decide (s.s ∈ [plainW, loginW, cramW]) && decide (md ∈ [1, 2])) || (decide (s.s = apopW) && decide (md ∈ [2]))) := by unfold modeB; rw [if_neg e8, if_neg e9, if_neg e1, if_pos e7]
  rw [hv]
  by_cases h3 : md = 3
  ·subst h3
   have c3 : (((3 : Nat) : Int) != 3) = false := by simp
   simp -dsimp (disch := first | omega | (apply DrawYes.mk; decide +kernel)) only [go_sem, l1, l2, m1, m2, a1, a2, y1, y2, b8, b9, b10, b11, b7, c3]
   exact ⟨by simp, hx _ _⟩
  ·have c3 : ((md : Int) != 3) = true := by simp; omega
   have c12 : decide (md ∈ [1, 2]) = true := by simp; omega
   rw [c12]
   by_cases p1 : s.s = plainW
   ·have q1 : (s.s == [112, 108, 97, 105, 110]) = true := beq_iff_eq.2 p1
    rw [decide_eq_true (show s.s ∈ [plainW, loginW, cramW] by simp [p1])]
    simp -dsimp (disch := first | omega | (apply DrawYes.mk; decide +kernel)) only [go_sem, l1, l2, m1, m2, a1, a2, y1, y2, b8, b9, b10, b11, b7, c3, q1]
    exact hx _ _
   have q1 : (s.s == [112, 108, 97, 105, 110]) = false := beq_eq_false_iff_ne.2 p1
   by_cases p2 : s.s = loginW
   ·have q2 : (s.s == [108, 111, 103, 105, 110]) = true := beq_iff_eq.2 p2
    rw [decide_eq_true (show s.s ∈ [plainW, loginW, cramW] by simp [p2])]
    simp -dsimp (disch := first | omega | (apply DrawYes.mk; decide +kernel)) only [go_sem, l1, l2, m1, m2, a1, a2, y1, y2, b8, b9, b10, b11, b7, c3, q1, q2]
    exact hx _ _
   have q2 : (s.s == [108, 111, 103, 105, 110]) = false := beq_eq_false_iff_ne.2 p2
   by_cases p3 : s.s = cramW
   ·have q3 : (s.s == [99, 114, 97, 109]) = true := beq_iff_eq.2 p3
    rw [decide_eq_true (show s.s ∈ [plainW, loginW, cramW] by simp [p3])]
    simp -dsimp (disch := first | omega | (apply DrawYes.mk; decide +kernel)) only [go_sem, l1, l2, m1, m2, a1, a2, y1, y2, b8, b9, b10, b11, b7, c3, q1, q2, q3]
    exact hx _ _
   have q3 : (s.s == [99, 114, 97, 109]) = false := beq_eq_false_iff_ne.2 p3
   rw [decide_eq_false (show s.s ∉ [plainW, loginW, cramW] by simp [p1, p2, p3])]
   by_cases p4 : s.s = apopW
   ·have q4 : (s.s == [97, 112, 111, 112]) = true := beq_iff_eq.2 p4
    have c2 : decide (md ∈ [2]) = ((md : Int) == 2) := by rw [Bool.eq_iff_iff]; simp; omega
    rw [decide_eq_true p4, c2]
    simp -dsimp (disch := first | omega | (apply DrawYes.mk; decide +kernel)) only [go_sem, l1, l2, m1, m2, a1, a2, y1, y2, b8, b9, b10, b11, b7, c3, q1, q2, q3, q4]
    exact hx _ _
   have q4 : (s.s == [97, 112, 111, 112]) = false := beq_eq_false_iff_ne.2 p4
   rw [decide_eq_false p4]
   simp -dsimp (disch := first | omega | (apply DrawYes.mk; decide +kernel)) only [go_sem, l1, l2, m1, m2, a1, a2, y1, y2, b8, b9, b10, b11, b7, c3, q1, q2, q3, q4]
   exact ⟨by simp, hx _ _⟩
 have b7 : ((s.kind : Int) == 7) = false := by simp; omega
 by_cases e6 : s.kind = 6
 ·have b6 : ((s.kind : Int) == 6) = true := by simp; omega
  have hv : modeB md R s = (decide (md ∈ [1, 2]) && !(s.l.any fun n => decide ((R.getD n stm00).kind ≠ 3))) := by unfold modeB; rw [if_neg e8, if_neg e9, if_neg e1, if_neg e7, if_pos e6]
  have hm3 : decide (md ∈ [1, 2]) = ((md : Int) != 3) := by rw [Bool.eq_iff_iff]; simp; omega
  rw [hv, hm3]
  simp -dsimp (disch := first | omega | (apply DrawYes.mk; decide +kernel)) only [go_sem, l1, l2, m1, m2, a1, a2, y1, y2, b8, b9, b10, b11, b7, b6]
  refine Y_loop (α := Nat) (fun k σ H' => Ext H H' ∧ H'.m H.next = some (.cells 27 [.int .i64 md, stmv, topv]) ∧ H'.m (H.next + 1) = some (.cells 40 [.int .i64 s.kind, .str s.s, .str s.t, .str s.u, .int .i64 s.n, .int .i64 s.at_, vl, vm]) ∧ k ≤ s.l.length ∧ (∀ n ∈ s.l.take k, (R.getD n stm00).kind = 3) ∧ σ 2 = .ptr H.next 0 ∧ σ 3 = .ptr (H.next + 1) 0 ∧ σ 5 = .int .i64 k) (fun k => s.l.length - k) 0 ?_ ?_
  ·simp -dsimp (disch := first | omega | (apply DrawYes.mk; decide +kernel)) only [go_sem, y1, y2]
   exact ⟨hx _ _, Nat.zero_le _, by simp⟩
  rintro k σ H2 ⟨hE, hm0, hm1, hk, hall, s2, s3, s5⟩
  by_cases hlt : k < s.l.length
  ·have i0 : (k : Int) < s.l.length := by omega
   obtain ⟨lid, loff, rfl⟩ : ∃ id off, vl = .sl id 1 off (s.l.map intV) := by
    rcases hl with ⟨_, h⟩ | h
    ·rw [h] at hlt; simp at hlt
    ·exact h
   have hgl : s.l[k]? = some s.l[k] := List.getElem?_eq_getElem hlt
   have hmem : s.l[k] ∈ s.l := List.getElem_mem hlt
   have htk : s.l.take (k + 1) = s.l.take k ++ [s.l[k]] := by rw [List.take_add_one, hgl]; rfl
   generalize s.l[k] = n at hgl hmem htk
   have hgm : (s.l.map intV)[k]? = some (.int .i64 n) := by rw [List.getElem?_map, hgl]; rfl
   have hn := hsl n hmem
   have hg : R[n]? = some (R.getD n stm00) := by rw [List.getElem?_eq_getElem hn, List.getD, List.getElem?_eq_getElem hn]; rfl
   obtain ⟨⟨es, hes, hal⟩, htop⟩ := hP
   obtain ⟨d, hgd, vl', vm', rfl, hl', hmm'⟩ := hal.get hg
   obtain ⟨id, off, rfl⟩ : ∃ id off, stmv = .sl id 8 off es := by
    rcases hes with ⟨_, h⟩ | h
    ·rw [h] at hgd; simp at hgd
    ·exact h
   obtain ⟨l1', l2', _⟩ := hl'.facts
   obtain ⟨m1', m2', _⟩ := hmm'.facts
   by_cases hk3 : (R.getD n stm00).kind = 3
   ·have b3 : (((R.getD n stm00).kind : Int) != 3) = false := by rw [hk3]; rfl
    simp -dsimp (disch := first | omega | (apply DrawYes.mk; decide +kernel)) only [go_sem, s2, s3, s5, hm0, hm1, l1, l2, l3, m1, m2, a1, a2, i0, hgm, hgd, l1', l2', m1', m2', b3]
    repeat refine And.intro (by omega) ?_
    refine ⟨k + 1, ⟨hE, by omega, ?_, rfl⟩, by omega⟩
    intro x hx
    rw [htk, List.mem_append] at hx
    rcases hx with hx | hx
    ·exact hall x hx
    ·simp only [List.mem_singleton] at hx; subst hx; exact hk3
   ·have b3 : (((R.getD n stm00).kind : Int) != 3) = true := bne_iff_ne.2 (by omega)
    simp -dsimp (disch := first | omega | (apply DrawYes.mk; decide +kernel)) only [go_sem, s2, s3, s5, hm0, hm1, l1, l2, l3, m1, m2, a1, a2, i0, hgm, hgd, l1', l2', m1', m2', b3]
    repeat refine And.intro (by omega) ?_
    have : s.l.any (fun n => decide ((R.getD n stm00).kind ≠ 3)) = true := List.any_eq_true.2 ⟨n, hmem, by simpa using hk3⟩
    rw [this]
    exact ⟨by simp, hE⟩
  ·have i0 : ¬ (k : Int) < s.l.length := by omega
   rw [List.take_of_length_le (by omega)] at hall
   have : s.l.any (fun n => decide ((R.getD n stm00).kind ≠ 3)) = false := by
    rw [List.any_eq_false]; intro x hx; simpa using hall x hx
   rw [this]
   simp -dsimp (disch := first | omega | (apply DrawYes.mk; decide +kernel)) only [go_sem, s2, s3, s5, hm0, hm1, l1, l2, l3, m1, m2, a1, a2, i0]
   exact hE
 have b6 : ((s.kind : Int) == 6) = false := by simp; omega
 have hv : modeB md R s = true := by unfold modeB; rw [if_neg e8, if_neg e9, if_neg e1, if_neg e7, if_neg e6]
 rw [hv]
 simp -dsimp (disch := first | omega | (apply DrawYes.mk; decide +kernel)) only [go_sem, l1, l2, m1, m2, a1, a2, y1, y2, b8, b9, b10, b11, b7, b6]
 exact hx _ _
end Go.Proofs.YtcknfhhbijlobaaGreatDoor.D
