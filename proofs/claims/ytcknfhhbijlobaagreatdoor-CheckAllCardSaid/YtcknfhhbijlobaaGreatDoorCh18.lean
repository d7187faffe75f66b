import Derived.Test.YtcknfhhbijlobaaGreatDoorCh17
import Derived.Test.YtcknfhhbijlobaaGreatDoorChN
namespace Go.Proofs.YtcknfhhbijlobaaGreatDoor.D
open Go
set_option linter.unusedVariables false
set_option linter.unusedSimpArgs false
set_option maxRecDepth 100000
def codesR (s : Stm) : List UInt8 × Bool :=
 if s.kind = 2 ∨ s.kind = 3 ∨ s.kind = 4 ∨ s.kind = 8 then (s.t, true) else if s.kind = 5 then (s.t, decide (s.s = code4)) else if s.kind = 9 then (s.u, true) else ([], false)
theorem codesR_ok {md : Nat} {s : Stm} : codesK md s = !((codesR s).2 && !codesB md (codesR s).1) := by
 unfold codesK codesR
 by_cases h1 : s.kind = 2 ∨ s.kind = 3 ∨ s.kind = 4 ∨ s.kind = 8
 ·rw [if_pos h1, if_pos h1]; simp
 ·rw [if_neg h1, if_neg h1]
  by_cases h5 : s.kind = 5
  ·rw [if_pos h5, if_pos h5]
   by_cases h : s.s = code4 <;> simp [h]
  ·rw [if_neg h5, if_neg h5]
   by_cases h9 : s.kind = 9
   ·rw [if_pos h9, if_pos h9]; simp
   ·rw [if_neg h9, if_neg h9]; simp
theorem rcodes17_ok {d : DV} {s : Stm} {H : DH} (hd : StmV s d) : WC cfg 93 [d] H fun v H' => v = .tup [.str (codesR s).1, .bool (codesR s).2] ∧ Ext H H' := by
 refine WC_of (show Has cfg 93 24 [.tmp 2, .tmp 3] _ from ⟨by kernel_rfl, Tryz.f93, Tryz.func93, rfl, rfl, rfl, by kernel_rfl⟩) (by simp) ?_
 obtain ⟨vl, vm, rfl, hl, hmm⟩ := hd
 obtain ⟨l1, l2, l3⟩ := hl.facts
 obtain ⟨m1, m2, _⟩ := hmm.facts
 have hx : ∀ o, Ext H (H.new o) := fun o => Ext.refl.new
 by_cases h1 : s.kind = 2 ∨ s.kind = 3 ∨ s.kind = 4 ∨ s.kind = 8
 ·have hv : codesR s = (s.t, true) := if_pos h1
  rw [hv]
  by_cases h2 : s.kind = 2
  ·have b2 : ((s.kind : Int) == 2) = true := by simp; omega
   simp -dsimp (disch := first | omega | (apply DrawYes.mk; decide +kernel)) only [go_sem, l1, l2, m1, m2, b2]
   exact hx _
  have b2 : ((s.kind : Int) == 2) = false := by simp; omega
  by_cases h3 : s.kind = 3
  ·have b3 : ((s.kind : Int) == 3) = true := by simp; omega
   simp -dsimp (disch := first | omega | (apply DrawYes.mk; decide +kernel)) only [go_sem, l1, l2, m1, m2, b2, b3]
   exact hx _
  have b3 : ((s.kind : Int) == 3) = false := by simp; omega
  by_cases h4 : s.kind = 4
  ·have b4 : ((s.kind : Int) == 4) = true := by simp; omega
   simp -dsimp (disch := first | omega | (apply DrawYes.mk; decide +kernel)) only [go_sem, l1, l2, m1, m2, b2, b3, b4]
   exact hx _
  have b4 : ((s.kind : Int) == 4) = false := by simp; omega
  have b8 : ((s.kind : Int) == 8) = true := by simp; omega
  simp -dsimp (disch := first | omega | (apply DrawYes.mk; decide +kernel)) only [go_sem, l1, l2, m1, m2, b2, b3, b4, b8]
  exact hx _
 have b2 : ((s.kind : Int) == 2) = false := by simp; omega
 have b3 : ((s.kind : Int) == 3) = false := by simp; omega
 have b4 : ((s.kind : Int) == 4) = false := by simp; omega
 have b8 : ((s.kind : Int) == 8) = false := by simp; omega
 by_cases h5 : s.kind = 5
 ·have b5 : ((s.kind : Int) == 5) = true := by simp; omega
  have hv : codesR s = (s.t, decide (s.s = code4)) := by unfold codesR; rw [if_neg h1, if_pos h5]
  have hc : decide (s.s = code4) = (s.s == [99, 111, 100, 101]) := by rw [Bool.eq_iff_iff, beq_iff_eq, decide_eq_true_eq]; rfl
  rw [hv, hc]
  simp -dsimp (disch := first | omega | (apply DrawYes.mk; decide +kernel)) only [go_sem, l1, l2, m1, m2, b2, b3, b4, b8, b5]
  exact hx _
 have b5 : ((s.kind : Int) == 5) = false := by simp; omega
 by_cases h9 : s.kind = 9
 ·have b9 : ((s.kind : Int) == 9) = true := by simp; omega
  have hv : codesR s = (s.u, true) := by unfold codesR; rw [if_neg h1, if_neg h5, if_pos h9]
  rw [hv]
  simp -dsimp (disch := first | omega | (apply DrawYes.mk; decide +kernel)) only [go_sem, l1, l2, m1, m2, b2, b3, b4, b8, b5, b9]
  exact hx _
 have b9 : ((s.kind : Int) == 9) = false := by simp; omega
 have hv : codesR s = ([], false) := by unfold codesR; rw [if_neg h1, if_neg h5, if_neg h9]
 rw [hv]
 simp -dsimp (disch := first | omega | (apply DrawYes.mk; decide +kernel)) only [go_sem, l1, l2, m1, m2, b2, b3, b4, b8, b5, b9]
 exact hx _
theorem rtexts17_ok {d : DV} {s : Stm} {H : DH} (hd : StmV s d) : WC cfg 120 [d] H fun v H' => SlV 1 v ((textsL s).map .str) ∧ Ext H H' := by
 refine WC_of (show Has cfg 120 34 [.tmp 2] _ from ⟨by kernel_rfl, Tryz.f120, Tryz.func120, rfl, rfl, rfl, by kernel_rfl⟩) (by simp) ?_
 obtain ⟨vl, vm, rfl, hl, hmm⟩ := hd
 obtain ⟨l1, l2, l3⟩ := hl.facts
 obtain ⟨m1, m2, _⟩ := hmm.facts
 have hx : ∀ o o', Ext H ((H.new o).new o') := fun o o' => Ext.refl.new.new
 by_cases h1 : s.kind = 3 ∨ s.kind = 4 ∨ s.kind = 8 ∨ s.kind = 16
 ·have hv : textsL s = [s.s] := if_pos h1
  rw [hv]
  by_cases h3 : s.kind = 3
  ·have b3 : ((s.kind : Int) == 3) = true := by simp; omega
   simp -dsimp (disch := first | omega | (apply DrawYes.mk; decide +kernel)) only [go_sem, l1, l2, m1, m2, b3]
   exact ⟨.inr ⟨_, _, rfl⟩, hx _ _⟩
  have b3 : ((s.kind : Int) == 3) = false := by simp; omega
  by_cases h4 : s.kind = 4
  ·have b4 : ((s.kind : Int) == 4) = true := by simp; omega
   simp -dsimp (disch := first | omega | (apply DrawYes.mk; decide +kernel)) only [go_sem, l1, l2, m1, m2, b3, b4]
   exact ⟨.inr ⟨_, _, rfl⟩, hx _ _⟩
  have b4 : ((s.kind : Int) == 4) = false := by simp; omega
  by_cases h8 : s.kind = 8
  ·have b8 : ((s.kind : Int) == 8) = true := by simp; omega
   simp -dsimp (disch := first | omega | (apply DrawYes.mk; decide +kernel)) only [go_sem, l1, l2, m1, m2, b3, b4, b8]
   exact ⟨.inr ⟨_, _, rfl⟩, hx _ _⟩
  have b8 : ((s.kind : Int) == 8) = false := by simp; omega
  have b16 : ((s.kind : Int) == 16) = true := by simp; omega
  simp -dsimp (disch := first | omega | (apply DrawYes.mk; decide +kernel)) only [go_sem, l1, l2, m1, m2, b3, b4, b8, b16]
  exact ⟨.inr ⟨_, _, rfl⟩, hx _ _⟩
 have b3 : ((s.kind : Int) == 3) = false := by simp; omega
 have b4 : ((s.kind : Int) == 4) = false := by simp; omega
 have b8 : ((s.kind : Int) == 8) = false := by simp; omega
 have b16 : ((s.kind : Int) == 16) = false := by simp; omega
 by_cases h2 : s.kind = 1 ∨ s.kind = 9 ∨ s.kind = 10
 ·have hv : textsL s = [s.t] := by unfold textsL; rw [if_neg h1, if_pos h2]
  rw [hv]
  by_cases e1 : s.kind = 1
  ·have b1 : ((s.kind : Int) == 1) = true := by simp; omega
   simp -dsimp (disch := first | omega | (apply DrawYes.mk; decide +kernel)) only [go_sem, l1, l2, m1, m2, b3, b4, b8, b16, b1]
   exact ⟨.inr ⟨_, _, rfl⟩, hx _ _⟩
  have b1 : ((s.kind : Int) == 1) = false := by simp; omega
  by_cases e9 : s.kind = 9
  ·have b9 : ((s.kind : Int) == 9) = true := by simp; omega
   simp -dsimp (disch := first | omega | (apply DrawYes.mk; decide +kernel)) only [go_sem, l1, l2, m1, m2, b3, b4, b8, b16, b1, b9]
   exact ⟨.inr ⟨_, _, rfl⟩, hx _ _⟩
  have b9 : ((s.kind : Int) == 9) = false := by simp; omega
  have b10 : ((s.kind : Int) == 10) = true := by simp; omega
  simp -dsimp (disch := first | omega | (apply DrawYes.mk; decide +kernel)) only [go_sem, l1, l2, m1, m2, b3, b4, b8, b16, b1, b9, b10]
  exact ⟨.inr ⟨_, _, rfl⟩, hx _ _⟩
 have b1 : ((s.kind : Int) == 1) = false := by simp; omega
 have b9 : ((s.kind : Int) == 9) = false := by simp; omega
 have b10 : ((s.kind : Int) == 10) = false := by simp; omega
 by_cases h7 : s.kind = 7
 ·have b7 : ((s.kind : Int) == 7) = true := by simp; omega
  have hv : textsL s = [s.t, s.u] := by unfold textsL; rw [if_neg h1, if_neg h2, if_pos h7]
  rw [hv]
  simp -dsimp (disch := first | omega | (apply DrawYes.mk; decide +kernel)) only [go_sem, l1, l2, m1, m2, b3, b4, b8, b16, b1, b9, b10, b7]
  exact ⟨.inr ⟨_, _, rfl⟩, hx _ _⟩
 have b7 : ((s.kind : Int) == 7) = false := by simp; omega
 by_cases h11 : s.kind = 11
 ·have b11 : ((s.kind : Int) == 11) = true := by simp; omega
  have hv : textsL s = [s.s, s.t] := by unfold textsL; rw [if_neg h1, if_neg h2, if_neg h7, if_pos h11]
  rw [hv]
  simp -dsimp (disch := first | omega | (apply DrawYes.mk; decide +kernel)) only [go_sem, l1, l2, m1, m2, b3, b4, b8, b16, b1, b9, b10, b7, b11]
  exact ⟨.inr ⟨_, _, rfl⟩, hx _ _⟩
 have b11 : ((s.kind : Int) == 11) = false := by simp; omega
 have hv : textsL s = [] := by unfold textsL; rw [if_neg h1, if_neg h2, if_neg h7, if_neg h11]
 rw [hv]
 simp -dsimp (disch := first | omega | (apply DrawYes.mk; decide +kernel)) only [go_sem, l1, l2, m1, m2, b3, b4, b8, b16, b1, b9, b10, b7, b11]
 exact ⟨.inl ⟨rfl, rfl⟩, Ext.refl.new⟩
def hasL (lab : Bool) (R : List Stm) : List (List UInt8) := if lab then labelsL R else setsL R
def isK (lab : Bool) (s : Stm) : Bool := if lab then decide (s.kind = 13) else decide (s.kind = 1 ∨ s.kind = 9 ∨ s.kind = 10)
theorem hasL_add {lab : Bool} {l : List Stm} {s : Stm} : hasL lab (l ++ [s]) = if isK lab s then hasL lab l ++ [s.s] else hasL lab l := by
 unfold hasL isK
 cases lab
 ·simp only [Bool.false_eq_true, if_false, setsL_add, decide_eq_true_eq]
 ·simp only [if_true, labelsL_add, decide_eq_true_eq]
theorem rhas17_ok {md many : Nat} {R : List Stm} {top : List Nat} {stmv topv : DV} {nm : List UInt8} {lab : Bool} {H : DH} (hP : PrgV R top stmv topv) (hm : many ≤ R.length) (hRl : R.length < 1000000) :
  WC cfg 94 [.agg [.int .i64 md, stmv, topv], .int .i64 many, .str nm, .bool lab] H fun v H' => v = .bool (decide (nm ∈ hasL lab (R.take many))) ∧ Ext H H' := by
 refine WC_of (show Has cfg 94 55 [.tmp 8] _ from ⟨by kernel_rfl, Tryz.f94, Tryz.func94, rfl, rfl, rfl, by kernel_rfl⟩) (by simp) ?_
 obtain ⟨a1, a2, a3⟩ := hP.two
 simp -dsimp (disch := first | omega | (apply DrawYes.mk; decide +kernel)) only [go_sem, a1, a2]
 refine Y_loop (α := Nat) (fun k σ H' => Ext H H' ∧ H'.m H.next = some (.cells 27 [.int .i64 md, stmv, topv]) ∧ k ≤ many ∧ nm ∉ hasL lab (R.take k) ∧ σ 1 = .int .i64 many ∧ σ 2 = .str nm ∧ σ 3 = .bool lab ∧ σ 4 = .ptr H.next 0 ∧ σ 9 = .int .i64 k) (fun k => many - k) 0 ?_ ?_
 ·simp -dsimp (disch := first | omega | (apply DrawYes.mk; decide +kernel)) only [go_sem]
  exact ⟨Ext.refl.new, Nat.zero_le _, by cases lab <;> simp [hasL, labelsL, setsL]⟩
 rintro k σ H2 ⟨hE, hmm, hk, hno, s1, s2, s3, s4, s9⟩
 by_cases hlt : k < many
 ·have i0 : (k : Int) < many := by omega
  have hgR : R[k]? = some R[k] := List.getElem?_eq_getElem (by omega)
  have htk : R.take (k + 1) = R.take k ++ [R[k]] := by rw [List.take_add_one, hgR]; rfl
  generalize R[k] = st at hgR htk
  obtain ⟨⟨es, hes, hall⟩, htop⟩ := hP
  obtain ⟨d, hgd, vl, vm, rfl, hvl, hvm⟩ := hall.get hgR
  obtain ⟨l1, l2, _⟩ := hvl.facts
  obtain ⟨m1, m2, _⟩ := hvm.facts
  obtain ⟨eid, eoff, rfl⟩ : ∃ id off, stmv = .sl id 8 off es := by
   rcases hes with ⟨_, h⟩ | h
   ·rw [h] at hgd; simp at hgd
   ·exact h
  have hadd := hasL_add (lab := lab) (l := R.take k) (s := st)
  rw [← htk] at hadd
  have hin : isK lab st = true → st.s = nm → nm ∈ hasL lab (R.take many) := by
   intro h1 h2
   rw [if_pos h1, h2] at hadd
   have h3 : nm ∈ hasL lab (R.take (k + 1)) := by rw [hadd]; simp
   have h4 : R.take many = R.take (k + 1) ++ (R.drop (k + 1)).take (many - (k + 1)) := by
    rw [show many = (k + 1) + (many - (k + 1)) by omega, List.take_add]; simp
   rw [h4]
   unfold hasL labelsL setsL at h3 ⊢
   cases lab
   ·simp only [Bool.false_eq_true, if_false] at h3 ⊢; rw [List.filter_append, List.map_append]; exact List.mem_append_left _ h3
   ·simp only [if_true] at h3 ⊢; rw [List.filter_append, List.map_append]; exact List.mem_append_left _ h3
  have hnot : isK lab st = false ∨ st.s ≠ nm → nm ∉ hasL lab (R.take (k + 1)) := by
   intro h
   rw [hadd]
   split
   ·rename_i h1
    rcases h with h | h
    ·rw [h] at h1; cases h1
    ·rw [List.mem_append]
     rintro (h2 | h2)
     ·exact hno h2
     ·simp at h2; exact h h2.symm
   ·exact hno
  clear hadd htk
  cases lab with
  | true =>
   by_cases h13 : st.kind = 13
   ·have b13 : ((st.kind : Int) == 13) = true := by simp; omega
    have hK : isK true st = true := decide_eq_true h13
    by_cases hn : st.s = nm
    ·have q1 : (st.s == nm) = true := beq_iff_eq.2 hn
     simp -dsimp (disch := first | omega | (apply DrawYes.mk; decide +kernel)) only [go_sem, s1, s2, s3, s4, s9, hmm, i0, hgd, a1, a2, l1, l2, m1, m2, b13, q1]
     repeat refine And.intro (by omega) ?_
     rw [decide_eq_true (hin hK hn)]
     exact ⟨rfl, hE⟩
    ·have q1 : (st.s == nm) = false := beq_eq_false_iff_ne.2 hn
     simp -dsimp (disch := first | omega | (apply DrawYes.mk; decide +kernel)) only [go_sem, s1, s2, s3, s4, s9, hmm, i0, hgd, a1, a2, l1, l2, m1, m2, b13, q1]
     repeat refine And.intro (by omega) ?_
     exact ⟨k + 1, ⟨hE, by omega, hnot (.inr hn), rfl⟩, by omega⟩
   ·have b13 : ((st.kind : Int) == 13) = false := by simp; omega
    have hK : isK true st = false := decide_eq_false h13
    simp -dsimp (disch := first | omega | (apply DrawYes.mk; decide +kernel)) only [go_sem, s1, s2, s3, s4, s9, hmm, i0, hgd, a1, a2, l1, l2, m1, m2, b13]
    repeat refine And.intro (by omega) ?_
    exact ⟨k + 1, ⟨hE, by omega, hnot (.inl hK), rfl⟩, by omega⟩
  | false =>
   by_cases h1 : st.kind = 1
   ·have b1 : ((st.kind : Int) == 1) = true := by simp; omega
    have hK : isK false st = true := decide_eq_true (by omega)
    by_cases hn : st.s = nm
    ·have q1 : (st.s == nm) = true := beq_iff_eq.2 hn
     simp -dsimp (disch := first | omega | (apply DrawYes.mk; decide +kernel)) only [go_sem, s1, s2, s3, s4, s9, hmm, i0, hgd, a1, a2, l1, l2, m1, m2, b1, q1]
     repeat refine And.intro (by omega) ?_
     rw [decide_eq_true (hin hK hn)]
     exact ⟨rfl, hE⟩
    ·have q1 : (st.s == nm) = false := beq_eq_false_iff_ne.2 hn
     simp -dsimp (disch := first | omega | (apply DrawYes.mk; decide +kernel)) only [go_sem, s1, s2, s3, s4, s9, hmm, i0, hgd, a1, a2, l1, l2, m1, m2, b1, q1]
     repeat refine And.intro (by omega) ?_
     exact ⟨k + 1, ⟨hE, by omega, hnot (.inr hn), rfl⟩, by omega⟩
   have b1 : ((st.kind : Int) == 1) = false := by simp; omega
   by_cases h9 : st.kind = 9
   ·have b9 : ((st.kind : Int) == 9) = true := by simp; omega
    have hK : isK false st = true := decide_eq_true (by omega)
    by_cases hn : st.s = nm
    ·have q1 : (st.s == nm) = true := beq_iff_eq.2 hn
     simp -dsimp (disch := first | omega | (apply DrawYes.mk; decide +kernel)) only [go_sem, s1, s2, s3, s4, s9, hmm, i0, hgd, a1, a2, l1, l2, m1, m2, b1, b9, q1]
     repeat refine And.intro (by omega) ?_
     rw [decide_eq_true (hin hK hn)]
     exact ⟨rfl, hE⟩
    ·have q1 : (st.s == nm) = false := beq_eq_false_iff_ne.2 hn
     simp -dsimp (disch := first | omega | (apply DrawYes.mk; decide +kernel)) only [go_sem, s1, s2, s3, s4, s9, hmm, i0, hgd, a1, a2, l1, l2, m1, m2, b1, b9, q1]
     repeat refine And.intro (by omega) ?_
     exact ⟨k + 1, ⟨hE, by omega, hnot (.inr hn), rfl⟩, by omega⟩
   have b9 : ((st.kind : Int) == 9) = false := by simp; omega
   by_cases h10 : st.kind = 10
   ·have b10 : ((st.kind : Int) == 10) = true := by simp; omega
    have hK : isK false st = true := decide_eq_true (by omega)
    by_cases hn : st.s = nm
    ·have q1 : (st.s == nm) = true := beq_iff_eq.2 hn
     simp -dsimp (disch := first | omega | (apply DrawYes.mk; decide +kernel)) only [go_sem, s1, s2, s3, s4, s9, hmm, i0, hgd, a1, a2, l1, l2, m1, m2, b1, b9, b10, q1]
     repeat refine And.intro (by omega) ?_
     rw [decide_eq_true (hin hK hn)]
     exact ⟨rfl, hE⟩
    ·have q1 : (st.s == nm) = false := beq_eq_false_iff_ne.2 hn
     simp -dsimp (disch := first | omega | (apply DrawYes.mk; decide +kernel)) only [go_sem, s1, s2, s3, s4, s9, hmm, i0, hgd, a1, a2, l1, l2, m1, m2, b1, b9, b10, q1]
     repeat refine And.intro (by omega) ?_
     exact ⟨k + 1, ⟨hE, by omega, hnot (.inr hn), rfl⟩, by omega⟩
   have b10 : ((st.kind : Int) == 10) = false := by simp; omega
   have hK : isK false st = false := decide_eq_false (by omega)
   simp -dsimp (disch := first | omega | (apply DrawYes.mk; decide +kernel)) only [go_sem, s1, s2, s3, s4, s9, hmm, i0, hgd, a1, a2, l1, l2, m1, m2, b1, b9, b10]
   repeat refine And.intro (by omega) ?_
   exact ⟨k + 1, ⟨hE, by omega, hnot (.inl hK), rfl⟩, by omega⟩
 ·have i0 : ¬ (k : Int) < many := by omega
  obtain rfl : k = many := by omega
  simp -dsimp (disch := first | omega | (apply DrawYes.mk; decide +kernel)) only [go_sem, s1, s2, s3, s4, s9, i0]
  rw [decide_eq_false hno]
  exact ⟨rfl, hE⟩
end Go.Proofs.YtcknfhhbijlobaaGreatDoor.D
