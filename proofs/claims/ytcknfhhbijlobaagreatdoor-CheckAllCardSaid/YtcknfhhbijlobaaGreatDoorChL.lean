import Derived.Test.YtcknfhhbijlobaaGreatDoorChA
namespace Go.Proofs.YtcknfhhbijlobaaGreatDoor.D
open Go
set_option linter.unusedVariables false
set_option linter.unusedSimpArgs false
set_option maxRecDepth 100000
def firstL : List UInt8 := [49, 50, 51, 52, 53]
def numB (s : List UInt8) : Bool := match s with
 | [] => false
 | c :: r => firstL.contains c && (c :: r).all fun d => digitsL.contains d
def patB (md : Nat) (s : List UInt8) : Bool := if md = 1 ∨ md = 3 then decide (s.length ≤ 3) && numB s else if md = 2 then decide (s = [43] ∨ s = [45] ∨ s = [62]) else false
def codesB (md : Nat) (s : List UInt8) : Bool := (splitC s 44).all (patB md)
theorem lnumber_ok {s : List UInt8} {H : DH} (hs : s.length < 1000000) : WC cfg 116 [.str s] H fun v H' => v = .bool (numB s) ∧ Ext H H' := by
 refine WC_of (show Has cfg 116 16 [.tmp 2] _ from ⟨by kernel_rfl, Tryz.f116, Tryz.func116, rfl, rfl, rfl, by kernel_rfl⟩) (by simp) ?_
 cases s with
 | nil =>
  simp -dsimp (disch := first | omega | (apply DrawYes.mk; decide +kernel)) only [go_sem]
  exact ⟨rfl, Ext.refl⟩
 | cons c r =>
  have b1 : ((c :: r) != []) = true := rfl
  have hl : (([49, 50, 51, 52, 53] : List UInt8)) = firstL := rfl
  by_cases hc : c ∈ firstL
  ·have d1 : 0 ≤ Lib.indexByte [49, 50, 51, 52, 53] c := idx_ge.2 hc
   simp -dsimp (disch := first | omega | (apply DrawYes.mk; decide +kernel)) only [go_sem, b1, indexByte_eq, d1]
   refine call (trim_ok (f := digitsL) (by decide) (by decide) (by decide) hs) ?_
   rintro _ H1 ⟨rfl, hE⟩
   simp -dsimp (disch := first | omega | (apply DrawYes.mk; decide +kernel)) only [go_sem]
   refine ⟨?_, hE⟩
   congr 1
   rw [Bool.eq_iff_iff, beq_iff_eq, trim_nil]
   unfold numB
   simp only [Bool.and_eq_true, List.contains_iff_mem, List.all_eq_true]
   exact ⟨fun h => ⟨hc, h⟩, fun h => h.2⟩
  ·have d1 : ¬ 0 ≤ Lib.indexByte [49, 50, 51, 52, 53] c := fun h => hc (idx_ge.1 h)
   simp -dsimp (disch := first | omega | (apply DrawYes.mk; decide +kernel)) only [go_sem, b1, indexByte_eq, d1]
   refine ⟨?_, Ext.refl⟩
   have : firstL.contains c = false := by simpa using hc
   show DV.bool false = DV.bool (firstL.contains c && (c :: r).all fun d => digitsL.contains d)
   rw [this, Bool.false_and]
theorem patB_num {md : Nat} {p : List UInt8} (h : md = 1 ∨ md = 3) : patB md p = (decide (p.length ≤ 3) && numB p) := if_pos h
theorem patB_sign {p : List UInt8} : patB 2 p = decide (p = [43] ∨ p = [45] ∨ p = [62]) := rfl
theorem splitC_len {c : UInt8} : ∀ {s : List UInt8}, ∀ p ∈ splitC s c, p.length ≤ s.length
 | [], p, h => by simp [splitC] at h; subst h; simp
 | b :: s, p, h => by
  rw [splitC] at h
  have ih := splitC_len (c := c) (s := s)
  by_cases hb : b = c
  ·rw [if_pos hb] at h
   rcases List.mem_cons.1 h with h | h
   ·subst h; simp
   ·have := ih p h; simp only [List.length_cons]; omega
  ·rw [if_neg hb] at h
   cases hs : splitC s c with
   | nil => rw [hs] at h; simp at h; subst h; simp
   | cons q r =>
    rw [hs] at h ih
    rcases List.mem_cons.1 h with h | h
    ·subst h; have := ih q (by simp); simp only [List.length_cons]; omega
    ·have := ih p (by simp [h]); simp only [List.length_cons]; omega
theorem lcodes_ok {md : Nat} {s : List UInt8} {H : DH} (hs : s.length < 1000000) : WC cfg 87 [.int .i64 md, .str s] H fun v H' => v = .bool (codesB md s) ∧ Ext H H' := by
 refine WC_of (show Has cfg 87 38 [.tmp 4] _ from ⟨by kernel_rfl, Tryz.f87, Tryz.func87, rfl, rfl, rfl, by kernel_rfl⟩) (by simp) ?_
 simp -dsimp (disch := first | omega | (apply DrawYes.mk; decide +kernel)) only [go_sem]
 refine call (split_ok (by omega)) ?_
 rintro _ H1 ⟨hE1, id, cs, hid1, hid2, rfl, hm1, hcs⟩
 have hpl := splitC_two (s := s) (c := 44)
 unfold codesB
 have hsub : ∀ p ∈ splitC s 44, p.length ≤ s.length := splitC_len
 generalize splitC s 44 = ps at *
 simp -dsimp (disch := first | omega | (apply DrawYes.mk; decide +kernel)) only [go_sem]
 refine Y_loop (α := Nat) (fun k σ H' => Ext H1 H' ∧ k ≤ ps.length ∧ (∀ p ∈ ps.take k, patB md p = true) ∧ σ 0 = .int .i64 md ∧ σ 8 = .hs id 1 0 ps.length ∧ σ 9 = .int .i64 ps.length ∧ σ 10 = .int .i64 k) (fun k => ps.length - k) 0 ?_ ?_
 ·simp -dsimp (disch := first | omega | (apply DrawYes.mk; decide +kernel)) only [go_sem]
  exact ⟨Ext.refl, Nat.zero_le _, by simp⟩
 rintro k σ H2 ⟨hE2, hk, hall, s0, s8, s9, s10⟩
 have hm2 := hE2.get hid2 hm1
 by_cases hlt : k < ps.length
 ·have i0 : (k : Int) < ps.length := by omega
  have hg : ps[k]? = some ps[k] := List.getElem?_eq_getElem hlt
  have hpk := hsub ps[k] (List.getElem_mem hlt)
  have htk : ps.take (k + 1) = ps.take k ++ [ps[k]] := by rw [List.take_add_one, hg]; rfl
  have hmem : ps[k] ∈ ps := List.getElem_mem hlt
  generalize ps[k] = q at hg hpk htk hmem
  have hck : (cs.drop (k * 1)).head? = some (.str q) := by
   rw [Nat.mul_one, List.head?_drop]
   have : (cs.take ps.length)[k]? = some (.str q) := by rw [hcs, List.getElem?_map, hg]; rfl
   rwa [List.getElem?_take_of_lt hlt] at this
  have hyes : patB md q = true → ∀ p ∈ ps.take (k + 1), patB md p = true := by
   intro h p hp
   rw [htk] at hp
   rcases List.mem_append.1 hp with hp | hp
   ·exact hall p hp
   ·simp at hp; rw [hp]; exact h
  have hno : patB md q = false → ps.all (patB md) = false := by
   intro h
   rw [List.all_eq_false]
   exact ⟨q, hmem, by rw [h]; decide⟩
  by_cases m13 : md = 1 ∨ md = 3
  ·have hm13 : (((md : Int) == 1) = true) ∨ (((md : Int) == 1) = false ∧ ((md : Int) == 3) = true) := by
    rcases m13 with h | h
    ·exact .inl (by simp; omega)
    ·exact .inr ⟨by simp; omega, by simp; omega⟩
   rw [patB_num m13] at hyes hno
   by_cases hl3 : q.length ≤ 3
   ·have i1 : (q.length : Int) ≤ 3 := by omega
    have hd3 : decide (q.length ≤ 3) = true := decide_eq_true hl3
    rw [hd3, Bool.true_and] at hyes hno
    rcases hm13 with b1 | ⟨b1, b3⟩
    ·simp -dsimp (disch := first | omega | (apply DrawYes.mk; decide +kernel)) only [go_sem, s0, s8, s9, s10, i0, hm2, hck, b1, i1]
     refine And.intro (by omega) ?_
     refine call (lnumber_ok (by omega)) ?_
     rintro _ H3 ⟨rfl, hE3⟩
     cases hnb : numB q with
     | true =>
      simp -dsimp (disch := first | omega | (apply DrawYes.mk; decide +kernel)) only [go_sem, s0, s8, s9, s10, i0, hm2, hck, b1, i1]
      repeat refine And.intro (by omega) ?_
      exact ⟨k + 1, ⟨hE2.trans hE3, by omega, hyes hnb, rfl⟩, by omega⟩
     | false =>
      simp -dsimp (disch := first | omega | (apply DrawYes.mk; decide +kernel)) only [go_sem, s0, s8, s9, s10, i0, hm2, hck, b1, i1]
      exact ⟨by rw [hno hnb], (hE1.trans hE2).trans hE3⟩
    ·simp -dsimp (disch := first | omega | (apply DrawYes.mk; decide +kernel)) only [go_sem, s0, s8, s9, s10, i0, hm2, hck, b1, b3, i1]
     refine And.intro (by omega) ?_
     refine call (lnumber_ok (by omega)) ?_
     rintro _ H3 ⟨rfl, hE3⟩
     cases hnb : numB q with
     | true =>
      simp -dsimp (disch := first | omega | (apply DrawYes.mk; decide +kernel)) only [go_sem, s0, s8, s9, s10, i0, hm2, hck, b1, b3, i1]
      repeat refine And.intro (by omega) ?_
      exact ⟨k + 1, ⟨hE2.trans hE3, by omega, hyes hnb, rfl⟩, by omega⟩
     | false =>
      simp -dsimp (disch := first | omega | (apply DrawYes.mk; decide +kernel)) only [go_sem, s0, s8, s9, s10, i0, hm2, hck, b1, b3, i1]
      exact ⟨by rw [hno hnb], (hE1.trans hE2).trans hE3⟩
   ·have i1 : ¬ (q.length : Int) ≤ 3 := by omega
    have hd3 : decide (q.length ≤ 3) = false := decide_eq_false hl3
    rw [hd3, Bool.false_and] at hyes hno
    rcases hm13 with b1 | ⟨b1, b3⟩
    ·simp -dsimp (disch := first | omega | (apply DrawYes.mk; decide +kernel)) only [go_sem, s0, s8, s9, s10, i0, hm2, hck, b1, i1]
     refine And.intro (by omega) ?_
     exact ⟨by rw [hno rfl], hE1.trans hE2⟩
    ·simp -dsimp (disch := first | omega | (apply DrawYes.mk; decide +kernel)) only [go_sem, s0, s8, s9, s10, i0, hm2, hck, b1, b3, i1]
     refine And.intro (by omega) ?_
     exact ⟨by rw [hno rfl], hE1.trans hE2⟩
  ·have b1 : ((md : Int) == 1) = false := by simp; omega
   have b3 : ((md : Int) == 3) = false := by simp; omega
   by_cases m2 : md = 2
   ·have b2 : ((md : Int) == 2) = true := by simp; omega
    subst m2
    rw [patB_sign] at hyes hno
    by_cases q1 : q = [43]
    ·have c1 : (q == [43]) = true := beq_iff_eq.2 q1
     simp -dsimp (disch := first | omega | (apply DrawYes.mk; decide +kernel)) only [go_sem, s0, s8, s9, s10, i0, hm2, hck, b1, b2, b3, c1]
     repeat refine And.intro (by omega) ?_
     exact ⟨k + 1, ⟨hE2, by omega, hyes (by simp [q1]), rfl⟩, by omega⟩
    have c1 : (q == [43]) = false := beq_eq_false_iff_ne.2 q1
    by_cases q2 : q = [45]
    ·have c2 : (q == [45]) = true := beq_iff_eq.2 q2
     simp -dsimp (disch := first | omega | (apply DrawYes.mk; decide +kernel)) only [go_sem, s0, s8, s9, s10, i0, hm2, hck, b1, b2, b3, c1, c2]
     repeat refine And.intro (by omega) ?_
     exact ⟨k + 1, ⟨hE2, by omega, hyes (by simp [q2]), rfl⟩, by omega⟩
    have c2 : (q == [45]) = false := beq_eq_false_iff_ne.2 q2
    by_cases q3 : q = [62]
    ·have c3 : (q == [62]) = true := beq_iff_eq.2 q3
     simp -dsimp (disch := first | omega | (apply DrawYes.mk; decide +kernel)) only [go_sem, s0, s8, s9, s10, i0, hm2, hck, b1, b2, b3, c1, c2, c3]
     repeat refine And.intro (by omega) ?_
     exact ⟨k + 1, ⟨hE2, by omega, hyes (by simp [q3]), rfl⟩, by omega⟩
    have c3 : (q == [62]) = false := beq_eq_false_iff_ne.2 q3
    simp -dsimp (disch := first | omega | (apply DrawYes.mk; decide +kernel)) only [go_sem, s0, s8, s9, s10, i0, hm2, hck, b1, b2, b3, c1, c2, c3]
    refine And.intro (by omega) ?_
    exact ⟨by rw [hno (by simp [q1, q2, q3])], hE1.trans hE2⟩
   ·have b2 : ((md : Int) == 2) = false := by simp; omega
    have hpf : patB md q = false := by unfold patB; rw [if_neg m13, if_neg m2]
    simp -dsimp (disch := first | omega | (apply DrawYes.mk; decide +kernel)) only [go_sem, s0, s8, s9, s10, i0, hm2, hck, b1, b2, b3]
    refine And.intro (by omega) ?_
    exact ⟨by rw [hno hpf], hE1.trans hE2⟩
 ·have i0 : ¬ (k : Int) < ps.length := by omega
  have hkE : k = ps.length := by omega
  rw [hkE, List.take_length] at hall
  simp -dsimp (disch := first | omega | (apply DrawYes.mk; decide +kernel)) only [go_sem, s0, s8, s9, s10, i0]
  refine ⟨?_, hE1.trans hE2⟩
  rw [List.all_eq_true.2 hall]
end Go.Proofs.YtcknfhhbijlobaaGreatDoor.D
