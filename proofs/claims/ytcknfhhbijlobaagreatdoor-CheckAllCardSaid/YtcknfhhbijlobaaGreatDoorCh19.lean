import Derived.Test.YtcknfhhbijlobaaGreatDoorCh18
namespace Go.Proofs.YtcknfhhbijlobaaGreatDoor.D
open Go
set_option linter.unusedVariables false
set_option linter.unusedSimpArgs false
set_option maxRecDepth 100000
theorem rknown17_ok {md : Nat} {R : List Stm} {top : List Nat} {stmv topv d : DV} {s : Stm} {H : DH} (hP : PrgV R top stmv topv) (hd : StmV s d) (hRl : R.length < 1000000) (hts : ∀ t ∈ textsL s, t.length < 1000000) :
  WC cfg 95 [.agg [.int .i64 md, stmv, topv], d] H fun v H' => v = .bool (knownB (setsL R) s) ∧ Ext H H' := by
 refine WC_of (show Has cfg 95 46 [.tmp 4] _ from ⟨by kernel_rfl, Tryz.f95, Tryz.func95, rfl, rfl, rfl, by kernel_rfl⟩) (by simp) ?_
 have hd0 := hd
 obtain ⟨vl, vm, rfl, hl, hmm⟩ := hd
 obtain ⟨l1, l2, l3⟩ := hl.facts
 obtain ⟨m1, m2, _⟩ := hmm.facts
 obtain ⟨a1, a2, a3⟩ := hP.two
 have y1 : ¬ H.next = H.next + 1 := by omega
 have y2 : ¬ H.next + 1 = H.next := by omega
 simp -dsimp (disch := first | omega | (apply DrawYes.mk; decide +kernel)) only [go_sem, l1, l2, m1, m2, a1, a2, y1, y2]
 refine call (rtexts17_ok hd0) ?_
 rintro tv H1 ⟨htv, hE1⟩
 have hE : Ext H H1 := Ext.refl.new.new.trans hE1
 have hle1 := hE1.le
 simp only [new_next] at hle1
 have hm0 : H1.m H.next = some (.cells 27 [.int .i64 md, stmv, topv]) := hE1.get (by simp only [new_next]; omega) (by rw [new_m, if_neg (by simp only [new_next]; omega), new_m, if_pos rfl])
 unfold knownB
 have hl4 : (textsL s).length ≤ 2 := by unfold textsL; repeat' split
                                        all_goals simp
 generalize textsL s = ts at *
 have hone : tv.cells = [tv] ∧ tv.one = true := by rcases htv with ⟨rfl, _⟩ | ⟨_, _, rfl⟩ <;> exact ⟨rfl, rfl⟩
 obtain ⟨c1, c2⟩ := hone
 have hlen := fun H' => htv.len (H := H') (t := 38) und_38
 rw [List.length_map] at hlen
 simp -dsimp (disch := first | omega | (apply DrawYes.mk; decide +kernel)) only [go_sem, c1, c2]
 refine Y_loop (α := Nat) (fun k σ H' => Ext H1 H' ∧ k ≤ ts.length ∧ (∀ t ∈ ts.take k, namesB (setsL R) t = true) ∧ σ 2 = .ptr H.next 0 ∧ σ 5 = tv ∧ σ 6 = .int .i64 k) (fun k => ts.length - k) 0 ?_ ?_
 ·simp -dsimp (disch := first | omega | (apply DrawYes.mk; decide +kernel)) only [go_sem]
  exact ⟨Ext.refl, Nat.zero_le _, by simp⟩
 rintro k σ H2 ⟨hE2, hk, hall, s2, s5, s6⟩
 have hmB := hE2.get (by omega) hm0
 by_cases hlt : k < ts.length
 ·have i0 : (k : Int) < ts.length := by omega
  obtain ⟨id, off, rfl⟩ : ∃ id off, tv = .sl id 1 off (ts.map .str) := by
   rcases htv with ⟨_, h⟩ | h
   ·rw [List.map_eq_nil_iff] at h; rw [h] at hlt; simp at hlt
   ·exact h
  have hgl : ts[k]? = some ts[k] := List.getElem?_eq_getElem hlt
  have hmem : ts[k] ∈ ts := List.getElem_mem hlt
  have htk : ts.take (k + 1) = ts.take k ++ [ts[k]] := by rw [List.take_add_one, hgl]; rfl
  generalize ts[k] = t at hgl hmem htk
  have hgm : (ts.map DV.str)[k]? = some (.str t) := by rw [List.getElem?_map, hgl]; rfl
  have hno : namesB (setsL R) t = false → ts.all (namesB (setsL R)) = false := by
   intro h
   rw [List.all_eq_false]
   exact ⟨t, hmem, by rw [h]; decide⟩
  simp -dsimp (disch := first | omega | (apply DrawYes.mk; decide +kernel)) only [go_sem, s2, s5, s6, i0, hlen, hgm]
  repeat refine And.intro (by omega) ?_
  refine call (rnames_ok (hts t hmem)) ?_
  rintro _ H3 ⟨hE3, nv, rfl, ns, hnv, hnl, hns⟩
  have hE4 : Ext H1 H3 := hE2.trans hE3
  have hmC := hE3.get (by have := hE2.le; omega) hmB
  have hone : nv.cells = [nv] ∧ nv.one = true := by rcases hnv with ⟨rfl, _⟩ | ⟨_, _, rfl⟩ <;> exact ⟨rfl, rfl⟩
  obtain ⟨c3, c4⟩ := hone
  have hlen2 := fun H' => hnv.len (H := H') (t := 38) und_38
  rw [List.length_map] at hlen2
  cases hn : namesL t with
  | none =>
   rw [Option.isSome_none]
   simp -dsimp (disch := first | omega | (apply DrawYes.mk; decide +kernel)) only [go_sem, s2, s5, s6, c3, c4]
   rw [hno (by unfold namesB; rw [hn])]
   exact ⟨rfl, hE.trans hE4⟩
  | some l =>
   obtain rfl := hns l hn
   rw [Option.isSome_some]
   have hnb : namesB (setsL R) t = !(ns.any fun n => !decide (n ∈ setsL R)) := by unfold namesB; rw [hn]
   have htl := hts t hmem
   simp -dsimp (disch := first | omega | (apply DrawYes.mk; decide +kernel)) only [go_sem, s2, s5, s6, c3, c4]
   refine Y_loop (α := Nat) (fun j σ' H' => Ext H3 H' ∧ j ≤ ns.length ∧ (∀ n ∈ ns.take j, n ∈ setsL R) ∧ σ' 2 = .ptr H.next 0 ∧ σ' 5 = .sl id 1 off (ts.map .str) ∧ σ' 6 = .int .i64 k ∧ σ' 7 = nv ∧ σ' 9 = .int .i64 j) (fun j => ns.length - j) 0 ?_ ?_
   ·simp -dsimp (disch := first | omega | (apply DrawYes.mk; decide +kernel)) only [go_sem, s2, s5, s6]
    exact ⟨Ext.refl, Nat.zero_le _, by simp⟩
   rintro j σ9 H9 ⟨hE9, hj, hset, t2, t5, t6, t7, t9⟩
   have hmD := hE9.get (by have := hE4.le; omega) hmC
   by_cases hjl : j < ns.length
   ·have i9 : (j : Int) < ns.length := by omega
    have hgl9 : ns[j]? = some ns[j] := List.getElem?_eq_getElem hjl
    have hnm : ns[j] ∈ ns := List.getElem_mem hjl
    have htk9 : ns.take (j + 1) = ns.take j ++ [ns[j]] := by rw [List.take_add_one, hgl9]; rfl
    generalize ns[j] = q at hgl9 hnm htk9
    have hgm9 : (ns.map DV.str)[j]? = some (.str q) := by rw [List.getElem?_map, hgl9]; rfl
    obtain ⟨nid, noff, rfl⟩ : ∃ id off, nv = .sl id 1 off (ns.map .str) := by
     rcases hnv with ⟨_, h⟩ | h
     ·rw [List.map_eq_nil_iff] at h; rw [h] at hgl9; simp at hgl9
     ·exact h
    simp -dsimp (disch := first | omega | (apply DrawYes.mk; decide +kernel)) only [go_sem, t2, t5, t6, t7, t9, i9, hlen2, hgm9, hmD, a1, a2, a3]
    repeat refine And.intro (by omega) ?_
    refine call (rhas17_ok hP (Nat.le_refl _) hRl) ?_
    rintro _ H10 ⟨rfl, hE10⟩
    rw [List.take_length, show hasL false R = setsL R from rfl]
    by_cases hq : q ∈ setsL R
    ·rw [decide_eq_true hq]
     simp -dsimp (disch := first | omega | (apply DrawYes.mk; decide +kernel)) only [go_sem, t2, t5, t6, t7, t9]
     repeat refine And.intro (by omega) ?_
     refine ⟨j + 1, ⟨hE9.trans hE10, by omega, ?_, rfl⟩, by omega⟩
     intro x hx
     rw [htk9, List.mem_append] at hx
     rcases hx with hx | hx
     ·exact hset x hx
     ·simp only [List.mem_singleton] at hx; subst hx; exact hq
    ·rw [decide_eq_false hq]
     simp -dsimp (disch := first | omega | (apply DrawYes.mk; decide +kernel)) only [go_sem, t2, t5, t6, t7, t9]
     have : namesB (setsL R) t = false := by
      rw [hnb, List.any_eq_true.2 ⟨q, hnm, by rw [decide_eq_false hq]; rfl⟩]; rfl
     rw [hno this]
     exact ⟨rfl, hE.trans (hE4.trans (hE9.trans hE10))⟩
   ·have i9 : ¬ (j : Int) < ns.length := by omega
    rw [List.take_of_length_le (by omega)] at hset
    have hb : namesB (setsL R) t = true := by
     rw [hnb, List.any_eq_false.2 (fun x hx => by rw [decide_eq_true (hset x hx)]; decide)]; rfl
    simp -dsimp (disch := first | omega | (apply DrawYes.mk; decide +kernel)) only [go_sem, t2, t5, t6, t7, t9, i9, hlen2]
    repeat refine And.intro (by omega) ?_
    refine ⟨k + 1, ⟨hE4.trans hE9, by omega, ?_, rfl⟩, by omega⟩
    intro x hx
    rw [htk, List.mem_append] at hx
    rcases hx with hx | hx
    ·exact hall x hx
    ·simp only [List.mem_singleton] at hx; subst hx; exact hb
 ·have i0 : ¬ (k : Int) < ts.length := by omega
  simp -dsimp (disch := first | omega | (apply DrawYes.mk; decide +kernel)) only [go_sem, s2, s5, s6, i0, hlen]
  rw [List.take_of_length_le (by omega)] at hall
  rw [List.all_eq_true.2 hall]
  exact ⟨rfl, hE.trans hE2⟩
end Go.Proofs.YtcknfhhbijlobaaGreatDoor.D
