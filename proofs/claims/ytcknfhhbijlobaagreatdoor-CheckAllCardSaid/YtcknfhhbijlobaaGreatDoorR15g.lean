import Derived.Test.YtcknfhhbijlobaaGreatDoorR15f
import Derived.Test.YtcknfhhbijlobaaGreatDoorPaL
namespace Go.Proofs.YtcknfhhbijlobaaGreatDoor.D
open Go
set_option linter.unusedVariables false
set_option linter.unusedSimpArgs false
set_option maxRecDepth 100000
theorem rints_ok {l : List Nat} {va vb : DV} {H : DH} (ha : IntsV l va) (hb : IntsV l vb) (hl : l.length < 1000000) : WC cfg 52 [va, vb] H fun v H' => v = .bool true ∧ H' = H := by
 refine WC_of (show Has cfg 52 26 [.tmp 4] _ from ⟨by kernel_rfl, Tryz.f52, Tryz.func52, rfl, rfl, rfl, by kernel_rfl⟩) (by simp) ?_
 obtain ⟨_, _, la⟩ := ha.facts
 obtain ⟨_, _, lb⟩ := hb.facts
 simp -dsimp (disch := first | omega | (apply DrawYes.mk; decide +kernel)) only [go_sem, la, lb]
 refine Y_loop (α := Nat) (fun k σ H' => H' = H ∧ k ≤ l.length ∧ σ 0 = va ∧ σ 1 = vb ∧ σ 5 = .int .i64 k) (fun k => l.length - k) 0 ?_ ?_
 ·simp -dsimp (disch := first | omega | (apply DrawYes.mk; decide +kernel)) only [go_sem]
  exact Nat.zero_le _
 rintro k σ H1 ⟨rfl, hk, s0, s1, s5⟩
 by_cases hlt : k < l.length
 ·have i0 : (k : Int) < l.length := by omega
  have hg : (l.map intV)[k]? = some (intV l[k]) := by rw [List.getElem?_map, List.getElem?_eq_getElem hlt]; rfl
  generalize l[k] = x at hg
  rcases ha with ⟨_, rfl⟩ | ⟨ia, oa, rfl⟩
  ·simp at hlt
  rcases hb with ⟨_, rfl⟩ | ⟨ib, ob, rfl⟩
  ·simp at hlt
  simp -dsimp (disch := first | omega | (apply DrawYes.mk; decide +kernel)) only [go_sem, s0, s1, s5, la, lb, i0, hg, intV]
  repeat refine And.intro (by omega) ?_
  exact ⟨k + 1, ⟨by omega, rfl⟩, by omega⟩
 ·have i0 : ¬ (k : Int) < l.length := by omega
  simp -dsimp (disch := first | omega | (apply DrawYes.mk; decide +kernel)) only [go_sem, s0, s1, s5, la, lb, i0]
theorem rsame_ok {R : List Stm} {top : List Nat} {md : Nat} {sa ta sb tb : DV} {H : DH} (ha : PrgV R top sa ta) (hb : PrgV R top sb tb) (hR : R.length < 1000000) (ht : top.length < 1000000) (hlm : ∀ s ∈ R, s.l.length < 1000000 ∧ s.m.length < 1000000) :
  WC cfg 18 [.agg [.int .i64 md, sa, ta], .agg [.int .i64 md, sb, tb]] H fun v H' => v = .bool true ∧ Ext H H' := by
 refine WC_of (show Has cfg 18 109 [.tmp 4] _ from ⟨by kernel_rfl, Tryz.f18, Tryz.func18, rfl, rfl, rfl, by kernel_rfl⟩) (by simp) ?_
 obtain ⟨a1, a2, a3⟩ := ha.two
 obtain ⟨b1, b2, b3⟩ := hb.two
 obtain ⟨⟨ea, hea, hsa⟩, hta⟩ := ha
 obtain ⟨⟨eb, heb, hsb⟩, htb⟩ := hb
 have nn : ¬ H.next = H.next + 1 := by omega
 simp -dsimp (disch := first | omega | (apply DrawYes.mk; decide +kernel)) only [go_sem, a1, a2, b1, b2, nn]
 refine call (rints_ok hta htb ht) ?_
 rintro _ Hx ⟨rfl, hHx⟩
 rw [hHx]; clear hHx Hx
 simp -dsimp (disch := first | omega | (apply DrawYes.mk; decide +kernel)) only [go_sem, a1, a2, b1, b2, a3, b3, nn]
 have hA0 : ((H.new (.cells 27 [.int .i64 md, sa, ta])).new (.cells 27 [.int .i64 md, sb, tb])).m H.next = some (.cells 27 [.int .i64 md, sa, ta]) := by rw [new_m, if_neg (by simp only [new_next]; omega), new_m, if_pos rfl]
 have hB0 : ((H.new (.cells 27 [.int .i64 md, sa, ta])).new (.cells 27 [.int .i64 md, sb, tb])).m (H.next + 1) = some (.cells 27 [.int .i64 md, sb, tb]) := by rw [new_m]; exact if_pos rfl
 have hE0 : Ext H ((H.new (.cells 27 [.int .i64 md, sa, ta])).new (.cells 27 [.int .i64 md, sb, tb])) := Ext.refl.new.new
 have hn0 : ((H.new (.cells 27 [.int .i64 md, sa, ta])).new (.cells 27 [.int .i64 md, sb, tb])).next = H.next + 2 := rfl
 generalize (H.new (.cells 27 [.int .i64 md, sa, ta])).new (.cells 27 [.int .i64 md, sb, tb]) = H0 at *
 refine Y_loop (α := Nat) (fun k σ H' => Ext H0 H' ∧ k ≤ R.length ∧ σ 2 = .ptr H.next 0 ∧ σ 3 = .ptr (H.next + 1) 0 ∧ σ 6 = .int .i64 k) (fun k => R.length - k) 0 ?_ ?_
 ·simp -dsimp (disch := first | omega | (apply DrawYes.mk; decide +kernel)) only [go_sem]
  exact ⟨Ext.refl, Nat.zero_le _⟩
 rintro k σ H1 ⟨hE1, hk, s2, s3, s6⟩
 have hA := hE1.get (by omega) hA0
 have hB := hE1.get (by omega) hB0
 have hle1 := hE1.le
 by_cases hlt : k < R.length
 ·have i0 : (k : Int) < R.length := by omega
  have hg : R[k]? = some R[k] := List.getElem?_eq_getElem hlt
  obtain ⟨hl1, hl2⟩ := hlm R[k] (List.getElem_mem hlt)
  generalize R[k] = s at hg hl1 hl2
  obtain ⟨da, ga, la1, ma1, rfl, ha1, ha2⟩ := hsa.get hg
  obtain ⟨db, gb, lb1, mb1, rfl, hb1, hb2⟩ := hsb.get hg
  obtain ⟨ia, oa, rfl⟩ : ∃ ia oa, sa = .sl ia 8 oa ea := by
   rcases hea with ⟨_, rfl⟩ | h
   ·simp at ga
   ·exact h
  obtain ⟨ib, ob, rfl⟩ : ∃ ib ob, sb = .sl ib 8 ob eb := by
   rcases heb with ⟨_, rfl⟩ | h
   ·simp at gb
   ·exact h
  obtain ⟨o1, o2, _⟩ := ha1.facts
  obtain ⟨o3, o4, _⟩ := ha2.facts
  obtain ⟨o5, o6, _⟩ := hb1.facts
  obtain ⟨o7, o8, _⟩ := hb2.facts
  have y1 : ¬ H.next = H1.next := by omega
  have y2 : ¬ H.next + 1 = H1.next := by omega
  have y3 : ¬ H.next + 1 = H1.next + 1 := by omega
  have y4 : ¬ H.next = H1.next + 1 := by omega
  have y5 : ¬ H1.next = H1.next + 1 := by omega
  simp -dsimp (disch := first | omega | (apply DrawYes.mk; decide +kernel)) only [go_sem, s2, s3, s6, hA, hB, a3, b3, i0, ga, gb, o1, o2, o3, o4, o5, o6, o7, o8, y1, y2, y3, y4, y5]
  repeat refine And.intro (by omega) ?_
  refine call (rints_ok ha1 hb1 hl1) ?_
  rintro _ Hx ⟨rfl, hHx⟩
  rw [hHx]; clear hHx Hx
  simp -dsimp (disch := first | omega | (apply DrawYes.mk; decide +kernel)) only [go_sem, o1, o2, o3, o4, o5, o6, o7, o8, y1, y2, y3, y4, y5]
  refine call (rints_ok ha2 hb2 hl2) ?_
  rintro _ Hx ⟨rfl, hHx⟩
  rw [hHx]; clear hHx Hx
  simp -dsimp (disch := first | omega | (apply DrawYes.mk; decide +kernel)) only [go_sem, s2, s3, s6, o1, o2, o3, o4, o5, o6, o7, o8, y1, y2, y3, y4, y5, bne_self_eq_false]
  repeat refine And.intro (by omega) ?_
  refine ⟨k + 1, ⟨((hE1.new.set hE1.le).new).set (by omega), by omega, rfl⟩, by omega⟩
 ·have i0 : ¬ (k : Int) < R.length := by omega
  simp -dsimp (disch := first | omega | (apply DrawYes.mk; decide +kernel)) only [go_sem, s2, s3, s6, hA, hB, a3, b3, i0]
  exact hE0.trans hE1
def shapeI (k : Int) : List UInt8 := if 0 ≤ k ∧ k < 18 then shapeL k.toNat else []
theorem shapeI_ok {k : Int} {H : DH} : WC cfg 21 [.int .i64 k] H fun v H' => v = .str (shapeI k) ∧ Ext H H' := by
 by_cases h : 0 ≤ k ∧ k < 18
 ·obtain ⟨n, rfl⟩ : ∃ n : Nat, k = n := ⟨k.toNat, by omega⟩
  have := shape_ok (k := n) (by omega) (H := H)
  unfold shapeI
  rw [if_pos h]
  exact this
 ·unfold shapeI
  rw [if_neg h]
  refine WC_of (show Has cfg 21 17 [.tmp 2] _ from ⟨by kernel_rfl, Tryz.f21, Tryz.func21, rfl, rfl, rfl, by kernel_rfl⟩) (by simp) ?_
  have h4 : (shapesL.map DV.str).length = 18 := rfl
  by_cases h0 : k < 0
  ·simp -dsimp (disch := first | omega | (apply DrawYes.mk; decide +kernel)) only [go_sem, shapes_eq, h0, h4]
   exact Ext.refl.new
  ·have h1 : (18 : Int) ≤ k := by omega
   simp -dsimp (disch := first | omega | (apply DrawYes.mk; decide +kernel)) only [go_sem, shapes_eq, h0, h1, h4]
   exact Ext.refl.new
theorem rshapeI_ok {k : Int} {H : DH} : WC cfg 22 [.int .i64 k] H fun v H' => v = .str (shapeI k) ∧ Ext H H' := by
 by_cases h : 0 ≤ k ∧ k < 18
 ·obtain ⟨n, rfl⟩ : ∃ n : Nat, k = n := ⟨k.toNat, by omega⟩
  have := rshape_ok (k := n) (by omega) (H := H)
  unfold shapeI
  rw [if_pos h]
  exact this
 ·unfold shapeI
  rw [if_neg h]
  refine WC_of (show Has cfg 22 17 [.tmp 2] _ from ⟨by kernel_rfl, Tryz.f22, Tryz.func22, rfl, rfl, rfl, by kernel_rfl⟩) (by simp) ?_
  by_cases h0 : k < 0
  ·simp -dsimp (disch := first | omega | (apply DrawYes.mk; decide +kernel)) only [go_sem, h0]
   exact Ext.refl.new
  ·have h1 : (18 : Int) ≤ k := by omega
   simp -dsimp (disch := first | omega | (apply DrawYes.mk; decide +kernel)) only [go_sem, h0, h1]
   exact Ext.refl.new
theorem parseAll_ok {s t : List UInt8} {k : Int} {H : DH} (hk : -9223372036854775808 ≤ k ∧ k ≤ 9223372036854775807) : WC cfg 3 [.str s, .int .i64 k, .str t] H fun v H' => v = .bool true := by
 refine WC_of (show Has cfg 3 61 [.tmp 6] _ from ⟨by kernel_rfl, Tryz.f3, Tryz.func3, rfl, rfl, rfl, by kernel_rfl⟩) (by simp) ?_
 simp -dsimp (disch := first | omega | (apply DrawYes.mk; decide +kernel)) only [go_sem]
 refine call pshown_ok ?_
 rintro _ H1 ⟨rfl, hE⟩
 simp -dsimp (disch := first | omega | (apply DrawYes.mk; decide +kernel)) only [go_sem, psh_eq]
 have hlen : (s.take 2100).length ≤ 2100 := by rw [List.length_take]; omega
 refine call (parse_ok (s := s.take 2100) (by omega)) ?_
 rintro _ H2 ⟨hE2, sa, ta, rfl, hPa⟩
 generalize s.take 2100 = u at *
 obtain ⟨n1, n2, n3⟩ := parse_lens u
 obtain ⟨a1, a2, a3⟩ := hPa.two
 refine forget (P := fun σ => WO cfg _ _ σ _ _) (fun σ => σ 0 = .str u ∧ σ 1 = .int .i64 k ∧ σ 2 = .str t ∧ σ 7 = .bool true ∧ σ 20 = .tup [.agg [.int .i64 (parseAll u).mode, sa, ta], .int .i64 (parseAll u).at_, .int .i64 (parseAll u).e]) (by simp -dsimp (disch := first | omega | (apply DrawYes.mk; decide +kernel)) only [go_sem]) ?_
 rintro σ ⟨s0, s1, s2, s7, s20⟩
 simp -dsimp (disch := first | omega | (apply DrawYes.mk; decide +kernel)) only [go_sem, s0, s1, s2, s7, s20, a1, a2]
 refine call (rparse_ok (s := u) (by omega)) ?_
 rintro _ H3 ⟨hE3, sb, tb, rfl, hPb⟩
 obtain ⟨b1, b2, b3⟩ := hPb.two
 have hle3 := hE3.le
 simp only [set_next, new_next] at hle3
 have hm8 := hE3.get (b := H2.next) (by simp only [set_next, new_next]; omega) (by rw [set_m, if_pos rfl])
 refine forget (P := fun σ => WO cfg _ _ σ _ _) (fun σ => σ 1 = .int .i64 k ∧ σ 2 = .str t ∧ σ 7 = .bool true ∧ σ 8 = .ptr H2.next 0 ∧ σ 9 = .int .i64 (parseAll u).at_ ∧ σ 10 = .int .i64 (parseAll u).e ∧ σ 26 = .tup [.agg [.int .i64 (parseAll u).mode, sb, tb], .int .i64 (parseAll u).at_, .int .i64 (parseAll u).e]) (by simp -dsimp (disch := first | omega | (apply DrawYes.mk; decide +kernel)) only [go_sem, s0, s1, s2, s7, s20]) ?_
 clear s0 s1 s2 s7 s20 σ
 rintro σ ⟨s1, s2, s7, s8, s9, s10, s26⟩
 have y1 : ¬ H2.next = H3.next := by omega
 simp -dsimp (disch := first | omega | (apply DrawYes.mk; decide +kernel)) only [go_sem, s1, s2, s7, s8, s9, s10, s26, hm8, y1, a1, a2, b1, b2]
 refine call (rsame_ok hPa hPb (by omega) (by omega) (fun x hx => ⟨by have := (n3 x hx).1; omega, by have := (n3 x hx).2; omega⟩)) ?_
 rintro _ H4 ⟨rfl, hE4⟩
 simp -dsimp (disch := first | omega | (apply DrawYes.mk; decide +kernel)) only [go_sem, s1, s2, s7, s8, s9, s10, s26, y1]
 refine call mode_ok ?_
 rintro _ H5 ⟨rfl, hE5⟩
 simp -dsimp (disch := first | omega | (apply DrawYes.mk; decide +kernel)) only [go_sem, s1, s2, s7, s8, s9, s10, s26, y1]
 refine call rmode_ok ?_
 rintro _ H6 ⟨rfl, _⟩
 simp -dsimp (disch := first | omega | (apply DrawYes.mk; decide +kernel)) only [go_sem, s1, s2, s7, s8, s9, s10, s26, y1]
 refine call shapeI_ok ?_
 rintro _ H7 ⟨rfl, hE7⟩
 simp -dsimp (disch := first | omega | (apply DrawYes.mk; decide +kernel)) only [go_sem, s1, s2, s7, s8, s9, s10, s26, y1]
 refine call rshapeI_ok ?_
 rintro _ H8 ⟨rfl, hE8⟩
 simp -dsimp (disch := first | omega | (apply DrawYes.mk; decide +kernel)) only [go_sem, s1, s2, s7, s8, s9, s10, s26, y1]
end Go.Proofs.YtcknfhhbijlobaaGreatDoor.D
