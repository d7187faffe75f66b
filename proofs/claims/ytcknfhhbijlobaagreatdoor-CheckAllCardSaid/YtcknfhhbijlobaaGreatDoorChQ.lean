import Derived.Test.YtcknfhhbijlobaaGreatDoorChM
import Derived.Test.YtcknfhhbijlobaaGreatDoorPaL
namespace Go.Proofs.YtcknfhhbijlobaaGreatDoor.D
open Go
set_option linter.unusedVariables false
set_option linter.unusedSimpArgs false
set_option maxRecDepth 100000
def FineR (R : List Stm) : Prop := R.length ≤ 1000 ∧ ∀ s ∈ R, (∀ n ∈ s.l, n < R.length) ∧ s.l.length < 1000000 ∧ s.s.length < 1000000 ∧ s.t.length < 1000000 ∧ s.u.length < 1000000
theorem FineR.texts {R : List Stm} (h : FineR R) {s : Stm} (hs : s ∈ R) : ∀ t ∈ textsL s, t.length < 1000000 := by
 obtain ⟨_, _, h1, h2, h3⟩ := h.2 s hs
 intro t ht
 unfold textsL at ht
 repeat' split at ht
 all_goals simp at ht
 all_goals first | (subst ht; assumption) | (rcases ht with rfl | rfl <;> assumption)
def rulesD (p : Nat) : List DV := [.agg [.int .i64 30, .fn (.func 55) [.ptr p 0] []], .agg [.int .i64 1, .fn (.func 56) [.ptr p 0] []], .agg [.int .i64 34, .fn (.func 57) [.ptr p 0] []],
 .agg [.int .i64 31, .fn (.func 58) [.ptr p 0] []], .agg [.int .i64 33, .fn (.func 59) [.ptr p 0] []], .agg [.int .i64 32, .fn (.func 60) [.ptr p 0] []]]
theorem labels_take {R : List Stm} {k : Nat} {s : Stm} (h : R[k]? = some s) : labelsL (R.take (k + 1)) = if s.kind = 13 then labelsL (R.take k) ++ [s.s] else labelsL (R.take k) := by
 unfold labelsL
 rw [List.take_add_one, h, List.filter_append, List.map_append]
 by_cases hk : s.kind = 13
 ·rw [if_pos hk]; simp [hk]
 ·rw [if_neg hk]; simp [hk]
theorem sets_take {R : List Stm} {k : Nat} {s : Stm} (h : R[k]? = some s) : setsL (R.take (k + 1)) = if s.kind = 1 ∨ s.kind = 9 ∨ s.kind = 10 then setsL (R.take k) ++ [s.s] else setsL (R.take k) := by
 unfold setsL
 rw [List.take_add_one, h, List.filter_append, List.map_append]
 by_cases hk : s.kind = 1 ∨ s.kind = 9 ∨ s.kind = 10
 ·rw [if_pos hk]; simp [hk]
 ·rw [if_neg hk]; simp [hk]
theorem labels_len (R : List Stm) : (labelsL R).length ≤ R.length := by unfold labelsL; rw [List.length_map]; exact List.length_filter_le ..
theorem sets_len (R : List Stm) : (setsL R).length ≤ R.length := by unfold setsL; rw [List.length_map]; exact List.length_filter_le ..
set_option maxHeartbeats 4000000 in
theorem ckprog_ok {md : Nat} {R : List Stm} {top : List Nat} {stmv topv : DV} {H : DH} (hP : PrgV R top stmv topv) (hR : FineR R) :
  WC cfg 27 [.agg [.int .i64 md, stmv, topv]] H fun v H' => v = .tup [.int .i64 (checkP md R).1, .int .i64 (checkP md R).2] ∧ Ext H H' := by
 refine WC_of (show Has cfg 27 110 [.tmp 2, .tmp 3] _ from ⟨by kernel_rfl, Tryz.f27, Tryz.func27, rfl, rfl, rfl, by kernel_rfl⟩) (by simp) ?_
 obtain ⟨a1, a2, a3⟩ := hP.two
 obtain ⟨⟨es, hes, hall⟩, htop⟩ := hP
 have ya : ¬ H.next = H.next + 1 := by omega
 simp -dsimp (disch := first | omega | (apply DrawYes.mk; decide +kernel)) only [go_sem, a1, a2, a3, ya]
 refine Y_loop (α := Nat × DV × DV) (fun x σ H' => Ext H H' ∧ H.next + 2 ≤ H'.next ∧ H'.m H.next = some (.cells 27 [.int .i64 md, stmv, topv]) ∧ H'.m (H.next + 1) = some (.cells 85 [.int .i64 md, stmv, topv, x.2.1, x.2.2, .nils]) ∧ IsSl (H.next + 2) H' 9 1 x.2.1 ((labelsL (R.take x.1)).map .str) ∧ IsSl (H.next + 2) H' 9 1 x.2.2 ((setsL (R.take x.1)).map .str) ∧ (∀ y ∈ slid x.2.1, y ∉ slid x.2.2) ∧ x.1 ≤ R.length ∧ σ 1 = .ptr H.next 0 ∧ σ 4 = .ptr (H.next + 1) 0 ∧ σ 16 = stmv ∧ σ 17 = .int .i64 R.length ∧ σ 18 = .int .i64 x.1) (fun x => R.length - x.1) (0, .nils, .nils) ?_ ?_
 ·simp -dsimp (disch := first | omega | (apply DrawYes.mk; decide +kernel)) only [go_sem]
  refine ⟨Ext.refl.new.new, Nat.le_refl _, by rw [if_neg ya], .inl ⟨rfl, rfl⟩, .inl ⟨rfl, rfl⟩, by simp [slid]⟩
 rintro ⟨k, lv, sv⟩ σ H1 ⟨hE, hnx, hmq, hmp, hlv, hsv, hdis, hk, s1, s4, s16, s17, s18⟩
 dsimp only at hmp hlv hsv hdis hk s18
 obtain ⟨c1, c2⟩ := hlv.one
 obtain ⟨c3, c4⟩ := hsv.one
 by_cases hlt : k < R.length
 ·have i0 : (k : Int) < R.length := by omega
  have hRk : R[k]? = some R[k] := List.getElem?_eq_getElem hlt
  generalize R[k] = s at hRk
  have hR1 := hR.1
  obtain ⟨d, hg, vl, vm, rfl, hvl, hvm⟩ := hall.get hRk
  obtain ⟨sid, soff, rfl⟩ : ∃ sid soff, stmv = .sl sid 8 soff es := by
   rcases hes with ⟨_, h⟩ | h
   ·rw [h] at hg; simp at hg
   ·exact h
  obtain ⟨l1, l2, _⟩ := hvl.facts
  obtain ⟨m1, m2, _⟩ := hvm.facts
  have y1 : ¬ H.next = H1.next := by omega
  have y2 : ¬ H.next + 1 = H1.next := by omega
  have y3 : ¬ H1.next = H.next + 1 := by omega
  have y4 : ¬ H1.next = H1.next + 1 := by omega
  have y5 : ¬ H.next + 1 = H1.next + 1 := by omega
  have y6 : ¬ H1.next + 1 = H1.next := by omega
  by_cases e13 : s.kind = 13
  ·skip
   have b13 : ((s.kind : Int) == 13) = true := by simp; omega
   have b1 : ((s.kind : Int) == 1) = false := by simp; omega
   have b9 : ((s.kind : Int) == 9) = false := by simp; omega
   have b10 : ((s.kind : Int) == 10) = false := by simp; omega
   simp -dsimp (disch := first | omega | (apply DrawYes.mk; decide +kernel)) only [go_sem, s1, s4, s16, s17, s18, i0, hg, hmp, l1, l2, m1, m2, y1, y2, y3, y4, y5, y6, c1, c2, c3, c4, b13, b1, b9, b10]
   repeat refine And.intro (by omega) ?_
   refine Y_float [(4, 8, 8)] (by decide +kernel) ?_
   simp -dsimp (disch := first | omega | (apply DrawYes.mk; decide +kernel)) only [go_sem, s1, s4, s16, s17, s18, i0, hg, hmp, l1, l2, m1, m2, y1, y2, y3, y4, y5, y6, c1, c2, c3, c4, b13, b1, b9, b10]
   have hN : IsSl (H.next + 2) (((H1.new (.cells 40 [.int .i64 0, .str [], .str [], .str [], .int .i64 0, .int .i64 0, .nils, .nils])).set H1.next (.cells 40 [.int .i64 s.kind, .str s.s, .str s.t, .str s.u, .int .i64 s.n, .int .i64 s.at_, vl, vm])).new (.tip 9 1 true)) 9 1 lv ((labelsL (R.take k)).map .str) := hlv.keep (by simp only [new_next, set_next]; omega) (fun y hy => by obtain ⟨_, z, _⟩ := hlv.tip y hy; rw [new_m, if_neg (by simp only [set_next, new_next]; omega), set_m, if_neg (by omega), new_m, if_neg (by omega)])
   refine app2 (lo := H.next + 2) (es := (labelsL (R.take k)).map .str) (new := [.str s.s]) und_38 size_9 bytes_9 und_38 zero_9 rfl rfl (by decide) hN rfl (by simp) (by simp only [new_next, set_next]; omega) (by have := labels_len (R.take k); have := sets_len (R.take k); simp only [List.length_map, List.length_take, List.length_cons, List.length_nil] at *; omega) (by have := labels_len (R.take k); have := sets_len (R.take k); simp only [List.length_map, List.length_take, List.length_cons, List.length_nil] at *; omega) ?_
   intro v2 H2 i2 hs2 hn2 hf2 hi2 ho2
   simp only [new_next, set_next] at hn2
   have hi2b : i2 ≠ H.next + 1 ∧ i2 ≠ H.next ∧ i2 ∉ slid sv ∧ H.next + 2 ≤ i2 := by
    rcases ho2 with g | g
    ·obtain ⟨g1, _, k9, g3⟩ := hlv.tip i2 (by rw [g]; simp)
     exact ⟨by omega, by omega, fun hh => hdis i2 (by rw [g]; simp) hh, g1⟩
    ·rw [g]; simp only [new_next, set_next]
     refine ⟨by omega, by omega, fun hh => ?_, by omega⟩
     obtain ⟨_, z, _⟩ := hsv.tip _ hh
     omega
   obtain ⟨ja, jb, jc, jd⟩ := hi2b
   have hmp2 : H2.m (H.next + 1) = some (.cells 85 [.int .i64 md, (.sl sid 8 soff es), topv, lv, sv, .nils]) := by rw [hf2 _ (fun h => ja h.symm), new_m, if_neg (by simp only [set_next, new_next]; omega), set_m, if_neg (by omega), new_m, if_neg (by omega)]; exact hmp
   have hmq2 : H2.m H.next = some (.cells 27 [.int .i64 md, (.sl sid 8 soff es), topv]) := by rw [hf2 _ (fun h => jb h.symm), new_m, if_neg (by simp only [set_next, new_next]; omega), set_m, if_neg (by omega), new_m, if_neg (by omega)]; exact hmq
   have hom : IsSl (H.next + 2) H2 9 1 sv ((setsL (R.take k)).map .str) := hsv.keep (by omega) (fun y hy => by
    obtain ⟨_, z, _⟩ := hsv.tip y hy
    rw [hf2 y (fun h => jc (h ▸ hy)), new_m, if_neg (by simp only [set_next, new_next]; omega), set_m, if_neg (by omega), new_m, if_neg (by omega)])
   obtain ⟨c5, c6⟩ := hs2.one
   simp -dsimp (disch := first | omega | (apply DrawYes.mk; decide +kernel)) only [go_sem, s1, s4, s16, s17, s18, i0, hg, hmp, l1, l2, m1, m2, y1, y2, y3, y4, y5, y6, c1, c2, c3, c4, b13, b1, b9, b10, hmp2, c5, c6]
   repeat refine And.intro (by omega) ?_
   have tipne : ∀ (w : DV) (ls : List DV), IsSl (H.next + 2) H2 9 1 w ls → IsSl (H.next + 2) (H2.set (H.next + 1) (.cells 85 [.int .i64 md, (.sl sid 8 soff es), topv, v2, sv, .nils])) 9 1 w ls := fun w ls hw => hw.keep (Nat.le_refl _) (fun y hy => by
    rw [set_m, if_neg]
    obtain ⟨z, _⟩ := hw.tip y hy
    omega)
   refine ⟨(k + 1, v2, sv), ⟨⟨by simp only [set_next]; omega, fun b hb => ?_⟩, by omega, by rw [if_neg ya]; exact hmq2, rfl, tipne _ _ ?_, tipne _ _ ?_, ?_, by simp only; omega, rfl⟩, by simp only; omega⟩
   ·rw [set_m, if_neg (by omega), hf2 b (by omega), new_m, if_neg (by simp only [set_next, new_next]; omega), set_m, if_neg (by omega), new_m, if_neg (by omega)]
    exact hE.same b hb
   ·simp only
    rw [labels_take hRk, if_pos e13, List.map_append]; exact hs2
   ·simp only
    rw [sets_take hRk, if_neg (by omega)]; exact hom
   ·intro y hy
    simp only at hy
    rw [hi2] at hy
    simp only [List.mem_singleton] at hy
    subst hy; exact jc
  ·by_cases e1 : s.kind = 1
   ·skip
    have b13 : ((s.kind : Int) == 13) = false := by simp; omega
    have b1 : ((s.kind : Int) == 1) = true := by simp; omega
    have b9 : ((s.kind : Int) == 9) = false := by simp; omega
    have b10 : ((s.kind : Int) == 10) = false := by simp; omega
    simp -dsimp (disch := first | omega | (apply DrawYes.mk; decide +kernel)) only [go_sem, s1, s4, s16, s17, s18, i0, hg, hmp, l1, l2, m1, m2, y1, y2, y3, y4, y5, y6, c1, c2, c3, c4, b13, b1, b9, b10]
    repeat refine And.intro (by omega) ?_
    refine Y_float [(4, 8, 8)] (by decide +kernel) ?_
    simp -dsimp (disch := first | omega | (apply DrawYes.mk; decide +kernel)) only [go_sem, s1, s4, s16, s17, s18, i0, hg, hmp, l1, l2, m1, m2, y1, y2, y3, y4, y5, y6, c1, c2, c3, c4, b13, b1, b9, b10]
    have hN : IsSl (H.next + 2) (((H1.new (.cells 40 [.int .i64 0, .str [], .str [], .str [], .int .i64 0, .int .i64 0, .nils, .nils])).set H1.next (.cells 40 [.int .i64 s.kind, .str s.s, .str s.t, .str s.u, .int .i64 s.n, .int .i64 s.at_, vl, vm])).new (.tip 9 1 true)) 9 1 sv ((setsL (R.take k)).map .str) := hsv.keep (by simp only [new_next, set_next]; omega) (fun y hy => by obtain ⟨_, z, _⟩ := hsv.tip y hy; rw [new_m, if_neg (by simp only [set_next, new_next]; omega), set_m, if_neg (by omega), new_m, if_neg (by omega)])
    refine app2 (lo := H.next + 2) (es := (setsL (R.take k)).map .str) (new := [.str s.s]) und_38 size_9 bytes_9 und_38 zero_9 rfl rfl (by decide) hN rfl (by simp) (by simp only [new_next, set_next]; omega) (by have := labels_len (R.take k); have := sets_len (R.take k); simp only [List.length_map, List.length_take, List.length_cons, List.length_nil] at *; omega) (by have := labels_len (R.take k); have := sets_len (R.take k); simp only [List.length_map, List.length_take, List.length_cons, List.length_nil] at *; omega) ?_
    intro v2 H2 i2 hs2 hn2 hf2 hi2 ho2
    simp only [new_next, set_next] at hn2
    have hi2b : i2 ≠ H.next + 1 ∧ i2 ≠ H.next ∧ i2 ∉ slid lv ∧ H.next + 2 ≤ i2 := by
     rcases ho2 with g | g
     ·obtain ⟨g1, _, k9, g3⟩ := hsv.tip i2 (by rw [g]; simp)
      exact ⟨by omega, by omega, fun hh => hdis i2 hh (by rw [g]; simp), g1⟩
     ·rw [g]; simp only [new_next, set_next]
      refine ⟨by omega, by omega, fun hh => ?_, by omega⟩
      obtain ⟨_, z, _⟩ := hlv.tip _ hh
      omega
    obtain ⟨ja, jb, jc, jd⟩ := hi2b
    have hmp2 : H2.m (H.next + 1) = some (.cells 85 [.int .i64 md, (.sl sid 8 soff es), topv, lv, sv, .nils]) := by rw [hf2 _ (fun h => ja h.symm), new_m, if_neg (by simp only [set_next, new_next]; omega), set_m, if_neg (by omega), new_m, if_neg (by omega)]; exact hmp
    have hmq2 : H2.m H.next = some (.cells 27 [.int .i64 md, (.sl sid 8 soff es), topv]) := by rw [hf2 _ (fun h => jb h.symm), new_m, if_neg (by simp only [set_next, new_next]; omega), set_m, if_neg (by omega), new_m, if_neg (by omega)]; exact hmq
    have hom : IsSl (H.next + 2) H2 9 1 lv ((labelsL (R.take k)).map .str) := hlv.keep (by omega) (fun y hy => by
     obtain ⟨_, z, _⟩ := hlv.tip y hy
     rw [hf2 y (fun h => jc (h ▸ hy)), new_m, if_neg (by simp only [set_next, new_next]; omega), set_m, if_neg (by omega), new_m, if_neg (by omega)])
    obtain ⟨c5, c6⟩ := hs2.one
    simp -dsimp (disch := first | omega | (apply DrawYes.mk; decide +kernel)) only [go_sem, s1, s4, s16, s17, s18, i0, hg, hmp, l1, l2, m1, m2, y1, y2, y3, y4, y5, y6, c1, c2, c3, c4, b13, b1, b9, b10, hmp2, c5, c6]
    repeat refine And.intro (by omega) ?_
    have tipne : ∀ (w : DV) (ls : List DV), IsSl (H.next + 2) H2 9 1 w ls → IsSl (H.next + 2) (H2.set (H.next + 1) (.cells 85 [.int .i64 md, (.sl sid 8 soff es), topv, lv, v2, .nils])) 9 1 w ls := fun w ls hw => hw.keep (Nat.le_refl _) (fun y hy => by
     rw [set_m, if_neg]
     obtain ⟨z, _⟩ := hw.tip y hy
     omega)
    refine ⟨(k + 1, lv, v2), ⟨⟨by simp only [set_next]; omega, fun b hb => ?_⟩, by omega, by rw [if_neg ya]; exact hmq2, rfl, tipne _ _ ?_, tipne _ _ ?_, ?_, by simp only; omega, rfl⟩, by simp only; omega⟩
    ·rw [set_m, if_neg (by omega), hf2 b (by omega), new_m, if_neg (by simp only [set_next, new_next]; omega), set_m, if_neg (by omega), new_m, if_neg (by omega)]
     exact hE.same b hb
    ·simp only
     rw [labels_take hRk, if_neg (by omega)]; exact hom
    ·simp only
     rw [sets_take hRk, if_pos (by omega), List.map_append]; exact hs2
    ·intro y hy
     simp only at hy ⊢
     rw [hi2]
     simp only [List.mem_singleton]
     rintro rfl
     exact jc hy
   ·by_cases e9 : s.kind = 9
    ·skip
     have b13 : ((s.kind : Int) == 13) = false := by simp; omega
     have b1 : ((s.kind : Int) == 1) = false := by simp; omega
     have b9 : ((s.kind : Int) == 9) = true := by simp; omega
     have b10 : ((s.kind : Int) == 10) = false := by simp; omega
     simp -dsimp (disch := first | omega | (apply DrawYes.mk; decide +kernel)) only [go_sem, s1, s4, s16, s17, s18, i0, hg, hmp, l1, l2, m1, m2, y1, y2, y3, y4, y5, y6, c1, c2, c3, c4, b13, b1, b9, b10]
     repeat refine And.intro (by omega) ?_
     refine Y_float [(4, 8, 8)] (by decide +kernel) ?_
     simp -dsimp (disch := first | omega | (apply DrawYes.mk; decide +kernel)) only [go_sem, s1, s4, s16, s17, s18, i0, hg, hmp, l1, l2, m1, m2, y1, y2, y3, y4, y5, y6, c1, c2, c3, c4, b13, b1, b9, b10]
     have hN : IsSl (H.next + 2) (((H1.new (.cells 40 [.int .i64 0, .str [], .str [], .str [], .int .i64 0, .int .i64 0, .nils, .nils])).set H1.next (.cells 40 [.int .i64 s.kind, .str s.s, .str s.t, .str s.u, .int .i64 s.n, .int .i64 s.at_, vl, vm])).new (.tip 9 1 true)) 9 1 sv ((setsL (R.take k)).map .str) := hsv.keep (by simp only [new_next, set_next]; omega) (fun y hy => by obtain ⟨_, z, _⟩ := hsv.tip y hy; rw [new_m, if_neg (by simp only [set_next, new_next]; omega), set_m, if_neg (by omega), new_m, if_neg (by omega)])
     refine app2 (lo := H.next + 2) (es := (setsL (R.take k)).map .str) (new := [.str s.s]) und_38 size_9 bytes_9 und_38 zero_9 rfl rfl (by decide) hN rfl (by simp) (by simp only [new_next, set_next]; omega) (by have := labels_len (R.take k); have := sets_len (R.take k); simp only [List.length_map, List.length_take, List.length_cons, List.length_nil] at *; omega) (by have := labels_len (R.take k); have := sets_len (R.take k); simp only [List.length_map, List.length_take, List.length_cons, List.length_nil] at *; omega) ?_
     intro v2 H2 i2 hs2 hn2 hf2 hi2 ho2
     simp only [new_next, set_next] at hn2
     have hi2b : i2 ≠ H.next + 1 ∧ i2 ≠ H.next ∧ i2 ∉ slid lv ∧ H.next + 2 ≤ i2 := by
      rcases ho2 with g | g
      ·obtain ⟨g1, _, k9, g3⟩ := hsv.tip i2 (by rw [g]; simp)
       exact ⟨by omega, by omega, fun hh => hdis i2 hh (by rw [g]; simp), g1⟩
      ·rw [g]; simp only [new_next, set_next]
       refine ⟨by omega, by omega, fun hh => ?_, by omega⟩
       obtain ⟨_, z, _⟩ := hlv.tip _ hh
       omega
     obtain ⟨ja, jb, jc, jd⟩ := hi2b
     have hmp2 : H2.m (H.next + 1) = some (.cells 85 [.int .i64 md, (.sl sid 8 soff es), topv, lv, sv, .nils]) := by rw [hf2 _ (fun h => ja h.symm), new_m, if_neg (by simp only [set_next, new_next]; omega), set_m, if_neg (by omega), new_m, if_neg (by omega)]; exact hmp
     have hmq2 : H2.m H.next = some (.cells 27 [.int .i64 md, (.sl sid 8 soff es), topv]) := by rw [hf2 _ (fun h => jb h.symm), new_m, if_neg (by simp only [set_next, new_next]; omega), set_m, if_neg (by omega), new_m, if_neg (by omega)]; exact hmq
     have hom : IsSl (H.next + 2) H2 9 1 lv ((labelsL (R.take k)).map .str) := hlv.keep (by omega) (fun y hy => by
      obtain ⟨_, z, _⟩ := hlv.tip y hy
      rw [hf2 y (fun h => jc (h ▸ hy)), new_m, if_neg (by simp only [set_next, new_next]; omega), set_m, if_neg (by omega), new_m, if_neg (by omega)])
     obtain ⟨c5, c6⟩ := hs2.one
     simp -dsimp (disch := first | omega | (apply DrawYes.mk; decide +kernel)) only [go_sem, s1, s4, s16, s17, s18, i0, hg, hmp, l1, l2, m1, m2, y1, y2, y3, y4, y5, y6, c1, c2, c3, c4, b13, b1, b9, b10, hmp2, c5, c6]
     repeat refine And.intro (by omega) ?_
     have tipne : ∀ (w : DV) (ls : List DV), IsSl (H.next + 2) H2 9 1 w ls → IsSl (H.next + 2) (H2.set (H.next + 1) (.cells 85 [.int .i64 md, (.sl sid 8 soff es), topv, lv, v2, .nils])) 9 1 w ls := fun w ls hw => hw.keep (Nat.le_refl _) (fun y hy => by
      rw [set_m, if_neg]
      obtain ⟨z, _⟩ := hw.tip y hy
      omega)
     refine ⟨(k + 1, lv, v2), ⟨⟨by simp only [set_next]; omega, fun b hb => ?_⟩, by omega, by rw [if_neg ya]; exact hmq2, rfl, tipne _ _ ?_, tipne _ _ ?_, ?_, by simp only; omega, rfl⟩, by simp only; omega⟩
     ·rw [set_m, if_neg (by omega), hf2 b (by omega), new_m, if_neg (by simp only [set_next, new_next]; omega), set_m, if_neg (by omega), new_m, if_neg (by omega)]
      exact hE.same b hb
     ·simp only
      rw [labels_take hRk, if_neg (by omega)]; exact hom
     ·simp only
      rw [sets_take hRk, if_pos (by omega), List.map_append]; exact hs2
     ·intro y hy
      simp only at hy ⊢
      rw [hi2]
      simp only [List.mem_singleton]
      rintro rfl
      exact jc hy
    ·by_cases e10 : s.kind = 10
     ·skip
      have b13 : ((s.kind : Int) == 13) = false := by simp; omega
      have b1 : ((s.kind : Int) == 1) = false := by simp; omega
      have b9 : ((s.kind : Int) == 9) = false := by simp; omega
      have b10 : ((s.kind : Int) == 10) = true := by simp; omega
      simp -dsimp (disch := first | omega | (apply DrawYes.mk; decide +kernel)) only [go_sem, s1, s4, s16, s17, s18, i0, hg, hmp, l1, l2, m1, m2, y1, y2, y3, y4, y5, y6, c1, c2, c3, c4, b13, b1, b9, b10]
      repeat refine And.intro (by omega) ?_
      refine Y_float [(4, 8, 8)] (by decide +kernel) ?_
      simp -dsimp (disch := first | omega | (apply DrawYes.mk; decide +kernel)) only [go_sem, s1, s4, s16, s17, s18, i0, hg, hmp, l1, l2, m1, m2, y1, y2, y3, y4, y5, y6, c1, c2, c3, c4, b13, b1, b9, b10]
      have hN : IsSl (H.next + 2) (((H1.new (.cells 40 [.int .i64 0, .str [], .str [], .str [], .int .i64 0, .int .i64 0, .nils, .nils])).set H1.next (.cells 40 [.int .i64 s.kind, .str s.s, .str s.t, .str s.u, .int .i64 s.n, .int .i64 s.at_, vl, vm])).new (.tip 9 1 true)) 9 1 sv ((setsL (R.take k)).map .str) := hsv.keep (by simp only [new_next, set_next]; omega) (fun y hy => by obtain ⟨_, z, _⟩ := hsv.tip y hy; rw [new_m, if_neg (by simp only [set_next, new_next]; omega), set_m, if_neg (by omega), new_m, if_neg (by omega)])
      refine app2 (lo := H.next + 2) (es := (setsL (R.take k)).map .str) (new := [.str s.s]) und_38 size_9 bytes_9 und_38 zero_9 rfl rfl (by decide) hN rfl (by simp) (by simp only [new_next, set_next]; omega) (by have := labels_len (R.take k); have := sets_len (R.take k); simp only [List.length_map, List.length_take, List.length_cons, List.length_nil] at *; omega) (by have := labels_len (R.take k); have := sets_len (R.take k); simp only [List.length_map, List.length_take, List.length_cons, List.length_nil] at *; omega) ?_
      intro v2 H2 i2 hs2 hn2 hf2 hi2 ho2
      simp only [new_next, set_next] at hn2
      have hi2b : i2 ≠ H.next + 1 ∧ i2 ≠ H.next ∧ i2 ∉ slid lv ∧ H.next + 2 ≤ i2 := by
       rcases ho2 with g | g
       ·obtain ⟨g1, _, k9, g3⟩ := hsv.tip i2 (by rw [g]; simp)
        exact ⟨by omega, by omega, fun hh => hdis i2 hh (by rw [g]; simp), g1⟩
       ·rw [g]; simp only [new_next, set_next]
        refine ⟨by omega, by omega, fun hh => ?_, by omega⟩
        obtain ⟨_, z, _⟩ := hlv.tip _ hh
        omega
      obtain ⟨ja, jb, jc, jd⟩ := hi2b
      have hmp2 : H2.m (H.next + 1) = some (.cells 85 [.int .i64 md, (.sl sid 8 soff es), topv, lv, sv, .nils]) := by rw [hf2 _ (fun h => ja h.symm), new_m, if_neg (by simp only [set_next, new_next]; omega), set_m, if_neg (by omega), new_m, if_neg (by omega)]; exact hmp
      have hmq2 : H2.m H.next = some (.cells 27 [.int .i64 md, (.sl sid 8 soff es), topv]) := by rw [hf2 _ (fun h => jb h.symm), new_m, if_neg (by simp only [set_next, new_next]; omega), set_m, if_neg (by omega), new_m, if_neg (by omega)]; exact hmq
      have hom : IsSl (H.next + 2) H2 9 1 lv ((labelsL (R.take k)).map .str) := hlv.keep (by omega) (fun y hy => by
       obtain ⟨_, z, _⟩ := hlv.tip y hy
       rw [hf2 y (fun h => jc (h ▸ hy)), new_m, if_neg (by simp only [set_next, new_next]; omega), set_m, if_neg (by omega), new_m, if_neg (by omega)])
      obtain ⟨c5, c6⟩ := hs2.one
      simp -dsimp (disch := first | omega | (apply DrawYes.mk; decide +kernel)) only [go_sem, s1, s4, s16, s17, s18, i0, hg, hmp, l1, l2, m1, m2, y1, y2, y3, y4, y5, y6, c1, c2, c3, c4, b13, b1, b9, b10, hmp2, c5, c6]
      repeat refine And.intro (by omega) ?_
      have tipne : ∀ (w : DV) (ls : List DV), IsSl (H.next + 2) H2 9 1 w ls → IsSl (H.next + 2) (H2.set (H.next + 1) (.cells 85 [.int .i64 md, (.sl sid 8 soff es), topv, lv, v2, .nils])) 9 1 w ls := fun w ls hw => hw.keep (Nat.le_refl _) (fun y hy => by
       rw [set_m, if_neg]
       obtain ⟨z, _⟩ := hw.tip y hy
       omega)
      refine ⟨(k + 1, lv, v2), ⟨⟨by simp only [set_next]; omega, fun b hb => ?_⟩, by omega, by rw [if_neg ya]; exact hmq2, rfl, tipne _ _ ?_, tipne _ _ ?_, ?_, by simp only; omega, rfl⟩, by simp only; omega⟩
      ·rw [set_m, if_neg (by omega), hf2 b (by omega), new_m, if_neg (by simp only [set_next, new_next]; omega), set_m, if_neg (by omega), new_m, if_neg (by omega)]
       exact hE.same b hb
      ·simp only
       rw [labels_take hRk, if_neg (by omega)]; exact hom
      ·simp only
       rw [sets_take hRk, if_pos (by omega), List.map_append]; exact hs2
      ·intro y hy
       simp only at hy ⊢
       rw [hi2]
       simp only [List.mem_singleton]
       rintro rfl
       exact jc hy
     ·skip
      have b13 : ((s.kind : Int) == 13) = false := by simp; omega
      have b1 : ((s.kind : Int) == 1) = false := by simp; omega
      have b9 : ((s.kind : Int) == 9) = false := by simp; omega
      have b10 : ((s.kind : Int) == 10) = false := by simp; omega
      simp -dsimp (disch := first | omega | (apply DrawYes.mk; decide +kernel)) only [go_sem, s1, s4, s16, s17, s18, i0, hg, hmp, l1, l2, m1, m2, y1, y2, y3, y4, y5, y6, c1, c2, c3, c4, b13, b1, b9, b10]
      repeat refine And.intro (by omega) ?_
      have tip2 : ∀ (o o' : DObj) (w : DV) (ls : List DV), IsSl (H.next + 2) H1 9 1 w ls → IsSl (H.next + 2) ((H1.new o).set H1.next o') 9 1 w ls := fun o o' w ls hw => hw.keep (by simp only [set_next, new_next]; omega) (fun y hy => by
       obtain ⟨_, z, _⟩ := hw.tip y hy
       rw [set_m, if_neg (by omega), new_m, if_neg (by omega)])
      refine ⟨(k + 1, lv, sv), ⟨(hE.new).set hE.le, by omega, hmq, rfl, tip2 _ _ _ _ ?_, tip2 _ _ _ _ ?_, hdis, by simp only; omega, rfl⟩, by simp only; omega⟩
      ·simp only
       rw [labels_take hRk, if_neg e13]; exact hlv
      ·simp only
       rw [sets_take hRk, if_neg (by omega)]; exact hsv
 ·have i0 : ¬ (k : Int) < R.length := by omega
  have hkE : k = R.length := by omega
  rw [hkE, List.take_length] at hlv hsv
  have z1 : ¬ H.next + 1 = H1.next := by omega
  have z2 : ¬ H.next = H1.next := by omega
  have sz86 : cfg.T.size 86 = some 1 := by kernel_rfl
  have un86 : cfg.T.und 86 = some (.func #[40] #[4] false) := Tryz.underlying86
  simp -dsimp (disch := first | omega | (apply DrawYes.mk; decide +kernel)) only [go_sem, s1, s4, s16, s17, s18, i0, hmq, z1, z2, a1, a2, a3, sz86]
  obtain ⟨rid, hrid⟩ : ∃ rid, rid = H1.next := ⟨_, rfl⟩
  have hEB : Ext H (H1.new (.tip 88 6 true)) := hE.new
  have hmpB : (H1.new (.tip 88 6 true)).m (H.next + 1) = some (.cells 85 [.int .i64 md, stmv, topv, lv, sv, .nils]) := by rw [new_m, if_neg (by omega)]; exact hmp
  have hnB : H.next + 2 ≤ (H1.new (.tip 88 6 true)).next := by simp only [new_next]; omega
  generalize H1.new (.tip 88 6 true) = HB at *
  have hlvS := hlv.slv
  have hsvS := hsv.slv
  rw [← hrid]
  refine Y_loop (α := Nat × DV × List (List UInt8)) (fun x σ H' => Ext H H' ∧ H.next + 2 ≤ H'.next ∧ H'.m (H.next + 1) = some (.cells 85 [.int .i64 md, stmv, topv, lv, sv, x.2.1]) ∧ IsSl (H.next + 2) H' 9 1 x.2.1 (x.2.2.map .str) ∧ x.2.2.length ≤ x.1 ∧ x.1 ≤ R.length ∧ checkL md R (labelsL R) (setsL R) (R.drop x.1) x.2.2 = checkP md R ∧ σ 4 = .ptr (H.next + 1) 0 ∧ σ 7 = .sl rid 2 0 (rulesD (H.next + 1)) ∧ σ 73 = stmv ∧ σ 74 = .int .i64 R.length ∧ σ 75 = .int .i64 x.1) (fun x => R.length - x.1) (0, .nils, []) ?_ ?_
  ·simp -dsimp (disch := first | omega | (apply DrawYes.mk; decide +kernel)) only [go_sem, s4]
   exact ⟨hEB, hnB, hmpB, .inl ⟨rfl, rfl⟩, Nat.zero_le _, rfl, rfl⟩
  clear s1 s4 s16 s17 s18 σ hmq i0 hlt k hk hkE
  rintro ⟨k, ev, seen⟩ σ H2 ⟨hE2, hn2, hm2, hev, hsl, hk, hchk, s4, s7, s73, s74, s75⟩
  dsimp only at hm2 hev hsl hk hchk s75
  by_cases hlt : k < R.length
  ·have i0 : (k : Int) < R.length := by omega
   have hRk : R[k]? = some R[k] := List.getElem?_eq_getElem hlt
   have hmem : R[k] ∈ R := List.getElem_mem hlt
   have hdr : R.drop k = R[k] :: R.drop (k + 1) := List.drop_eq_getElem_cons hlt
   generalize R[k] = s at hRk hmem hdr
   have hR1 := hR.1
   obtain ⟨hs1, hs2, hs3, hs4, hs5⟩ := hR.2 s hmem
   have htx := hR.texts hmem
   rw [hdr, checkL] at hchk
   obtain ⟨d, hg, hd⟩ := hall.get hRk
   have hd0 := hd
   obtain ⟨vl, vm, rfl, hvl, hvm⟩ := hd
   obtain ⟨sid, soff, hst⟩ : ∃ sid soff, stmv = .sl sid 8 soff es := by
    rcases hes with ⟨_, h⟩ | h
    ·rw [h] at hg; simp at hg
    ·exact h
   rw [hst] at s73
   obtain ⟨l1, l2, _⟩ := hvl.facts
   obtain ⟨m1, m2, _⟩ := hvm.facts
   have hll := labels_len R
   have hsl2 := sets_len R
   have hck : CkS H2 (H.next + 1) md R stmv topv lv sv ev es (labelsL R) (setsL R) seen := ⟨by omega, hm2, hes, hall, hlvS, hsvS, hev.slv, by omega, by omega, by omega⟩
   have hE3 : ∀ o o', Ext H2 ((H2.new o).set H2.next o') := fun o o' => (Ext.refl.new).set (Nat.le_refl _)
   simp -dsimp (disch := first | omega | (apply DrawYes.mk; decide +kernel)) only [go_sem, s4, s7, s73, s74, s75, i0, hg, l1, l2, m1, m2]
   refine And.intro (by omega) ?_
   have hE3' := hE3 (.cells 40 [.int .i64 0, .str [], .str [], .str [], .int .i64 0, .int .i64 0, .nils, .nils]) (.cells 40 [.int .i64 s.kind, .str s.s, .str s.t, .str s.u, .int .i64 s.n, .int .i64 s.at_, vl, vm])
   have h9 : ((H2.new (.cells 40 [.int .i64 0, .str [], .str [], .str [], .int .i64 0, .int .i64 0, .nils, .nils])).set H2.next (.cells 40 [.int .i64 s.kind, .str s.s, .str s.t, .str s.u, .int .i64 s.n, .int .i64 s.at_, vl, vm])).m H2.next = some (.cells 40 [.int .i64 s.kind, .str s.s, .str s.t, .str s.u, .int .i64 s.n, .int .i64 s.at_, vl, vm]) := by rw [set_m, if_pos rfl]
   have h9n : H2.next < ((H2.new (.cells 40 [.int .i64 0, .str [], .str [], .str [], .int .i64 0, .int .i64 0, .nils, .nils])).set H2.next (.cells 40 [.int .i64 s.kind, .str s.s, .str s.t, .str s.u, .int .i64 s.n, .int .i64 s.at_, vl, vm])).next := by simp only [set_next, new_next]; omega
   generalize (H2.new (.cells 40 [.int .i64 0, .str [], .str [], .str [], .int .i64 0, .int .i64 0, .nils, .nils])).set H2.next (.cells 40 [.int .i64 s.kind, .str s.s, .str s.t, .str s.u, .int .i64 s.n, .int .i64 s.at_, vl, vm]) = G0 at *
   refine forget (P := fun σ => Y cfg _ σ _ _ _ _ _ _) (fun σ => σ 4 = .ptr (H.next + 1) 0 ∧ σ 7 = .sl rid 2 0 (rulesD (H.next + 1)) ∧ σ 9 = .ptr H2.next 0 ∧ σ 73 = .sl sid 8 soff es ∧ σ 74 = .int .i64 R.length ∧ σ 75 = .int .i64 k ∧ σ 79 = .sl rid 2 0 (rulesD (H.next + 1)) ∧ σ 80 = .int .i64 6 ∧ σ 81 = .int .i64 0) (by simp -dsimp (disch := first | omega | (apply DrawYes.mk; decide +kernel)) only [go_sem, s4, s7, s73, s74, s75]; try rfl) ?_
   clear s4 s7 s73 s74 s75 σ
   rintro σ ⟨s4, s7, s9, s73, s74, s75, s79, s80, s81⟩
   have hEG0 : Ext H2 G0 := hE3'
   have n0 : H2.next < G0.next := h9n
   have g0 := h9
   refine Y_loop1 ?_
   have u0 : (rulesD (H.next + 1))[0]? = some (.agg [.int .i64 30, .fn (.func 55) [.ptr (H.next + 1) 0] []]) := rfl
   have v0 : Int.toNat 0 = 0 := rfl
   have w0 : ¬ H2.next = G0.next := by omega
   simp -dsimp (disch := first | omega | (apply DrawYes.mk; decide +kernel)) only [go_sem, s4, s7, s9, s73, s74, s75, s79, s80, s81, g0, u0, v0, w0, l1, l2, m1, m2, sz86, un86]
   have hEN0 : ∀ o o', Ext G0 ((G0.new o).set G0.next o') := fun o o' => (Ext.refl.new).set (Nat.le_refl _)
   refine call (ckmode_ok (hck.ext (hEG0.trans (hEN0 _ _))) hd0 hs1 hs2) ?_
   rintro _ G1 ⟨rfl, hEK0⟩
   have hEG1 : Ext H2 G1 := hEG0.trans ((hEN0 _ _).trans hEK0)
   have hle0 := hEK0.le
   simp only [set_next, new_next] at hle0
   have n1 : H2.next < G1.next := by omega
   have g1 := ((hEN0 _ _).trans hEK0).get n0 g0
   have q0 := hEK0.get (b := G0.next) (by simp only [set_next, new_next]; omega) (by rw [set_m, if_pos rfl])
   cases hb0 : (modeB md R s) with
   | false =>
    have her : errB md R (labelsL R) (setsL R) seen s = 30 := by unfold errB; simp only [hb0]; rfl
    rw [if_pos (by rw [her]; decide), her] at hchk
    simp -dsimp (disch := first | omega | (apply DrawYes.mk; decide +kernel)) only [go_sem, s4, s7, s9, s73, s74, s75, s79, s80, s81, g1, q0, l1, l2, m1, m2, sz86, un86]
    rw [← hchk]
    exact ⟨rfl, hE2.trans hEG1⟩
   | true =>
   simp -dsimp (disch := first | omega | (apply DrawYes.mk; decide +kernel)) only [go_sem, s4, s7, s9, s73, s74, s75, s79, s80, s81, g1, q0, l1, l2, m1, m2, sz86, un86]
   refine forget (P := fun σ => Y cfg _ σ _ _ _ _ _ _) (fun σ => σ 4 = .ptr (H.next + 1) 0 ∧ σ 7 = .sl rid 2 0 (rulesD (H.next + 1)) ∧ σ 9 = .ptr H2.next 0 ∧ σ 73 = .sl sid 8 soff es ∧ σ 74 = .int .i64 R.length ∧ σ 75 = .int .i64 k ∧ σ 79 = .sl rid 2 0 (rulesD (H.next + 1)) ∧ σ 80 = .int .i64 6 ∧ σ 81 = .int .i64 1) (by simp -dsimp (disch := first | omega | (apply DrawYes.mk; decide +kernel)) only [go_sem, s4, s7, s9, s73, s74, s75, s79, s80, s81]; try rfl) ?_
   clear s4 s7 s9 s73 s74 s75 s79 s80 s81 σ
   rintro σ ⟨s4, s7, s9, s73, s74, s75, s79, s80, s81⟩
   refine Y_loop1 ?_
   have u1 : (rulesD (H.next + 1))[1]? = some (.agg [.int .i64 1, .fn (.func 56) [.ptr (H.next + 1) 0] []]) := rfl
   have v1 : Int.toNat 1 = 1 := rfl
   have w1 : ¬ H2.next = G1.next := by omega
   simp -dsimp (disch := first | omega | (apply DrawYes.mk; decide +kernel)) only [go_sem, s4, s7, s9, s73, s74, s75, s79, s80, s81, g1, u1, v1, w1, l1, l2, m1, m2, sz86, un86]
   have hEN1 : ∀ o o', Ext G1 ((G1.new o).set G1.next o') := fun o o' => (Ext.refl.new).set (Nat.le_refl _)
   refine call (ckwindow_ok (hck.ext (hEG1.trans (hEN1 _ _))) hd0) ?_
   rintro _ G2 ⟨rfl, hEK1⟩
   have hEG2 : Ext H2 G2 := hEG1.trans ((hEN1 _ _).trans hEK1)
   have hle1 := hEK1.le
   simp only [set_next, new_next] at hle1
   have n2 : H2.next < G2.next := by omega
   have g2 := ((hEN1 _ _).trans hEK1).get n1 g1
   have q1 := hEK1.get (b := G1.next) (by simp only [set_next, new_next]; omega) (by rw [set_m, if_pos rfl])
   cases hb1 : (windowB s) with
   | false =>
    have her : errB md R (labelsL R) (setsL R) seen s = 1 := by unfold errB; simp only [hb0, hb1]; rfl
    rw [if_pos (by rw [her]; decide), her] at hchk
    simp -dsimp (disch := first | omega | (apply DrawYes.mk; decide +kernel)) only [go_sem, s4, s7, s9, s73, s74, s75, s79, s80, s81, g2, q1, l1, l2, m1, m2, sz86, un86]
    rw [← hchk]
    exact ⟨rfl, hE2.trans hEG2⟩
   | true =>
   simp -dsimp (disch := first | omega | (apply DrawYes.mk; decide +kernel)) only [go_sem, s4, s7, s9, s73, s74, s75, s79, s80, s81, g2, q1, l1, l2, m1, m2, sz86, un86]
   refine forget (P := fun σ => Y cfg _ σ _ _ _ _ _ _) (fun σ => σ 4 = .ptr (H.next + 1) 0 ∧ σ 7 = .sl rid 2 0 (rulesD (H.next + 1)) ∧ σ 9 = .ptr H2.next 0 ∧ σ 73 = .sl sid 8 soff es ∧ σ 74 = .int .i64 R.length ∧ σ 75 = .int .i64 k ∧ σ 79 = .sl rid 2 0 (rulesD (H.next + 1)) ∧ σ 80 = .int .i64 6 ∧ σ 81 = .int .i64 2) (by simp -dsimp (disch := first | omega | (apply DrawYes.mk; decide +kernel)) only [go_sem, s4, s7, s9, s73, s74, s75, s79, s80, s81]; try rfl) ?_
   clear s4 s7 s9 s73 s74 s75 s79 s80 s81 σ
   rintro σ ⟨s4, s7, s9, s73, s74, s75, s79, s80, s81⟩
   refine Y_loop1 ?_
   have u2 : (rulesD (H.next + 1))[2]? = some (.agg [.int .i64 34, .fn (.func 57) [.ptr (H.next + 1) 0] []]) := rfl
   have v2 : Int.toNat 2 = 2 := rfl
   have w2 : ¬ H2.next = G2.next := by omega
   simp -dsimp (disch := first | omega | (apply DrawYes.mk; decide +kernel)) only [go_sem, s4, s7, s9, s73, s74, s75, s79, s80, s81, g2, u2, v2, w2, l1, l2, m1, m2, sz86, un86]
   have hEN2 : ∀ o o', Ext G2 ((G2.new o).set G2.next o') := fun o o' => (Ext.refl.new).set (Nat.le_refl _)
   refine call (ckcodes_ok (hck.ext (hEG2.trans (hEN2 _ _))) hd0 hs4 hs5) ?_
   rintro _ G3 ⟨rfl, hEK2⟩
   have hEG3 : Ext H2 G3 := hEG2.trans ((hEN2 _ _).trans hEK2)
   have hle2 := hEK2.le
   simp only [set_next, new_next] at hle2
   have n3 : H2.next < G3.next := by omega
   have g3 := ((hEN2 _ _).trans hEK2).get n2 g2
   have q2 := hEK2.get (b := G2.next) (by simp only [set_next, new_next]; omega) (by rw [set_m, if_pos rfl])
   cases hb2 : (codesK md s) with
   | false =>
    have her : errB md R (labelsL R) (setsL R) seen s = 34 := by unfold errB; simp only [hb0, hb1, hb2]; rfl
    rw [if_pos (by rw [her]; decide), her] at hchk
    simp -dsimp (disch := first | omega | (apply DrawYes.mk; decide +kernel)) only [go_sem, s4, s7, s9, s73, s74, s75, s79, s80, s81, g3, q2, l1, l2, m1, m2, sz86, un86]
    rw [← hchk]
    exact ⟨rfl, hE2.trans hEG3⟩
   | true =>
   simp -dsimp (disch := first | omega | (apply DrawYes.mk; decide +kernel)) only [go_sem, s4, s7, s9, s73, s74, s75, s79, s80, s81, g3, q2, l1, l2, m1, m2, sz86, un86]
   refine forget (P := fun σ => Y cfg _ σ _ _ _ _ _ _) (fun σ => σ 4 = .ptr (H.next + 1) 0 ∧ σ 7 = .sl rid 2 0 (rulesD (H.next + 1)) ∧ σ 9 = .ptr H2.next 0 ∧ σ 73 = .sl sid 8 soff es ∧ σ 74 = .int .i64 R.length ∧ σ 75 = .int .i64 k ∧ σ 79 = .sl rid 2 0 (rulesD (H.next + 1)) ∧ σ 80 = .int .i64 6 ∧ σ 81 = .int .i64 3) (by simp -dsimp (disch := first | omega | (apply DrawYes.mk; decide +kernel)) only [go_sem, s4, s7, s9, s73, s74, s75, s79, s80, s81]; try rfl) ?_
   clear s4 s7 s9 s73 s74 s75 s79 s80 s81 σ
   rintro σ ⟨s4, s7, s9, s73, s74, s75, s79, s80, s81⟩
   refine Y_loop1 ?_
   have u3 : (rulesD (H.next + 1))[3]? = some (.agg [.int .i64 31, .fn (.func 58) [.ptr (H.next + 1) 0] []]) := rfl
   have v3 : Int.toNat 3 = 3 := rfl
   have w3 : ¬ H2.next = G3.next := by omega
   simp -dsimp (disch := first | omega | (apply DrawYes.mk; decide +kernel)) only [go_sem, s4, s7, s9, s73, s74, s75, s79, s80, s81, g3, u3, v3, w3, l1, l2, m1, m2, sz86, un86]
   have hEN3 : ∀ o o', Ext G3 ((G3.new o).set G3.next o') := fun o o' => (Ext.refl.new).set (Nat.le_refl _)
   refine call (ckonce_ok (hck.ext (hEG3.trans (hEN3 _ _))) hd0) ?_
   rintro _ G4 ⟨rfl, hEK3⟩
   have hEG4 : Ext H2 G4 := hEG3.trans ((hEN3 _ _).trans hEK3)
   have hle3 := hEK3.le
   simp only [set_next, new_next] at hle3
   have n4 : H2.next < G4.next := by omega
   have g4 := ((hEN3 _ _).trans hEK3).get n3 g3
   have q3 := hEK3.get (b := G3.next) (by simp only [set_next, new_next]; omega) (by rw [set_m, if_pos rfl])
   cases hb3 : (onceB seen s) with
   | false =>
    have her : errB md R (labelsL R) (setsL R) seen s = 31 := by unfold errB; simp only [hb0, hb1, hb2, hb3]; rfl
    rw [if_pos (by rw [her]; decide), her] at hchk
    simp -dsimp (disch := first | omega | (apply DrawYes.mk; decide +kernel)) only [go_sem, s4, s7, s9, s73, s74, s75, s79, s80, s81, g4, q3, l1, l2, m1, m2, sz86, un86]
    rw [← hchk]
    exact ⟨rfl, hE2.trans hEG4⟩
   | true =>
   simp -dsimp (disch := first | omega | (apply DrawYes.mk; decide +kernel)) only [go_sem, s4, s7, s9, s73, s74, s75, s79, s80, s81, g4, q3, l1, l2, m1, m2, sz86, un86]
   refine forget (P := fun σ => Y cfg _ σ _ _ _ _ _ _) (fun σ => σ 4 = .ptr (H.next + 1) 0 ∧ σ 7 = .sl rid 2 0 (rulesD (H.next + 1)) ∧ σ 9 = .ptr H2.next 0 ∧ σ 73 = .sl sid 8 soff es ∧ σ 74 = .int .i64 R.length ∧ σ 75 = .int .i64 k ∧ σ 79 = .sl rid 2 0 (rulesD (H.next + 1)) ∧ σ 80 = .int .i64 6 ∧ σ 81 = .int .i64 4) (by simp -dsimp (disch := first | omega | (apply DrawYes.mk; decide +kernel)) only [go_sem, s4, s7, s9, s73, s74, s75, s79, s80, s81]; try rfl) ?_
   clear s4 s7 s9 s73 s74 s75 s79 s80 s81 σ
   rintro σ ⟨s4, s7, s9, s73, s74, s75, s79, s80, s81⟩
   refine Y_loop1 ?_
   have u4 : (rulesD (H.next + 1))[4]? = some (.agg [.int .i64 33, .fn (.func 59) [.ptr (H.next + 1) 0] []]) := rfl
   have v4 : Int.toNat 4 = 4 := rfl
   have w4 : ¬ H2.next = G4.next := by omega
   simp -dsimp (disch := first | omega | (apply DrawYes.mk; decide +kernel)) only [go_sem, s4, s7, s9, s73, s74, s75, s79, s80, s81, g4, u4, v4, w4, l1, l2, m1, m2, sz86, un86]
   have hEN4 : ∀ o o', Ext G4 ((G4.new o).set G4.next o') := fun o o' => (Ext.refl.new).set (Nat.le_refl _)
   refine call (ckthere_ok (hck.ext (hEG4.trans (hEN4 _ _))) hd0) ?_
   rintro _ G5 ⟨rfl, hEK4⟩
   have hEG5 : Ext H2 G5 := hEG4.trans ((hEN4 _ _).trans hEK4)
   have hle4 := hEK4.le
   simp only [set_next, new_next] at hle4
   have n5 : H2.next < G5.next := by omega
   have g5 := ((hEN4 _ _).trans hEK4).get n4 g4
   have q4 := hEK4.get (b := G4.next) (by simp only [set_next, new_next]; omega) (by rw [set_m, if_pos rfl])
   cases hb4 : (thereB (labelsL R) s) with
   | false =>
    have her : errB md R (labelsL R) (setsL R) seen s = 33 := by unfold errB; simp only [hb0, hb1, hb2, hb3, hb4]; rfl
    rw [if_pos (by rw [her]; decide), her] at hchk
    simp -dsimp (disch := first | omega | (apply DrawYes.mk; decide +kernel)) only [go_sem, s4, s7, s9, s73, s74, s75, s79, s80, s81, g5, q4, l1, l2, m1, m2, sz86, un86]
    rw [← hchk]
    exact ⟨rfl, hE2.trans hEG5⟩
   | true =>
   simp -dsimp (disch := first | omega | (apply DrawYes.mk; decide +kernel)) only [go_sem, s4, s7, s9, s73, s74, s75, s79, s80, s81, g5, q4, l1, l2, m1, m2, sz86, un86]
   refine forget (P := fun σ => Y cfg _ σ _ _ _ _ _ _) (fun σ => σ 4 = .ptr (H.next + 1) 0 ∧ σ 7 = .sl rid 2 0 (rulesD (H.next + 1)) ∧ σ 9 = .ptr H2.next 0 ∧ σ 73 = .sl sid 8 soff es ∧ σ 74 = .int .i64 R.length ∧ σ 75 = .int .i64 k ∧ σ 79 = .sl rid 2 0 (rulesD (H.next + 1)) ∧ σ 80 = .int .i64 6 ∧ σ 81 = .int .i64 5) (by simp -dsimp (disch := first | omega | (apply DrawYes.mk; decide +kernel)) only [go_sem, s4, s7, s9, s73, s74, s75, s79, s80, s81]; try rfl) ?_
   clear s4 s7 s9 s73 s74 s75 s79 s80 s81 σ
   rintro σ ⟨s4, s7, s9, s73, s74, s75, s79, s80, s81⟩
   refine Y_loop1 ?_
   have u5 : (rulesD (H.next + 1))[5]? = some (.agg [.int .i64 32, .fn (.func 60) [.ptr (H.next + 1) 0] []]) := rfl
   have v5 : Int.toNat 5 = 5 := rfl
   have w5 : ¬ H2.next = G5.next := by omega
   simp -dsimp (disch := first | omega | (apply DrawYes.mk; decide +kernel)) only [go_sem, s4, s7, s9, s73, s74, s75, s79, s80, s81, g5, u5, v5, w5, l1, l2, m1, m2, sz86, un86]
   have hEN5 : ∀ o o', Ext G5 ((G5.new o).set G5.next o') := fun o o' => (Ext.refl.new).set (Nat.le_refl _)
   refine call (ckknown_ok (hck.ext (hEG5.trans (hEN5 _ _))) hd0 htx) ?_
   rintro _ G6 ⟨rfl, hEK5⟩
   have hEG6 : Ext H2 G6 := hEG5.trans ((hEN5 _ _).trans hEK5)
   have hle5 := hEK5.le
   simp only [set_next, new_next] at hle5
   have n6 : H2.next < G6.next := by omega
   have g6 := ((hEN5 _ _).trans hEK5).get n5 g5
   have q5 := hEK5.get (b := G5.next) (by simp only [set_next, new_next]; omega) (by rw [set_m, if_pos rfl])
   cases hb5 : (knownB (setsL R) s) with
   | false =>
    have her : errB md R (labelsL R) (setsL R) seen s = 32 := by unfold errB; simp only [hb0, hb1, hb2, hb3, hb4, hb5]; rfl
    rw [if_pos (by rw [her]; decide), her] at hchk
    simp -dsimp (disch := first | omega | (apply DrawYes.mk; decide +kernel)) only [go_sem, s4, s7, s9, s73, s74, s75, s79, s80, s81, g6, q5, l1, l2, m1, m2, sz86, un86]
    rw [← hchk]
    exact ⟨rfl, hE2.trans hEG6⟩
   | true =>
   simp -dsimp (disch := first | omega | (apply DrawYes.mk; decide +kernel)) only [go_sem, s4, s7, s9, s73, s74, s75, s79, s80, s81, g6, q5, l1, l2, m1, m2, sz86, un86]
   refine forget (P := fun σ => Y cfg _ σ _ _ _ _ _ _) (fun σ => σ 4 = .ptr (H.next + 1) 0 ∧ σ 7 = .sl rid 2 0 (rulesD (H.next + 1)) ∧ σ 9 = .ptr H2.next 0 ∧ σ 73 = .sl sid 8 soff es ∧ σ 74 = .int .i64 R.length ∧ σ 75 = .int .i64 k ∧ σ 79 = .sl rid 2 0 (rulesD (H.next + 1)) ∧ σ 80 = .int .i64 6 ∧ σ 81 = .int .i64 6) (by simp -dsimp (disch := first | omega | (apply DrawYes.mk; decide +kernel)) only [go_sem, s4, s7, s9, s73, s74, s75, s79, s80, s81]; try rfl) ?_
   clear s4 s7 s9 s73 s74 s75 s79 s80 s81 σ
   rintro σ ⟨s4, s7, s9, s73, s74, s75, s79, s80, s81⟩
   have her : errB md R (labelsL R) (setsL R) seen s = 0 := by unfold errB; simp only [hb0, hb1, hb2, hb3, hb4, hb5]; rfl
   rw [if_neg (by rw [her]; decide)] at hchk
   refine Y_loop1 ?_
   have hmG := hEG6.get (by omega) hm2
   have hleG := hEG6.le
   have hevG : IsSl (H.next + 2) G6 9 1 ev (seen.map .str) := hev.keep hEG6.le (fun y hy => by obtain ⟨_, z, _⟩ := hev.tip y hy; exact hEG6.same y z)
   by_cases e13 : s.kind = 13
   ·have b13 : ((s.kind : Int) == 13) = true := by simp; omega
    rw [if_pos e13] at hchk
    simp -dsimp (disch := first | omega | (apply DrawYes.mk; decide +kernel)) only [go_sem, s4, s7, s9, s73, s74, s75, s79, s80, s81, g6, l1, l2, m1, m2, b13]
    refine Y_float [(4, 8, 8)] (by decide +kernel) ?_
    have c1 := hevG.one.1
    have c2 := hevG.one.2
    have x1 : ¬ H.next + 1 = G6.next := by omega
    have x2 : ¬ H2.next = G6.next := by omega
    simp -dsimp (disch := first | omega | (apply DrawYes.mk; decide +kernel)) only [go_sem, s4, s7, s9, s73, s74, s75, s79, s80, s81, g6, l1, l2, m1, m2, b13, hmG, x1, x2, c1, c2]
    have hN : IsSl (H.next + 2) (G6.new (.tip 9 1 true)) 9 1 ev (seen.map .str) := hevG.keep (Nat.le_succ _) (fun y hy => by obtain ⟨_, z, _⟩ := hevG.tip y hy; rw [new_m, if_neg (Nat.ne_of_lt z)])
    refine app2 (lo := H.next + 2) (es := seen.map .str) (new := [.str s.s]) und_38 size_9 bytes_9 und_38 zero_9 rfl rfl (by decide) hN rfl (by simp) (by simp only [new_next]; omega) (by simp only [List.length_map, List.length_cons, List.length_nil]; omega) (by simp only [List.length_map, List.length_cons, List.length_nil]; omega) ?_
    intro v2 H8 i2 hs8 hn8 hf8 hi8 ho8
    simp only [new_next] at hn8
    have ja : i2 ≠ H.next + 1 ∧ H.next + 2 ≤ i2 := by
     rcases ho8 with g | g
     ·obtain ⟨z1, _⟩ := hevG.tip i2 (by rw [g]; simp)
      exact ⟨by omega, z1⟩
     ·rw [g]; simp only [new_next]; omega
    have hm8 : H8.m (H.next + 1) = some (.cells 85 [.int .i64 md, stmv, topv, lv, sv, ev]) := by rw [hf8 _ (fun h => ja.1 h.symm), new_m, if_neg x1]; exact hmG
    obtain ⟨c5, c6⟩ := hs8.one
    simp -dsimp (disch := first | omega | (apply DrawYes.mk; decide +kernel)) only [go_sem, s4, s7, s9, s73, s74, s75, s79, s80, s81, hmG, hm8, x1, x2, c1, c2, c5, c6]
    refine ⟨(k + 1, v2, seen ++ [s.s]), ⟨⟨by rw [set_next]; omega, fun b hb => ?_⟩, by first | omega | (rw [set_next]; omega), rfl, ?_, by simp only [List.length_append, List.length_cons, List.length_nil]; omega, by simp only; omega, hchk, hst.symm, rfl⟩, by simp only; omega⟩
    ·rw [set_m, if_neg (by omega), hf8 b (by omega), new_m, if_neg (by omega)]
     exact (hE2.trans hEG6).same b hb
    ·simp only
     rw [List.map_append]
     refine hs8.keep (Nat.le_refl _) (fun y hy => ?_)
     rw [set_m, if_neg]
     obtain ⟨z, _⟩ := hs8.tip y hy
     omega
   ·have b13 : ((s.kind : Int) == 13) = false := by simp; omega
    rw [if_neg e13] at hchk
    simp -dsimp (disch := first | omega | (apply DrawYes.mk; decide +kernel)) only [go_sem, s4, s7, s9, s73, s74, s75, s79, s80, s81, g6, l1, l2, m1, m2, b13]
    exact ⟨(k + 1, ev, seen), ⟨hE2.trans hEG6, by omega, hmG, hevG, by simp only; omega, by simp only; omega, hchk, hst.symm, rfl⟩, by simp only; omega⟩
  ·have i0 : ¬ (k : Int) < R.length := by omega
   have hkE : k = R.length := by omega
   rw [hkE, List.drop_length, checkL] at hchk
   simp -dsimp (disch := first | omega | (apply DrawYes.mk; decide +kernel)) only [go_sem, s4, s7, s73, s74, s75, i0]
   rw [← hchk]
   exact ⟨rfl, hE2⟩
end Go.Proofs.YtcknfhhbijlobaaGreatDoor.D
