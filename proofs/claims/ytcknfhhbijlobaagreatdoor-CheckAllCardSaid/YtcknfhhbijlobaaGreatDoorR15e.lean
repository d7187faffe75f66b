import Derived.Test.YtcknfhhbijlobaaGreatDoorR15d
import Derived.Test.YtcknfhhbijlobaaGreatDoorPaV
namespace Go.Proofs.YtcknfhhbijlobaaGreatDoor.D
open Go
set_option linter.unusedVariables false
set_option linter.unusedSimpArgs false
set_option maxRecDepth 100000
theorem pad_at (ws : List (List UInt8)) : ((ws ++ [[], [], []]).map DV.str)[0]? = some (.str (ws.getD 0 [])) ∧ ((ws ++ [[], [], []]).map DV.str)[1]? = some (.str (ws.getD 1 [])) ∧ ((ws ++ [[], [], []]).map DV.str)[2]? = some (.str (ws.getD 2 [])) := by
 match ws with
 | [] => exact ⟨rfl, rfl, rfl⟩
 | [a] => exact ⟨rfl, rfl, rfl⟩
 | [a, b] => exact ⟨rfl, rfl, rfl⟩
 | a :: b :: c :: d => exact ⟨rfl, rfl, rfl⟩
def stC (s : Stm) (lv mv : DV) : List DV := [.int .i64 s.kind, .str s.s, .str s.t, .str s.u, .int .i64 s.n, .int .i64 s.at_, lv, mv]
theorem RdS.other {lo : Nat} {H H' : DH} {p id off q : Nat} {all : List Tok} {i : Nat} {R : List Stm} {rowv : DV} {e fr : Nat} {T : TypeId} {cs : List DV} (hr : RdS lo H p id off all i R rowv e fr) (x : Frm [q] H H') (hq : H.m q = some (.cells T cs)) (hne : p ≠ q) : RdS lo H' p id off all i R rowv e fr := by
 obtain ⟨es2, h1, h2⟩ := hr.row
 refine ⟨Nat.lt_of_lt_of_le hr.hp x.le, (x.same p hr.hp (by simpa using hne)).trans hr.obj, Nat.le_trans hr.hlo x.le, es2, h1.keep x.le (fun y hy => ?_), h2⟩
 obtain ⟨_, y2, _, k2, y4⟩ := hr.tip y hy
 refine x.same y y2 (fun hc => ?_)
 simp at hc; subst hc; rw [hq] at y4; cases y4
theorem stW_lm (kd pos : Nat) (ws : List (List UInt8)) (n : Nat) : (stW kd pos ws n).l = [] ∧ (stW kd pos ws n).m = [] ∧ (stW kd pos ws n).kind = kd := by
 unfold stW
 split <;> exact ⟨rfl, rfl, rfl⟩
theorem one_ok {lo p id off : Nat} {all : List Tok} (hl : all.length < 1000) : ∀ N, OneAt N lo p id off all
 | 0 => fun H i fr deep R rowv k hr hT hki h => by omega
 | N + 1 => fun H i fr deep R rowv k hr hT hki hN hd hRi => by
  have IH := one_ok (lo := lo) (p := p) (id := id) (off := off) hl N
  refine WC_of (show Has cfg 51 117 [.tmp 4] _ from ⟨by kernel_rfl, Tryz.f51, Tryz.func51, rfl, rfl, rfl, by kernel_rfl⟩) (by simp) ?_
  obtain ⟨k', hki', hdr, hil⟩ := hT.at
  rw [hki] at hki'; cases hki'
  simp -dsimp (disch := first | omega | (apply DrawYes.mk; decide +kernel)) only [go_sem]
  refine call (rkind_ok hr.hp hr.obj hki (by omega)) ?_
  rintro _ H1 ⟨rfl, hE1⟩
  have hr1 := hr.keep (Frm.ext hE1) (hE1.get hr.hp hr.obj)
  have ht := tok_at hki
  have hm1 := hr1.obj
  have hp1 := hr1.hp
  have h0 : ¬ p = H1.next := by omega
  have h2 : ¬ H1.next = p := by omega
  have hr2 : ∀ o o', RdS lo ((H1.new o).set H1.next o') p id off all i R rowv 0 fr := fun o o' => hr1.keep ((Frm.refl.new).set (.inr (Nat.le_refl _))) (by rw [set_m, if_neg h0, new_m, if_neg h0]; exact hm1)
  have hF2 : ∀ o o', Frm [p] H ((H1.new o).set H1.next o') := fun o o' => ((Frm.ext hE1).new).set (.inr hE1.le)
  by_cases hkz : (if k.kind = 1 then kindT k.text else none) = none
  ·have hz : (if k.kind = 1 then (kindT k.text).getD 0 else 0) = 0 := by
    split at hkz
    ·rename_i h; rw [if_pos h, hkz]; rfl
    ·rename_i h; rw [if_neg h]
   rw [hz]
   simp -dsimp (disch := first | omega | (apply DrawYes.mk; decide +kernel)) only [go_sem, hm1, ht, h0, h2]
   refine Y_float [(4, 14, 14), (8, 14, 14), (11, 14, 14)] (by decide +kernel) ?_
   simp -dsimp (disch := first | omega | (apply DrawYes.mk; decide +kernel)) only [go_sem, hm1, ht, h0, h2]
   refine ⟨by omega, ?_⟩
   refine call (rrfail_ok (hr2 _ _).hp (hr2 _ _).obj hki) ?_
   rintro _ H3 ⟨rfl, hF3, hm3⟩
   rw [if_pos rfl, if_pos rfl] at hm3
   simp -dsimp (disch := first | omega | (apply DrawYes.mk; decide +kernel)) only [go_sem]
   exact ⟨i, R, rowv, 20, k.pos, 0, (hr2 _ _).keep hF3 hm3, ((hF2 _ _).trans hF3).wide, fun y h => .inl h, Nat.le_refl _, rfl, .inl ⟨by decide, hil, one_none hkz⟩⟩
  ·obtain ⟨hk1, kd, hkd⟩ : k.kind = 1 ∧ ∃ kd, kindT k.text = some kd := by
    by_cases h : k.kind = 1
    ·rw [if_pos h] at hkz
     cases hq : kindT k.text with
     | none => exact absurd hq hkz
     | some kd => exact ⟨h, kd, rfl⟩
    ·rw [if_neg h] at hkz; exact absurd rfl hkz
   obtain ⟨hkd0, hkd18⟩ := kindT_lt hkd
   have hz : (if k.kind = 1 then (kindT k.text).getD 0 else 0) = kd := by rw [if_pos hk1, hkd]; rfl
   rw [hz]
   have nz : ((kd : Int) == 0) = false := by simp; omega
   simp -dsimp (disch := first | omega | (apply DrawYes.mk; decide +kernel)) only [go_sem, hm1, ht, h0, h2]
   refine Y_float [(4, 14, 14), (8, 14, 14), (11, 14, 14)] (by decide +kernel) ?_
   simp -dsimp (disch := first | omega | (apply DrawYes.mk; decide +kernel)) only [go_sem, hm1, ht, h0, h2, nz]
   refine ⟨by omega, ?_⟩
   have hr3 : ∀ o o', RdS lo (((H1.new o).set H1.next o').set p (rdC id off all (i + 1) rowv 0 fr)) p id off all (i + 1) R rowv 0 fr := fun o o' => (hr2 o o').keep (Frm.refl.set (.inl (by simp))) (by rw [set_m, if_pos rfl])
   have hF3 : ∀ o o', Frm [p] H (((H1.new o).set H1.next o').set p (rdC id off all (i + 1) rowv 0 fr)) := fun o o' => (hF2 o o').set (.inl (by simp))
   have hq3 : ∀ o o', (((H1.new o).set H1.next o').set p (rdC id off all (i + 1) rowv 0 fr)).m H1.next = some o' := fun o o' => by rw [set_m, if_neg h2, set_m, if_pos rfl]
   have hTr : TokOk (all.drop (i + 1)) := by rw [hdr] at hT; exact hT.tail (by rw [hk1]; decide)
   refine call (rwordsK_ok (hr3 _ _).hp (hr3 _ _).obj hTr (by omega) hkd0 hkd18) ?_
   rintro _ H4 ⟨hF4, ws, n, wv, i4, e4, fr4, rfl, hw4, hwl4, hm4, hii4, hW4⟩
   have hr4 := (hr3 _ _).keep hF4 hm4
   have hFH4 := (hF3 _ _).trans hF4
   have hqlt : H1.next < H4.next := by have := hF4.le; simp only [set_next, new_next] at this; omega
   have hq4 := (hF4.same H1.next (by simp only [set_next, new_next]; omega) (by simpa using h2)).trans (hq3 _ _)
   have hqH : H.next ≤ H1.next := hE1.le
   generalize hqE : H1.next = q at *
   refine WO_cut (fun σ H' => H' = H4 ∧ σ 0 = .ptr p 0 ∧ σ 1 = .int .i64 deep ∧ σ 5 = .int .i64 kd ∧ σ 6 = .ptr q 0 ∧ σ 7 = wv ∧ σ 8 = .int .i64 n) (by simp -dsimp (disch := first | omega | (apply DrawYes.mk; decide +kernel)) only [go_sem]) ?_
   rintro σ Hx ⟨hHx, s0, s1, s5, s6, s7, s8⟩
   rw [hHx]; clear hHx Hx
   refine Y_as (Y_as (Y_as (Y_as (Y_as ?_))))
   rw [Y_seq]
   refine Y_cut (fun σ H' => σ 0 = .ptr p 0 ∧ σ 1 = .int .i64 deep ∧ σ 5 = .int .i64 kd ∧ σ 6 = .ptr q 0 ∧ RdS lo H' p id off all i4 R rowv e4 fr4 ∧ Frm [p] H H' ∧ q < H'.next ∧ H'.m q = some (.cells 40 (stC (stW kd k.pos ws n) .nils .nils))) ?_ ?_
   ·have hwq := hw4.frm (p := q) (H' := H4.set q (.cells 40 [.int .i64 kd, .str [], .str [], .str [], .int .i64 n, .int .i64 k.pos, .nils, .nils])) (Frm.refl.set (.inl (by simp))) hq4
    have hwl5 : ws.length ≤ 3 := by have := parts_cnt kd hkd18; omega
    simp -dsimp (disch := first | omega | (apply DrawYes.mk; decide +kernel)) only [go_sem, s0, s1, s5, s6, s7, s8, hq4]
    refine appn und_38 size_9 bytes_9 und_38 zero_9 rfl rfl (by decide) (hwq.ext Ext.refl.new) rfl (by simp only [List.length_map, List.length_cons, List.length_nil]; omega) (by simp only [List.length_map, List.length_cons, List.length_nil]; omega) ?_
    intro v' H5 ho5 hs5
    have hqq : ∀ o, RdS lo ((H4.set q o).new (.tip 9 3 true)) p id off all i4 R rowv e4 fr4 := fun o => (hr4.other (Frm.refl.set (.inl (by simp))) hq4 (by omega)).keep (Frm.ext Ext.refl.new) (by rw [new_m, if_neg (by have := hr4.hp; simp only [set_next]; omega), set_m, if_neg (by omega)]; exact hr4.obj)
    have hr5 := (hqq _).app hs5 (hwq.ext Ext.refl.new) (by decide)
    have hq5 := hs5.keepn (hwq.ext Ext.refl.new) (b := q) (by simp only [new_next, set_next]; omega) (by rw [new_m, if_neg (by simp only [set_next]; omega), set_m, if_pos rfl])
    have hF5 : Frm [p] H H5 := hs5.frmn ((hwq.ext Ext.refl.new).lower (hF3 _ _).le) ((hFH4.set (.inr hqH)).new)
    have hlt5 : q < H5.next := by have := hs5.le; simp only [new_next, set_next] at this; omega
    obtain ⟨vid, voff, vk, rfl, _⟩ := ho5
    obtain ⟨pa0, pa1, pa2⟩ := pad_at ws
    rw [List.map_append] at pa0 pa1 pa2
    simp only [List.map_cons, List.map_nil] at pa0 pa1 pa2
    have g1 : Int.toNat 1 = 1 := rfl
    have g2 : Int.toNat 2 = 2 := rfl
    by_cases hk2 : kd = 2
    ·have b2 : ((kd : Int) == 2) = true := by simp; omega
     simp -dsimp (disch := first | omega | (apply DrawYes.mk; decide +kernel)) only [go_sem, s0, s1, s5, s6, s7, s8, hq5, pa0, pa1, pa2, g1, g2, b2]
     refine ⟨hr5.other (((((Frm.refl.set (.inl (by simp))).set (.inl (by simp))).set (.inl (by simp))).set (.inl (by simp))).set (.inl (by simp))) hq5 (by omega), ((((hF5.set (.inr hqH)).set (.inr hqH)).set (.inr hqH)).set (.inr hqH)).set (.inr hqH), hlt5, ?_⟩
     have hc2 : ws.length ≤ 1 := by rw [hk2] at hwl4; exact hwl4
     have hg : ws.getD 2 [] = ws.getD 1 [] := by simp only [List.getD]; rw [List.getElem?_eq_none (by omega), List.getElem?_eq_none (by omega)]
     unfold stC stW
     rw [if_pos hk2, hg]
    ·have b2 : ((kd : Int) == 2) = false := by simp; omega
     simp -dsimp (disch := first | omega | (apply DrawYes.mk; decide +kernel)) only [go_sem, s0, s1, s5, s6, s7, s8, hq5, pa0, pa1, pa2, g1, g2, b2]
     refine ⟨hr5.other (((Frm.refl.set (.inl (by simp))).set (.inl (by simp))).set (.inl (by simp))) hq5 (by omega), ((hF5.set (.inr hqH)).set (.inr hqH)).set (.inr hqH), hlt5, ?_⟩
     unfold stC stW
     rw [if_neg hk2]
   ·clear s0 s1 s5 s6 s7 s8 σ
    rintro σ H5 ⟨s0, s1, s5, s6, hr5, hF5, hq5l, hq5⟩
    rw [Y_seq]
    refine Y_cut (fun σ H' => σ 0 = .ptr p 0 ∧ σ 1 = .int .i64 deep ∧ σ 5 = .int .i64 kd ∧ σ 6 = .ptr q 0 ∧ ∃ i5 R5 rowv5 e5 fr5 lv out, RdS lo H' p id off all i5 R5 rowv5 e5 fr5 ∧ Frm (p :: slid rowv) H H' ∧ (∀ y ∈ slid rowv5, y ∈ slid rowv ∨ H.next ≤ y) ∧ R5.length + (i + 1) ≤ R.length + i5 ∧ i5 < all.length ∧ q < H'.next ∧ H'.m q = some (.cells 40 (stC (stW kd k.pos ws n) lv .nils)) ∧ IntsV out lv ∧
     ((e5 ≠ 0 ∧ OneBad deep k (all.drop (i + 1)) R fr5 e5) ∨
      (e5 = 0 ∧ fr5 = fr ∧ i < i5 ∧ TokOk (all.drop i5) ∧
       ((kd ≠ 5 ∧ kd ≠ 6 ∧ out = [] ∧ R5 = R ∧ wordsP (partsL.getD kd []) deep (stm0 kd k) (to0 kd) (all.drop (i + 1)) = .whole (stW kd k.pos ws n) (all.drop i5)) ∨
        ((kd = 5 ∨ kd = 6) ∧ ∃ ts', wordsP (partsL.getD kd []) deep (stm0 kd k) (to0 kd) (all.drop (i + 1)) = .opens (stW kd k.pos ws n) ts' ∧ BlkOk deep ts' R (all.drop i5) R5 out))))) ?_ ?_
    ·by_cases h56 : kd = 5 ∨ kd = 6
     ·obtain ⟨k4, hk4, hi4⟩ := hW4.tok
      have hT4 : e4 = 0 → TokOk (all.drop i4) := fun he => by
       rcases hW4 with ⟨_, _, h, _⟩ | ⟨h, _⟩
       ·exact h
       ·exact absurd he h
      have bb : (((kd : Int) == 5) = true) ∨ (((kd : Int) == 5) = false ∧ ((kd : Int) == 6) = true) := by
       rcases h56 with h | h
       ·exact .inl (by simp; omega)
       ·exact .inr ⟨by simp; omega, by simp; omega⟩
      have hblk := block_ok (k := k4) IH hr5 hk4 hT4 hl (by omega) hd (by omega)
      have hqp : q ≠ p := fun h => h2 h
      have hqs : q ∉ slid rowv := fun h => by
       obtain ⟨_, _, _, k9, h9⟩ := hr5.tip q h
       rw [hq5] at h9; cases h9
      obtain ⟨w1, w2, w3⟩ := stW_lm kd k.pos ws n
      have hfin : ∀ v H6, ((e4 ≠ 0 → RdS lo H6 p id off all i4 R rowv e4 fr4 ∧ Frm [p] H5 H6 ∧ IsSn H5.next H6 3 1 v []) ∧ (e4 = 0 → BlkPost lo H5 p id off all i4 R rowv fr4 deep k4 v H6)) →
        H6.m q = some (.cells 40 (stC (stW kd k.pos ws n) .nils .nils)) ∧ v.one = true ∧ v.cells = [v] ∧ ∃ i5 R5 rowv5 e5 fr5 lv out, RdS lo (H6.set q (.cells 40 (stC (stW kd k.pos ws n) v .nils))) p id off all i5 R5 rowv5 e5 fr5 ∧ Frm (p :: slid rowv) H (H6.set q (.cells 40 (stC (stW kd k.pos ws n) v .nils))) ∧ (∀ y ∈ slid rowv5, y ∈ slid rowv ∨ H.next ≤ y) ∧ R5.length + (i + 1) ≤ R.length + i5 ∧ i5 < all.length ∧ q < H6.next ∧ v = lv ∧ IntsV out lv ∧
     ((e5 ≠ 0 ∧ OneBad deep k (all.drop (i + 1)) R fr5 e5) ∨
     (e5 = 0 ∧ fr5 = fr ∧ i < i5 ∧ TokOk (all.drop i5) ∧
      ((kd ≠ 5 ∧ kd ≠ 6 ∧ out = [] ∧ R5 = R ∧ wordsP (partsL.getD kd []) deep (stm0 kd k) (to0 kd) (all.drop (i + 1)) = .whole (stW kd k.pos ws n) (all.drop i5)) ∨
       ((kd = 5 ∨ kd = 6) ∧ ∃ ts', wordsP (partsL.getD kd []) deep (stm0 kd k) (to0 kd) (all.drop (i + 1)) = .opens (stW kd k.pos ws n) ts' ∧ BlkOk deep ts' R (all.drop i5) R5 out)))) := by
       intro v H6 hB
       have hmain : ∃ i5 R5 rowv5 e5 fr5 out, RdS lo H6 p id off all i5 R5 rowv5 e5 fr5 ∧ Frm (p :: slid rowv) H5 H6 ∧ (∀ y ∈ slid rowv5, y ∈ slid rowv ∨ H5.next ≤ y) ∧ R5.length + i4 ≤ R.length + i5 ∧ i5 < all.length ∧ IsSn H5.next H6 3 1 v (out.map intV) ∧
     ((e5 ≠ 0 ∧ OneBad deep k (all.drop (i + 1)) R fr5 e5) ∨
     (e5 = 0 ∧ fr5 = fr ∧ i < i5 ∧ TokOk (all.drop i5) ∧
      ((kd = 5 ∨ kd = 6) ∧ ∃ ts', wordsP (partsL.getD kd []) deep (stm0 kd k) (to0 kd) (all.drop (i + 1)) = .opens (stW kd k.pos ws n) ts' ∧ BlkOk deep ts' R (all.drop i5) R5 out))) := by
        by_cases he : e4 = 0
        ·obtain ⟨i5, R5, rowv5, e5, fr5, out, g1, g2, g3, g4, g5, g6⟩ := hB.2 he
         rcases hW4 with ⟨_, hfr4, _, hw⟩ | ⟨h, _⟩
         ·obtain ⟨k4', x1, x2, _⟩ := (hT4 he).at
          rw [hk4] at x1; cases x1
          have hw' := hw deep k.pos
          have hrk : restK kd = [[123]] := by unfold restK; rw [if_pos h56]
          rw [stW_zero, hrk, x2, wordsP] at hw'
          rcases g6 with ⟨g7, g8, ⟨y1, y2, y3⟩ | ⟨y1, y2⟩⟩ | ⟨g7, g8, g9, g10, g11, g12⟩
          ·rw [if_pos y1] at hw'
           refine ⟨i5, R5, rowv5, e5, fr5, out, g1, g2, g3, g4, g8, g5, .inl ⟨g7, ?_⟩⟩
           rw [y2, y3]
           exact one_wbad hk1 hkd hw'
          ·rw [if_neg (by omega), if_pos rfl] at hw'
           exact ⟨i5, R5, rowv5, e5, fr5, out, g1, g2, g3, g4, g8, g5, .inl ⟨g7, one_blk_bad hk1 hkd hw' w1 y2⟩⟩
          ·rw [if_neg (by omega), if_pos rfl] at hw'
           exact ⟨i5, R5, rowv5, e5, fr5, out, g1, g2, g3, g4, (by obtain ⟨_, _, _, h⟩ := g10.at; exact h), g5, .inr ⟨g7, by rw [g8, hfr4], by omega, g10, h56, _, hw', g12⟩⟩
         ·exact absurd he h
        ·obtain ⟨g1, g2, g3⟩ := hB.1 he
         rcases hW4 with ⟨h, _⟩ | ⟨_, _, hw⟩
         ·exact absurd h he
         ·have hw' := hw deep k.pos
          rw [stW_zero] at hw'
          exact ⟨i4, R, rowv, e4, fr4, [], g1, g2.wide, fun y h => .inl h, Nat.le_refl _, hi4, g3, .inl ⟨he, one_wbad hk1 hkd hw'⟩⟩
       obtain ⟨i5, R5, rowv5, e5, fr5, out, g1, g2, g3, g4, g5, g6, g7⟩ := hmain
       have hq6 : H6.m q = some (.cells 40 (stC (stW kd k.pos ws n) .nils .nils)) := (g2.same q hq5l (by simp [hqp, hqs])).trans hq5
       obtain ⟨c1, c2⟩ := g6.one
       refine ⟨hq6, c2, c1, i5, R5, rowv5, e5, fr5, v, out, g1.other (Frm.refl.set (.inl (by simp))) hq6 (fun h => hqp h.symm), (FrmR_trans hF5.wide (fun y h => .inl h) g2).set (.inr hqH), fun y hy => ?_, by omega, g5, Nat.lt_of_lt_of_le hq5l g2.le, rfl, ?_, ?_⟩
       ·rcases g3 y hy with h | h
        ·exact .inl h
        ·exact .inr (Nat.le_trans hF5.le h)
       ·obtain ⟨x1, x2, x3, x4, _⟩ := g6
        exact .inr ⟨x1, x2, x4⟩
       ·rcases g7 with h | ⟨x1, x2, x3, x4, x5⟩
        ·exact .inl h
        ·exact .inr ⟨x1, x2, x3, x4, .inr x5⟩
      rcases bb with b5 | ⟨b5, b6⟩
      ·simp -dsimp (disch := first | omega | (apply DrawYes.mk; decide +kernel)) only [go_sem, s0, s1, s5, s6, b5]
       refine call hblk ?_
       rintro v H6 hB
       obtain ⟨hq6, v1, v2, hex⟩ := hfin v H6 hB
       unfold stC at hq6
       simp -dsimp (disch := first | omega | (apply DrawYes.mk; decide +kernel)) only [go_sem, s0, s1, s5, s6, b5, hq6, v1, v2]
       obtain ⟨i5, R5, rowv5, e5, fr5, lv, out, x1, x2, x3, x4, x5, x6, rfl, x7, x8⟩ := hex
       exact ⟨i5, R5, rowv5, e5, fr5, v, out, x1, x2, x3, x4, x5, x6, rfl, x7, x8⟩
      ·simp -dsimp (disch := first | omega | (apply DrawYes.mk; decide +kernel)) only [go_sem, s0, s1, s5, s6, b5, b6]
       refine call hblk ?_
       rintro v H6 hB
       obtain ⟨hq6, v1, v2, hex⟩ := hfin v H6 hB
       unfold stC at hq6
       simp -dsimp (disch := first | omega | (apply DrawYes.mk; decide +kernel)) only [go_sem, s0, s1, s5, s6, b5, b6, hq6, v1, v2]
       obtain ⟨i5, R5, rowv5, e5, fr5, lv, out, x1, x2, x3, x4, x5, x6, rfl, x7, x8⟩ := hex
       exact ⟨i5, R5, rowv5, e5, fr5, v, out, x1, x2, x3, x4, x5, x6, rfl, x7, x8⟩
     ·have b5 : ((kd : Int) == 5) = false := by simp; omega
      have b6 : ((kd : Int) == 6) = false := by simp; omega
      simp -dsimp (disch := first | omega | (apply DrawYes.mk; decide +kernel)) only [go_sem, s0, s1, s5, s6, b5, b6]
      have hrk : restK kd = [] := by unfold restK; rw [if_neg h56]
      rcases hW4 with ⟨he, hfr, htk, hw⟩ | ⟨he, hi4, hw⟩
      ·have hw' := hw deep k.pos
       rw [stW_zero, hrk, wordsP] at hw'
       exact ⟨i4, R, rowv, e4, fr4, .nils, [], hr5, hF5.wide, fun y h => .inl h, by omega, (by obtain ⟨_, _, _, h⟩ := htk.at; exact h), hq5l, hq5, .inl ⟨rfl, rfl⟩, .inr ⟨he, hfr, by omega, htk, .inl ⟨fun h => h56 (.inl h), fun h => h56 (.inr h), rfl, rfl, hw'⟩⟩⟩
      ·have hw' := hw deep k.pos
       rw [stW_zero] at hw'
       exact ⟨i4, R, rowv, e4, fr4, .nils, [], hr5, hF5.wide, fun y h => .inl h, by omega, hi4, hq5l, hq5, .inl ⟨rfl, rfl⟩, .inl ⟨he, one_wbad hk1 hkd hw'⟩⟩
    ·clear s0 s1 s5 s6 σ hr5 hF5 hq5l hq5 H5
     rintro σ H5 ⟨s0, s1, s5, s6, i5, R5, rowv5, e5, fr5, lv, out, hr5, hF5, hsl5, hlen5, hi5, hql5, hq5, hlv, hc5⟩
     obtain ⟨w1, w2, w3⟩ := stW_lm kd k.pos ws n
     obtain ⟨k5, hk5⟩ : ∃ k5, all[i5]? = some k5 := ⟨_, List.getElem?_eq_getElem hi5⟩
     have hm5 := hr5.obj
     have hp5 := hr5.hp
     obtain ⟨l1, l2, _⟩ := @IntsV.facts _ _ hlv
     have hqp : q ≠ p := fun h => h2 h
     refine Y_as ?_
     rw [Y_seq]
     refine Y_cut (fun σ H' => σ 0 = .ptr p 0 ∧ σ 1 = .int .i64 deep ∧ σ 6 = .ptr q 0 ∧ ∃ i6 R6 rowv6 e6 fr6 lv mv ol om, RdS lo H' p id off all i6 R6 rowv6 e6 fr6 ∧ Frm (p :: slid rowv) H H' ∧ (∀ y ∈ slid rowv6, y ∈ slid rowv ∨ H.next ≤ y) ∧ R6.length + (i + 1) ≤ R.length + i6 ∧ i6 < all.length ∧ q < H'.next ∧ H'.m q = some (.cells 40 (stC (stW kd k.pos ws n) lv mv)) ∧ IntsV ol lv ∧ IntsV om mv ∧
     ((e6 ≠ 0 ∧ OneBad deep k (all.drop (i + 1)) R fr6 e6) ∨ (e6 = 0 ∧ fr6 = fr ∧ i < i6 ∧ TokOk (all.drop i6) ∧ OneOk deep k (all.drop (i + 1)) R (all.drop i6) R6 { stW kd k.pos ws n with l := ol, m := om }))) ?_ ?_
     ·have q1 : ∀ (K : DV → DH → Prop) (b : Later K), WK cfg 47 [.ptr p 0, .int .i64 1, .str [101, 108, 115, 101]] H5 b = K (.bool (decide (k5.kind = 1 ∧ k5.text = [101, 108, 115, 101]))) H5 := fun K b => rris_eq (kd := 1) hp5 hm5 hk5
      have hupd : ∀ l, ({ stW kd k.pos ws n with l := l, m := [] } : Stm) = { stW kd k.pos ws n with l := l } := fun l => by rw [← w2]
      have hno : ¬ (e5 = 0 ∧ kd = 5 ∧ (k5.kind = 1 ∧ k5.text = elseW)) → ((e5 ≠ 0 ∧ OneBad deep k (all.drop (i + 1)) R fr5 e5) ∨ (e5 = 0 ∧ fr5 = fr ∧ i < i5 ∧ TokOk (all.drop i5) ∧ OneOk deep k (all.drop (i + 1)) R (all.drop i5) R5 { stW kd k.pos ws n with l := out, m := [] })) := by
       intro hn
       rcases hc5 with h | ⟨x1, x2, x3, x4, ⟨y1, y2, y3, y4, y5⟩ | ⟨y1, ts', y2, y3⟩⟩
       ·exact .inl h
       ·refine .inr ⟨x1, x2, x3, x4, ?_⟩
        rw [hupd, y3, y4]
        have : ({ stW kd k.pos ws n with l := [] } : Stm) = stW kd k.pos ws n := by rw [← w1]
        rw [this]
        exact one_whole hk1 hkd y5
       ·refine .inr ⟨x1, x2, x3, x4, ?_⟩
        rw [hupd]
        refine one_blk hk1 hkd y2 w1 y3 ?_
        rintro ⟨z1, k2, r2, z2, z3, z4⟩
        rw [w3] at z1
        obtain ⟨k5', t1, t2, _⟩ := x4.at
        rw [hk5] at t1; cases t1
        rw [t2] at z2; cases z2
        exact hn ⟨x1, z1, z3, z4⟩
      have hnoQ : ¬ (e5 = 0 ∧ kd = 5 ∧ (k5.kind = 1 ∧ k5.text = elseW)) → ∃ i6 R6 rowv6 e6 fr6 lv mv ol om, RdS lo H5 p id off all i6 R6 rowv6 e6 fr6 ∧ Frm (p :: slid rowv) H H5 ∧ (∀ y ∈ slid rowv6, y ∈ slid rowv ∨ H.next ≤ y) ∧ R6.length + (i + 1) ≤ R.length + i6 ∧ i6 < all.length ∧ q < H5.next ∧ H5.m q = some (.cells 40 (stC (stW kd k.pos ws n) lv mv)) ∧ IntsV ol lv ∧ IntsV om mv ∧
     ((e6 ≠ 0 ∧ OneBad deep k (all.drop (i + 1)) R fr6 e6) ∨ (e6 = 0 ∧ fr6 = fr ∧ i < i6 ∧ TokOk (all.drop i6) ∧ OneOk deep k (all.drop (i + 1)) R (all.drop i6) R6 { stW kd k.pos ws n with l := ol, m := om })) := fun hn =>
       ⟨i5, R5, rowv5, e5, fr5, lv, .nils, out, [], hr5, hF5, hsl5, hlen5, hi5, hql5, hq5, hlv, .inl ⟨rfl, rfl⟩, hno hn⟩
      by_cases hoth : e5 = 0 ∧ kd = 5 ∧ (k5.kind = 1 ∧ k5.text = elseW)
      ·obtain ⟨he, h5, helse⟩ := hoth
       have c0 : ((e5 : Int) == 0) = true := by simp; omega
       have c5 : ((kd : Int) == 5) = true := by simp; omega
       have c6 : decide (k5.kind = 1 ∧ k5.text = [101, 108, 115, 101]) = true := decide_eq_true helse
       simp -dsimp (disch := first | omega | (apply DrawYes.mk; decide +kernel)) only [go_sem, s0, s1, s5, s6, hm5, q1, c0, c5, c6]
       subst he
       rcases hc5 with ⟨h, _⟩ | ⟨_, x2, x3, x4, ⟨y1, _⟩ | ⟨y1, ts', y2, y3⟩⟩
       ·exact absurd rfl h
       ·exact absurd h5 y1
       obtain ⟨k5', t1, t2, _⟩ := x4.at
       rw [hk5] at t1; cases t1
       rw [t2] at x4 y3
       have x5 := x4.tail (by rw [helse.1]; decide)
       obtain ⟨k6, hk6, t4, hi6⟩ := x5.at
       rw [t4] at y3
       have hr6 : RdS lo (H5.set p (rdC id off all (i5 + 1) rowv5 0 fr5)) p id off all (i5 + 1) R5 rowv5 0 fr5 := hr5.keep (Frm.refl.set (.inl (by simp))) (by rw [set_m, if_pos rfl])
       have hF6 : Frm [p] H5 (H5.set p (rdC id off all (i5 + 1) rowv5 0 fr5)) := Frm.refl.set (.inl (by simp))
       refine call (block_ok (k := k6) IH hr6 hk6 (fun _ => x5) hl (by omega) hd (by omega)) ?_
       rintro v H7 ⟨_, hB⟩
       obtain ⟨i7, R7, rowv7, e7, fr7, out7, g1, g2, g3, g4, g5, g6⟩ := hB rfl
       have hqs : q ∉ slid rowv5 := fun h => by
        obtain ⟨_, _, _, k9, h9⟩ := hr5.tip q h
        rw [hq5] at h9; cases h9
       have hq6 : H7.m q = some (.cells 40 (stC (stW kd k.pos ws n) lv .nils)) := by
        rw [g2.same q hql5 (by simp [hqp, hqs]), set_m, if_neg hqp]; exact hq5
       have hF7 : Frm (p :: slid rowv) H H7 := FrmR_trans hF5 hsl5 (hF6.wide.trans g2)
       obtain ⟨v2, v1⟩ := g5.one
       have hq6' := hq6
       unfold stC at hq6'
       simp -dsimp (disch := first | omega | (apply DrawYes.mk; decide +kernel)) only [go_sem, s0, s1, s5, s6, hq6', l1, l2, v1, v2]
       refine ⟨i7, R7, rowv7, e7, fr7, lv, v, out, out7, g1.other (Frm.refl.set (.inl (by simp))) hq6 (fun h => hqp h.symm), hF7.set (.inr hqH), fun y hy => ?_, by omega, ?_, Nat.lt_of_lt_of_le hql5 g2.le, rfl, hlv, ?_, ?_⟩
       ·rcases g3 y hy with h | h
        ·exact hsl5 y h
        ·have := hF5.le; simp only [set_next] at h; exact .inr (by omega)
       ·rcases g6 with ⟨_, h, _⟩ | ⟨_, _, _, h, _⟩
        ·exact h
        ·obtain ⟨_, _, _, h⟩ := h.at; exact h
       ·obtain ⟨z1, z2, z3, z4, _⟩ := g5
        exact .inr ⟨z1, z2, z4⟩
       ·rcases g6 with ⟨g7, g8, ⟨z1, z2, z3⟩ | ⟨z1, z2⟩⟩ | ⟨g7, g8, g9, g10, g11, g12⟩
        ·refine .inl ⟨g7, ?_⟩
         rw [z2, z3]
         exact one_else_bad hk1 hkd y2 w1 y3 (by rw [w3]; exact h5) helse.1 helse.2 z1
        ·exact .inl ⟨g7, one_else_bad2 hk1 hkd y2 w1 y3 (by rw [w3]; exact h5) helse.1 helse.2 z1 w2 z2⟩
        ·exact .inr ⟨g7, by rw [g8, x2], by omega, g10, one_else hk1 hkd y2 w1 y3 (by rw [w3]; exact h5) helse.1 helse.2 g11 w2 g12⟩
      ·have hQ := hnoQ hoth
       by_cases he : e5 = 0
       ·have c0 : ((e5 : Int) == 0) = true := by simp; omega
        by_cases h5 : kd = 5
        ·have c5 : ((kd : Int) == 5) = true := by simp; omega
         have c6 : decide (k5.kind = 1 ∧ k5.text = [101, 108, 115, 101]) = false := decide_eq_false fun h => hoth ⟨he, h5, h⟩
         simp -dsimp (disch := first | omega | (apply DrawYes.mk; decide +kernel)) only [go_sem, s0, s1, s5, s6, hm5, q1, c0, c5, c6]
         exact hQ
        ·have c5 : ((kd : Int) == 5) = false := by simp; omega
         simp -dsimp (disch := first | omega | (apply DrawYes.mk; decide +kernel)) only [go_sem, s0, s1, s5, s6, hm5, q1, c0, c5]
         exact hQ
       ·have c0 : ((e5 : Int) == 0) = false := by simp; omega
        simp -dsimp (disch := first | omega | (apply DrawYes.mk; decide +kernel)) only [go_sem, s0, s1, s5, s6, hm5, q1, c0]
        exact hQ
     ·clear s0 s1 s5 s6 σ hr5 hF5 hsl5 hlen5 hi5 hql5 hq5 hlv hc5 hk5 hm5 hp5 l1 l2 H5
      rintro σ H5 ⟨s0, s1, s6, i6, R6, rowv6, e6, fr6, lv, mv, ol, om, hr6, hF6, hsl6, hlen6, hi6, hql6, hq6, hlv, hmv, hc6⟩
      have hm6 := hr6.obj
      have hp6 := hr6.hp
      obtain ⟨l1, l2, _⟩ := IntsV.facts hlv
      obtain ⟨n1, n2, _⟩ := IntsV.facts hmv
      have hq6' := hq6
      unfold stC at hq6'
      simp -dsimp (disch := first | omega | (apply DrawYes.mk; decide +kernel)) only [go_sem, s0, s1, s6, hm6, hq6', l1, l2, n1, n2]
      obtain ⟨es, hsl, hall⟩ := hr6.row
      have hel : es.length = R6.length := hall.len.symm
      have h56 : ¬ p = H5.next := by omega
      have h57 : ¬ p = H5.next + 1 := by omega
      refine Y_float [(4, 7, 7)] (by decide +kernel) ?_
      simp -dsimp (disch := first | omega | (apply DrawYes.mk; decide +kernel)) only [go_sem, s0, s1, s6, hm6, hq6', l1, l2, n1, n2, h56, h57]
      have hst : IsSl lo (H5.new (.tip 40 1 true)) 40 8 rowv6 es := hsl.keep (Nat.le_succ _) (fun y hy => by obtain ⟨_, y2, _⟩ := hr6.tip y hy; rw [new_m, if_neg (Nat.ne_of_lt y2)])
      have hRl : R6.length ≤ 1000 := by omega
      refine app2 (lo := lo) (es := es) (new := [.agg (stC (stW kd k.pos ws n) lv mv)]) und_24 size_40 bytes_40 und_24 zero_40 rfl rfl (by decide) hst rfl (by simp) (by simp only [new_next]; have := hr6.hlo; omega) (by simp; omega) (by simp; omega) ?_
      intro stmv2 H6 i2 hs2 hn2 hf2 hi2 ho2
      have hp2 : p ≠ i2 := by
       rcases ho2 with g | g
       ·obtain ⟨_, _, g3, _⟩ := hr6.tip i2 (by rw [g]; simp)
        exact fun h => g3 h.symm
       ·rw [g]; simp only [new_next]; omega
      have hm7 : H6.m p = some (rdC id off all i6 rowv6 e6 fr6) := by rw [hf2 p hp2]; simp only [new_m, if_neg h56]; exact hm6
      simp only [new_next] at hn2
      obtain ⟨o9, o10⟩ := hs2.one
      have hlen2 : ∀ H', lenD cfg.T H' 24 stmv2 = some (.int .i64 (R6.length + 1)) := fun H' => by rw [hs2.len und_24, List.length_append, hel]; rfl
      simp -dsimp (disch := first | omega | (apply DrawYes.mk; decide +kernel)) only [go_sem, s0, s1, s6, hm6, hm7, hq6', l1, l2, n1, n2, h56, h57, o9, o10, hlen2]
      have hle6 := hF6.le
      have hi2 : ∀ y ∈ slid stmv2, y ∈ slid rowv ∨ H.next ≤ y := by
       intro y hy
       rw [hi2] at hy
       simp only [List.mem_singleton] at hy
       subst hy
       rcases ho2 with g | g
       ·exact hsl6 y (by rw [g]; simp)
       ·rw [g]; simp only [new_next]; exact .inr (by omega)
      have hi2' : i2 ∈ slid rowv ∨ H.next ≤ i2 := by
       rcases ho2 with g | g
       ·exact hsl6 i2 (by rw [g]; simp)
       ·rw [g]; simp only [new_next]; exact .inr (by omega)
      refine ⟨i6, R6 ++ [{ stW kd k.pos ws n with l := ol, m := om }], stmv2, e6, fr6, R6.length, ⟨?_, by rw [set_m, if_pos rfl], ?_, _, hs2.keep (Nat.le_refl _) (fun y hy => ?_), hall.app (.cons ⟨lv, mv, rfl, hlv, hmv⟩ .nil)⟩, ⟨?_, fun b hb hnb => ?_⟩, hi2, ?_, ?_, ?_⟩
      ·simp only [set_next]; omega
      ·simp only [set_next]; have := hr6.hlo; omega
      ·rw [set_m, if_neg]
       rintro rfl
       obtain ⟨_, _, k8, h8⟩ := hs2.tip y hy
       rw [hm7] at h8; cases h8
      ·simp only [set_next]; omega
      ·have hbp : ¬ b = p := fun h => hnb (by simp [h])
       have hbi : b ≠ i2 := by
        rintro rfl
        rcases hi2' with h | h
        ·exact hnb (List.mem_cons_of_mem _ h)
        ·omega
       rw [set_m, if_neg hbp, hf2 b hbi, new_m, if_neg (by omega)]
       exact hF6.same b hb hnb
      ·rw [List.length_append, List.length_cons, List.length_nil]; omega
      ·unfold intV; congr 1; omega
      ·rcases hc6 with ⟨x1, x2⟩ | ⟨x1, x2, x3, x4, x5⟩
       ·exact .inl ⟨x1, hi6, x2⟩
       ·exact .inr ⟨x1, x2, x3, x4, _, _, rfl, rfl, x5⟩
end Go.Proofs.YtcknfhhbijlobaaGreatDoor.D
