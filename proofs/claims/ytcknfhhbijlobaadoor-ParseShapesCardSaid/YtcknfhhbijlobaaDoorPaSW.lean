import Derived.Test.YtcknfhhbijlobaaDoorPaSP
/- ParseShapes: the walk. -/
namespace Go.Proofs.YtcknfhhbijlobaaDoor.D
open Go
set_option linter.unusedVariables false
set_option linter.unusedSimpArgs false
set_option maxRecDepth 100000

theorem ia_2 {b off : Nat} {i : Int} {K : DV → Prop} {l : Later K} (h0 : 0 ≤ i) (h1 : i < 2) : WD (indexAtD cfg.T 41 (.ptr b off) (.int .i64 i)) l = K (.ptr b (off + i.toNat)) := by
  have hs : cfg.T.size 9 = some 1 := size_9
  simp only [indexAtD, und_41, hs]
  rw [if_pos ⟨h0, by omega⟩, Nat.mul_one]
  rfl
theorem and_num (n : Int) : ∃ m : Nat, IntKind.i64.wrap (BitVec.ofInt IntKind.i64.bits n &&& BitVec.ofInt IntKind.i64.bits 536870911).toNat = m ∧ m < 536870912 := by
  refine ⟨(BitVec.ofInt IntKind.i64.bits n &&& BitVec.ofInt IntKind.i64.bits 536870911).toNat, ?_, ?_⟩
  · have hlt : (BitVec.ofInt IntKind.i64.bits n &&& BitVec.ofInt IntKind.i64.bits 536870911).toNat < 536870912 := by
      rw [BitVec.toNat_and]
      exact Nat.lt_of_le_of_lt Nat.and_le_right (by decide)
    unfold IntKind.wrap
    simp [IntKind.signed, IntKind.bits] at hlt ⊢
    omega
  · rw [BitVec.toNat_and]
    exact Nat.lt_of_le_of_lt Nat.and_le_right (by decide)

theorem stmK_kind {a b : List UInt8} {n : Nat} : ∀ k, 0 < k → k < 18 → (stmK k a b n).kind = k ∧ (stmK k a b n).at_ = 10 ∧ (stmK k a b n).n = if k = 6 ∨ k = 12 then n else 0
  | 0, h, _ => by omega
  | 1, _, _ => by exact ⟨rfl, rfl, rfl⟩
  | 2, _, _ => by exact ⟨rfl, rfl, rfl⟩
  | 3, _, _ => by exact ⟨rfl, rfl, rfl⟩
  | 4, _, _ => by exact ⟨rfl, rfl, rfl⟩
  | 5, _, _ => by exact ⟨rfl, rfl, rfl⟩
  | 6, _, _ => by exact ⟨rfl, rfl, rfl⟩
  | 7, _, _ => by exact ⟨rfl, rfl, rfl⟩
  | 8, _, _ => by exact ⟨rfl, rfl, rfl⟩
  | 9, _, _ => by exact ⟨rfl, rfl, rfl⟩
  | 10, _, _ => by exact ⟨rfl, rfl, rfl⟩
  | 11, _, _ => by exact ⟨rfl, rfl, rfl⟩
  | 12, _, _ => by exact ⟨rfl, rfl, rfl⟩
  | 13, _, _ => by exact ⟨rfl, rfl, rfl⟩
  | 14, _, _ => by exact ⟨rfl, rfl, rfl⟩
  | 15, _, _ => by exact ⟨rfl, rfl, rfl⟩
  | 16, _, _ => by exact ⟨rfl, rfl, rfl⟩
  | 17, _, _ => by exact ⟨rfl, rfl, rfl⟩
  | k + 18, _, h => by omega
theorem stmK_len {a b : List UInt8} {n : Nat} (ha : a.length ≤ 40) (hb : b.length ≤ 40) : ∀ k, 0 < k → k < 18 → (stmK k a b n).s.length ≤ 40 ∧ (stmK k a b n).t.length ≤ 40 ∧ (stmK k a b n).u.length ≤ 40
  | 0, h, _ => by omega
  | 1, _, _ => by simp [stmK, nameW, codeW, ha, hb]
  | 2, _, _ => by simp [stmK, nameW, codeW, ha, hb]
  | 3, _, _ => by simp [stmK, nameW, codeW, ha, hb]
  | 4, _, _ => by simp [stmK, nameW, codeW, ha, hb]
  | 5, _, _ => by simp [stmK, nameW, codeW, ha, hb]
  | 6, _, _ => by simp [stmK, nameW, codeW, ha, hb]
  | 7, _, _ => by simp [stmK, nameW, codeW, ha, hb]
  | 8, _, _ => by simp [stmK, nameW, codeW, ha, hb]
  | 9, _, _ => by simp [stmK, nameW, codeW, ha, hb]
  | 10, _, _ => by simp [stmK, nameW, codeW, ha, hb]
  | 11, _, _ => by simp [stmK, nameW, codeW, ha, hb]
  | 12, _, _ => by simp [stmK, nameW, codeW, ha, hb]
  | 13, _, _ => by simp [stmK, nameW, codeW, ha, hb]
  | 14, _, _ => by simp [stmK, nameW, codeW, ha, hb]
  | 15, _, _ => by simp [stmK, nameW, codeW, ha, hb]
  | 16, _, _ => by simp [stmK, nameW, codeW, ha, hb]
  | 17, _, _ => by simp [stmK, nameW, codeW, ha, hb]
  | k + 18, _, h => by omega
def wantL (a b : List UInt8) : List DV := [.str [], .str (110 :: 97 :: 109 :: 101 :: 124 :: (a ++ [124])), .str (124 :: (a ++ [124])), .str (a ++ [124] ++ b ++ [124]), .str (a ++ [124] ++ b ++ [124]), .str (99 :: 111 :: 100 :: 101 :: 124 :: (a ++ [124])), .str [124, 124],
  .str (110 :: 97 :: 109 :: 101 :: 124 :: (a ++ [124] ++ b)), .str (a ++ [124] ++ b ++ [124]), .str (110 :: 97 :: 109 :: 101 :: 124 :: (a ++ [124] ++ b)), .str (110 :: 97 :: 109 :: 101 :: 124 :: (a ++ [124])), .str (a ++ [124] ++ b ++ [124]), .str [124, 124], .str [110, 97, 109, 101, 124, 124], .str [110, 97, 109, 101, 124, 124], .str [110, 97, 109, 101, 124, 124], .str (a ++ [124, 124]), .str [124, 124]]
theorem want_at {a b : List UInt8} {n : Nat} : ∀ k, 0 < k → k < 18 → (wantL a b)[k]? = some (.str ((stmK k a b n).s ++ [124] ++ (stmK k a b n).t ++ [124] ++ (stmK k a b n).u))
  | 0, h, _ => by omega
  | 1, _, _ => by simp [wantL, stmK, nameW, codeW]
  | 2, _, _ => by simp [wantL, stmK, nameW, codeW]
  | 3, _, _ => by simp [wantL, stmK, nameW, codeW]
  | 4, _, _ => by simp [wantL, stmK, nameW, codeW]
  | 5, _, _ => by simp [wantL, stmK, nameW, codeW]
  | 6, _, _ => by simp [wantL, stmK, nameW, codeW]
  | 7, _, _ => by simp [wantL, stmK, nameW, codeW]
  | 8, _, _ => by simp [wantL, stmK, nameW, codeW]
  | 9, _, _ => by simp [wantL, stmK, nameW, codeW]
  | 10, _, _ => by simp [wantL, stmK, nameW, codeW]
  | 11, _, _ => by simp [wantL, stmK, nameW, codeW]
  | 12, _, _ => by simp [wantL, stmK, nameW, codeW]
  | 13, _, _ => by simp [wantL, stmK, nameW, codeW]
  | 14, _, _ => by simp [wantL, stmK, nameW, codeW]
  | 15, _, _ => by simp [wantL, stmK, nameW, codeW]
  | 16, _, _ => by simp [wantL, stmK, nameW, codeW]
  | 17, _, _ => by simp [wantL, stmK, nameW, codeW]
  | k + 18, _, h => by omega
theorem parseShapes_ok {c : UInt8} {s0 s1 : List UInt8} {n : Int} {H : DH} (w0 : s0.length ≤ 9223372036854775807) (w1 : s1.length ≤ 9223372036854775807) (hnb : -9223372036854775808 ≤ n ∧ n ≤ 9223372036854775807) : WC cfg 6 [byteDV c, .agg [.str s0, .str s1], .int .i64 n] H fun v H' => v = .bool true := by
  refine WC_of (show Has cfg 6 205 [.tmp 6] _ from ⟨by kernel_rfl, Tryd.f6, Tryd.func6, rfl, rfl, rfl, by kernel_rfl⟩) (by simp) ?_
  have hb := c.toNat_lt
  simp -dsimp (disch := first | omega | (refine DrawYes.mk ?_; decide +kernel) | fail) only [go_sem, ↓reduceIte, reduceCtorEq, Nat.reduceEqDiff, Nat.reduceAdd, Nat.reduceLeDiff, Int.reduceLE, Int.reduceLT, Int.reduceBEq, Int.reduceBNe, Int.reduceEq, Nat.reduceBEq, Int.reduceToNat, Nat.reduceLT, Nat.reduceGT, Nat.reduceSub, Nat.reduceMul, Int.reduceAdd, Int.reduceSub, Int.reduceNeg, Int.reduceGE, Int.reduceGT]
  refine call pshown_ok ?_
  rintro _ H1 ⟨rfl, hE⟩
  have hn : (c.toNat : Int).tmod 17 = ((c.toNat % 17 : Nat) : Int) := by rw [Int.tmod_eq_emod_of_nonneg (by omega)]; omega
  have hn2 : c.toNat % 17 < 17 := Nat.mod_lt _ (by decide)
  generalize c.toNat % 17 = k0 at hn hn2
  have hm4 := hE.get (b := H.next) (by simp only [new_next]; omega) (by rw [new_m, if_pos rfl])
  obtain ⟨m, hm, hml⟩ := and_num n
  have g2 : Int.toNat 1 = 1 := rfl
  simp -dsimp (disch := first | omega | (refine DrawYes.mk ?_; decide +kernel) | fail) only [go_sem, ↓reduceIte, reduceCtorEq, Nat.reduceEqDiff, Nat.reduceAdd, Nat.reduceLeDiff, Int.reduceLE, Int.reduceLT, Int.reduceBEq, Int.reduceBNe, Int.reduceEq, Nat.reduceBEq, Int.reduceToNat, Nat.reduceLT, Nat.reduceGT, Nat.reduceSub, Nat.reduceMul, Int.reduceAdd, Int.reduceSub, Int.reduceNeg, Int.reduceGE, Int.reduceGT, hn, hm4, ia_2, g2]
  refine call (plain_ok (by omega)) ?_
  rintro _ H2 ⟨rfl, a, rfl, ha, hal⟩
  simp -dsimp (disch := first | omega | (refine DrawYes.mk ?_; decide +kernel) | fail) only [go_sem, ↓reduceIte, reduceCtorEq, Nat.reduceEqDiff, Nat.reduceAdd, Nat.reduceLeDiff, Int.reduceLE, Int.reduceLT, Int.reduceBEq, Int.reduceBNe, Int.reduceEq, Nat.reduceBEq, Int.reduceToNat, Nat.reduceLT, Nat.reduceGT, Nat.reduceSub, Nat.reduceMul, Int.reduceAdd, Int.reduceSub, Int.reduceNeg, Int.reduceGE, Int.reduceGT, hm4, ia_2, g2]
  refine call (plain_ok (by omega)) ?_
  rintro _ H3 ⟨rfl, b, rfl, hbk, hbl⟩
  simp -dsimp (disch := first | omega | (refine DrawYes.mk ?_; decide +kernel) | fail) only [go_sem, ↓reduceIte, reduceCtorEq, Nat.reduceEqDiff, Nat.reduceAdd, Nat.reduceLeDiff, Int.reduceLE, Int.reduceLT, Int.reduceBEq, Int.reduceBNe, Int.reduceEq, Nat.reduceBEq, Int.reduceToNat, Nat.reduceLT, Nat.reduceGT, Nat.reduceSub, Nat.reduceMul, Int.reduceAdd, Int.reduceSub, Int.reduceNeg, Int.reduceGE, Int.reduceGT, hm]
  have hk1 : (1 + (k0 : Int)) = ((k0 + 1 : Nat) : Int) := by omega
  rw [hk1]
  have hk : k0 + 1 < 18 := by omega
  have hk0 : 0 < k0 + 1 := by omega
  generalize k0 + 1 = k at hk hk0
  refine call (shape_ok hk) ?_
  rintro _ H4 ⟨rfl, hE4⟩
  have hs := (shapes_at k hk).1
  simp -dsimp (disch := first | omega | (refine DrawYes.mk ?_; decide +kernel) | fail) only [go_sem, ↓reduceIte, reduceCtorEq, Nat.reduceEqDiff, Nat.reduceAdd, Nat.reduceLeDiff, Int.reduceLE, Int.reduceLT, Int.reduceBEq, Int.reduceBNe, Int.reduceEq, Nat.reduceBEq, Int.reduceToNat, Nat.reduceLT, Nat.reduceGT, Nat.reduceSub, Nat.reduceMul, Int.reduceAdd, Int.reduceSub, Int.reduceNeg, Int.reduceGE, Int.reduceGT]
  refine call (rwords_ok (by omega)) ?_
  rintro wv H5 ⟨hE5, hw⟩
  rw [shapes_wrd k hk hk0] at hw
  refine forget (P := fun σ => WO cfg _ _ σ _ _) (fun σ => σ 7 = .bool true ∧ σ 8 = .int .i64 k ∧ σ 9 = .str a ∧ σ 10 = .str b ∧ σ 11 = .int .i64 m ∧ σ 42 = wv) (by simp -dsimp (disch := first | omega | (refine DrawYes.mk ?_; decide +kernel) | fail) only [go_sem, ↓reduceIte, reduceCtorEq, Nat.reduceEqDiff, Nat.reduceAdd, Nat.reduceLeDiff, Int.reduceLE, Int.reduceLT, Int.reduceBEq, Int.reduceBNe, Int.reduceEq, Nat.reduceBEq, Int.reduceToNat, Nat.reduceLT, Nat.reduceGT, Nat.reduceSub, Nat.reduceMul, Int.reduceAdd, Int.reduceSub, Int.reduceNeg, Int.reduceGE, Int.reduceGT]) ?_
  rintro σ ⟨s7, s8, s9, s10, s11, s42⟩
  obtain ⟨q1, hq1, hql1⟩ := quoteL_some ha hal
  obtain ⟨q2, hq2, hql2⟩ := quoteL_some hbk hbl
  obtain ⟨_, Hx, hcall, hHx, d, rfl, hd, hdd, hdl, hdn⟩ := rdigits_ok (H := H5) (n := m) (by omega)
  rw [hHx] at hcall
  have hdig : WC cfg 15 [.int .i64 m] H5 fun v H' => H' = H5 ∧ v = .str d := ⟨_, _, hcall, rfl, rfl⟩
  have hlen := srcW_len (q1 := q1) (q2 := q2) hql1 hql2 hdl (wordsS k) 0 (words_short k hk hk0)
  have hcount := words_count k hk hk0
  have hshort := words_short k hk hk0
  have hwhole := shapes_whole hk hk0 hq1 hq2 hql1 hql2 hd hdd hdl
  obtain ⟨z, hcut⟩ := shapes_cut hk hk0 hq1 hq2 hql1 hql2 hd hdd hdl
  have hne := words_some k hk hk0
  have hwl := fun H' => hw.len (H' := H') und_35
  rw [List.length_map] at hwl
  obtain ⟨wid, woff, wk, rfl, hwm, hwk, hwlo, hwhi⟩ := hw
  generalize hwsE : wordsS k = ws at *
  simp -dsimp (disch := first | omega | (refine DrawYes.mk ?_; decide +kernel) | fail) only [go_sem, ↓reduceIte, reduceCtorEq, Nat.reduceEqDiff, Nat.reduceAdd, Nat.reduceLeDiff, Int.reduceLE, Int.reduceLT, Int.reduceBEq, Int.reduceBNe, Int.reduceEq, Nat.reduceBEq, Int.reduceToNat, Nat.reduceLT, Nat.reduceGT, Nat.reduceSub, Nat.reduceMul, Int.reduceAdd, Int.reduceSub, Int.reduceNeg, Int.reduceGE, Int.reduceGT, s7, s8, s9, s10, s11, s42]
  refine Y_loop (α := Nat × Nat × List UInt8) (fun x σ H' => H' = H5 ∧ x.1 ≤ ws.length ∧ x.2.1 ≤ x.1 ∧ x.2.2 ++ srcW q1 q2 d (ws.drop x.1) x.2.1 = srcW q1 q2 d ws 0 ∧ σ 7 = .bool true ∧ σ 8 = .int .i64 k ∧ σ 9 = .str a ∧ σ 10 = .str b ∧ σ 11 = .int .i64 m ∧ σ 12 = .sl wid 1 woff (ws.map .str) ∧ σ 13 = .str x.2.2 ∧ σ 14 = .int .i64 x.2.1 ∧ σ 15 = .int .i64 x.1) (fun x => ws.length - x.1) (0, 0, []) ?_ ?_
  · simp -dsimp (disch := first | omega | (refine DrawYes.mk ?_; decide +kernel) | fail) only [go_sem, ↓reduceIte, reduceCtorEq, Nat.reduceEqDiff, Nat.reduceAdd, Nat.reduceLeDiff, Int.reduceLE, Int.reduceLT, Int.reduceBEq, Int.reduceBNe, Int.reduceEq, Nat.reduceBEq, Int.reduceToNat, Nat.reduceLT, Nat.reduceGT, Nat.reduceSub, Nat.reduceMul, Int.reduceAdd, Int.reduceSub, Int.reduceNeg, Int.reduceGE, Int.reduceGT, s7, s8, s9, s10, s11, s42]
    simp
  clear s7 s8 s9 s10 s11 s42 σ
  rintro ⟨i, tx, src⟩ σ H6 ⟨rfl, hi, htx, hsrc, s7, s8, s9, s10, s11, s12, s13, s14, s15⟩
  dsimp only at hi htx hsrc s13 s14 s15
  have hsl := congrArg List.length hsrc
  rw [List.length_append] at hsl
  by_cases hil : i < ws.length
  · have i0 : (i : Int) < ws.length := by omega
    have hg : ws[i]? = some ws[i] := List.getElem?_eq_getElem hil
    have hdr : ws.drop i = ws[i] :: ws.drop (i + 1) := List.drop_eq_getElem_cons hil
    have hps := hshort ws[i] (List.getElem_mem hil)
    generalize ws[i] = p at hg hdr hps
    have hgm : (ws.map DV.str)[i]? = some (.str p) := by rw [List.getElem?_map, hg]; rfl
    have hpl := partX_len (q1 := q1) (q2 := q2) (d := d) (p := p) (tx := tx) hql1 hql2 hdl hps
    rw [hdr, srcW] at hsrc hsl
    have key : ∀ part tx', partX q1 q2 d p tx = part → (if p = [116] then tx + 1 else tx) = tx' → (src ++ [32] ++ part) ++ srcW q1 q2 d (ws.drop (i + 1)) tx' = srcW q1 q2 d ws 0 := by
      rintro part tx' rfl rfl
      rw [← hsrc]; simp
    have hsrcl : src.length ≤ 2000 := by omega
    by_cases e1 : p = [110]
    · have b1 : (p == [110]) = true := by simp [e1]
      have kk := key nameW tx (by unfold partX; rw [if_pos e1]) (if_neg (by rw [e1]; decide))
      simp -dsimp (disch := first | omega | (refine DrawYes.mk ?_; decide +kernel) | fail) only [go_sem, ↓reduceIte, reduceCtorEq, Nat.reduceEqDiff, Nat.reduceAdd, Nat.reduceLeDiff, Int.reduceLE, Int.reduceLT, Int.reduceBEq, Int.reduceBNe, Int.reduceEq, Nat.reduceBEq, Int.reduceToNat, Nat.reduceLT, Nat.reduceGT, Nat.reduceSub, Nat.reduceMul, Int.reduceAdd, Int.reduceSub, Int.reduceNeg, Int.reduceGE, Int.reduceGT, s7, s8, s9, s10, s11, s12, s13, s14, s15, hwl, i0, hgm, b1]
      repeat refine And.intro (by first | omega | (simp only [List.length_append, List.length_cons, List.length_nil]; omega)) ?_
      exact ⟨(i + 1, tx, src ++ [32] ++ nameW), ⟨by simp only; omega, by simp only; omega, kk, rfl, rfl, rfl⟩, by simp only; omega⟩
    have b1 : (p == [110]) = false := by simp [e1]
    by_cases e2 : p = [119]
    · have b2 : (p == [119]) = true := by simp [e2]
      have kk := key codeW tx (by unfold partX; rw [if_neg e1, if_pos e2]) (if_neg (by rw [e2]; decide))
      simp -dsimp (disch := first | omega | (refine DrawYes.mk ?_; decide +kernel) | fail) only [go_sem, ↓reduceIte, reduceCtorEq, Nat.reduceEqDiff, Nat.reduceAdd, Nat.reduceLeDiff, Int.reduceLE, Int.reduceLT, Int.reduceBEq, Int.reduceBNe, Int.reduceEq, Nat.reduceBEq, Int.reduceToNat, Nat.reduceLT, Nat.reduceGT, Nat.reduceSub, Nat.reduceMul, Int.reduceAdd, Int.reduceSub, Int.reduceNeg, Int.reduceGE, Int.reduceGT, s7, s8, s9, s10, s11, s12, s13, s14, s15, hwl, i0, hgm, b1, b2]
      repeat refine And.intro (by first | omega | (simp only [List.length_append, List.length_cons, List.length_nil]; omega)) ?_
      exact ⟨(i + 1, tx, src ++ [32] ++ codeW), ⟨by simp only; omega, by simp only; omega, kk, rfl, rfl, rfl⟩, by simp only; omega⟩
    have b2 : (p == [119]) = false := by simp [e2]
    by_cases e3 : p = [105]
    · have b3 : (p == [105]) = true := by simp [e3]
      have kk := key d tx (by unfold partX; rw [if_neg e1, if_neg e2, if_pos e3]) (if_neg (by rw [e3]; decide))
      simp -dsimp (disch := first | omega | (refine DrawYes.mk ?_; decide +kernel) | fail) only [go_sem, ↓reduceIte, reduceCtorEq, Nat.reduceEqDiff, Nat.reduceAdd, Nat.reduceLeDiff, Int.reduceLE, Int.reduceLT, Int.reduceBEq, Int.reduceBNe, Int.reduceEq, Nat.reduceBEq, Int.reduceToNat, Nat.reduceLT, Nat.reduceGT, Nat.reduceSub, Nat.reduceMul, Int.reduceAdd, Int.reduceSub, Int.reduceNeg, Int.reduceGE, Int.reduceGT, s7, s8, s9, s10, s11, s12, s13, s14, s15, hwl, i0, hgm, b1, b2, b3]
      repeat refine And.intro (by first | omega | (simp only [List.length_append, List.length_cons, List.length_nil]; omega)) ?_
      refine call hdig ?_
      rintro _ _ ⟨rfl, rfl⟩
      simp -dsimp (disch := first | omega | (refine DrawYes.mk ?_; decide +kernel) | fail) only [go_sem, ↓reduceIte, reduceCtorEq, Nat.reduceEqDiff, Nat.reduceAdd, Nat.reduceLeDiff, Int.reduceLE, Int.reduceLT, Int.reduceBEq, Int.reduceBNe, Int.reduceEq, Nat.reduceBEq, Int.reduceToNat, Nat.reduceLT, Nat.reduceGT, Nat.reduceSub, Nat.reduceMul, Int.reduceAdd, Int.reduceSub, Int.reduceNeg, Int.reduceGE, Int.reduceGT, s7, s8, s9, s10, s11, s12, s13, s14, s15, hwl, i0, hgm, b1, b2, b3]
      repeat refine And.intro (by first | omega | (simp only [List.length_append, List.length_cons, List.length_nil]; omega)) ?_
      exact ⟨(i + 1, tx, src ++ [32] ++ d), ⟨by simp only; omega, by simp only; omega, kk, rfl, rfl, rfl⟩, by simp only; omega⟩
    have b3 : (p == [105]) = false := by simp [e3]
    by_cases e4 : p = [116]
    · have b4 : (p == [116]) = true := by simp [e4]
      have kk := key (if 0 < tx then q2 else q1) (tx + 1) (by unfold partX; rw [if_neg e1, if_neg e2, if_neg e3, if_pos e4]) (if_pos e4)
      simp -dsimp (disch := first | omega | (refine DrawYes.mk ?_; decide +kernel) | fail) only [go_sem, ↓reduceIte, reduceCtorEq, Nat.reduceEqDiff, Nat.reduceAdd, Nat.reduceLeDiff, Int.reduceLE, Int.reduceLT, Int.reduceBEq, Int.reduceBNe, Int.reduceEq, Nat.reduceBEq, Int.reduceToNat, Nat.reduceLT, Nat.reduceGT, Nat.reduceSub, Nat.reduceMul, Int.reduceAdd, Int.reduceSub, Int.reduceNeg, Int.reduceGE, Int.reduceGT, s7, s8, s9, s10, s11, s12, s13, s14, s15, hwl, i0, hgm, b1, b2, b3, b4]
      repeat refine And.intro (by first | omega | (simp only [List.length_append, List.length_cons, List.length_nil]; omega)) ?_
      refine call (quote_ok (by omega) hq1) ?_
      rintro _ _ ⟨rfl, rfl⟩
      by_cases ht : 0 < tx
      · have i1 : (0 : Int) < tx := by omega
        rw [if_pos ht] at kk
        simp -dsimp (disch := first | omega | (refine DrawYes.mk ?_; decide +kernel) | fail) only [go_sem, ↓reduceIte, reduceCtorEq, Nat.reduceEqDiff, Nat.reduceAdd, Nat.reduceLeDiff, Int.reduceLE, Int.reduceLT, Int.reduceBEq, Int.reduceBNe, Int.reduceEq, Nat.reduceBEq, Int.reduceToNat, Nat.reduceLT, Nat.reduceGT, Nat.reduceSub, Nat.reduceMul, Int.reduceAdd, Int.reduceSub, Int.reduceNeg, Int.reduceGE, Int.reduceGT, s7, s8, s9, s10, s11, s12, s13, s14, s15, hwl, i0, hgm, b1, b2, b3, b4, i1]
        repeat refine And.intro (by first | omega | (simp only [List.length_append, List.length_cons, List.length_nil]; omega)) ?_
        refine call (quote_ok (by omega) hq2) ?_
        rintro _ _ ⟨rfl, rfl⟩
        simp -dsimp (disch := first | omega | (refine DrawYes.mk ?_; decide +kernel) | fail) only [go_sem, ↓reduceIte, reduceCtorEq, Nat.reduceEqDiff, Nat.reduceAdd, Nat.reduceLeDiff, Int.reduceLE, Int.reduceLT, Int.reduceBEq, Int.reduceBNe, Int.reduceEq, Nat.reduceBEq, Int.reduceToNat, Nat.reduceLT, Nat.reduceGT, Nat.reduceSub, Nat.reduceMul, Int.reduceAdd, Int.reduceSub, Int.reduceNeg, Int.reduceGE, Int.reduceGT, s7, s8, s9, s10, s11, s12, s13, s14, s15, hwl, i0, hgm, b1, b2, b3, b4, i1]
        repeat refine And.intro (by first | omega | (simp only [List.length_append, List.length_cons, List.length_nil]; omega)) ?_
        exact ⟨(i + 1, tx + 1, src ++ [32] ++ q2), ⟨by simp only; omega, by simp only; omega, kk, rfl, rfl, rfl⟩, by simp only; omega⟩
      · have i1 : ¬ (0 : Int) < tx := by omega
        rw [if_neg ht] at kk
        simp -dsimp (disch := first | omega | (refine DrawYes.mk ?_; decide +kernel) | fail) only [go_sem, ↓reduceIte, reduceCtorEq, Nat.reduceEqDiff, Nat.reduceAdd, Nat.reduceLeDiff, Int.reduceLE, Int.reduceLT, Int.reduceBEq, Int.reduceBNe, Int.reduceEq, Nat.reduceBEq, Int.reduceToNat, Nat.reduceLT, Nat.reduceGT, Nat.reduceSub, Nat.reduceMul, Int.reduceAdd, Int.reduceSub, Int.reduceNeg, Int.reduceGE, Int.reduceGT, s7, s8, s9, s10, s11, s12, s13, s14, s15, hwl, i0, hgm, b1, b2, b3, b4, i1]
        repeat refine And.intro (by first | omega | (simp only [List.length_append, List.length_cons, List.length_nil]; omega)) ?_
        exact ⟨(i + 1, tx + 1, src ++ [32] ++ q1), ⟨by simp only; omega, by simp only; omega, kk, rfl, rfl, rfl⟩, by simp only; omega⟩
    have b4 : (p == [116]) = false := by simp [e4]
    by_cases e5 : p = [123]
    · have b5 : (p == [123]) = true := by simp [e5]
      have kk := key [123, 32, 125] tx (by unfold partX; rw [if_neg e1, if_neg e2, if_neg e3, if_neg e4, if_pos e5]) (if_neg e4)
      simp -dsimp (disch := first | omega | (refine DrawYes.mk ?_; decide +kernel) | fail) only [go_sem, ↓reduceIte, reduceCtorEq, Nat.reduceEqDiff, Nat.reduceAdd, Nat.reduceLeDiff, Int.reduceLE, Int.reduceLT, Int.reduceBEq, Int.reduceBNe, Int.reduceEq, Nat.reduceBEq, Int.reduceToNat, Nat.reduceLT, Nat.reduceGT, Nat.reduceSub, Nat.reduceMul, Int.reduceAdd, Int.reduceSub, Int.reduceNeg, Int.reduceGE, Int.reduceGT, s7, s8, s9, s10, s11, s12, s13, s14, s15, hwl, i0, hgm, b1, b2, b3, b4, b5]
      repeat refine And.intro (by first | omega | (simp only [List.length_append, List.length_cons, List.length_nil]; omega)) ?_
      exact ⟨(i + 1, tx, src ++ [32] ++ [123, 32, 125]), ⟨by simp only; omega, by simp only; omega, kk, rfl, rfl, rfl⟩, by simp only; omega⟩
    have b5 : (p == [123]) = false := by simp [e5]
    have kk := key p tx (by unfold partX; rw [if_neg e1, if_neg e2, if_neg e3, if_neg e4, if_neg e5]) (if_neg e4)
    simp -dsimp (disch := first | omega | (refine DrawYes.mk ?_; decide +kernel) | fail) only [go_sem, ↓reduceIte, reduceCtorEq, Nat.reduceEqDiff, Nat.reduceAdd, Nat.reduceLeDiff, Int.reduceLE, Int.reduceLT, Int.reduceBEq, Int.reduceBNe, Int.reduceEq, Nat.reduceBEq, Int.reduceToNat, Nat.reduceLT, Nat.reduceGT, Nat.reduceSub, Nat.reduceMul, Int.reduceAdd, Int.reduceSub, Int.reduceNeg, Int.reduceGE, Int.reduceGT, s7, s8, s9, s10, s11, s12, s13, s14, s15, hwl, i0, hgm, b1, b2, b3, b4, b5]
    repeat refine And.intro (by first | omega | (simp only [List.length_append, List.length_cons, List.length_nil]; omega)) ?_
    exact ⟨(i + 1, tx, src ++ [32] ++ p), ⟨by simp only; omega, by simp only; omega, kk, rfl, rfl, rfl⟩, by simp only; omega⟩
  have hiE : i = ws.length := by omega
  subst hiE
  have i0 : ¬ ((ws.length : Nat) : Int) < ws.length := by omega
  rw [List.drop_length, srcW, List.append_nil] at hsrc
  subst hsrc
  have hsn : srcW q1 q2 d ws 0 ≠ [] := by
    cases ws with
    | nil => exact absurd rfl hne
    | cons p r => rw [srcW]; exact List.cons_ne_nil _ _
  have hsb : (srcW q1 q2 d ws 0 == []) = false := by simpa using hsn
  generalize srcW q1 q2 d ws 0 = src at *
  have hsl1 : 0 < src.length := List.length_pos_iff.2 hsn
  have hsll : src.length ≤ 2000 := by omega
  simp -dsimp (disch := first | omega | (refine DrawYes.mk ?_; decide +kernel) | fail) only [go_sem, ↓reduceIte, reduceCtorEq, Nat.reduceEqDiff, Nat.reduceAdd, Nat.reduceLeDiff, Int.reduceLE, Int.reduceLT, Int.reduceBEq, Int.reduceBNe, Int.reduceEq, Nat.reduceBEq, Int.reduceToNat, Nat.reduceLT, Nat.reduceGT, Nat.reduceSub, Nat.reduceMul, Int.reduceAdd, Int.reduceSub, Int.reduceNeg, Int.reduceGE, Int.reduceGT, s7, s8, s9, s10, s11, s12, s13, s14, s15, hwl, i0, hsb]
  refine And.intro (by omega) ?_
  have hfl : ftpB.length = 9 := rfl
  refine call (parse_at hwhole (by simp only [List.length_cons]; omega)) ?_
  rintro _ H7 ⟨hE7, stm1, top1, rfl, hP1⟩
  obtain ⟨o1, o2, o3⟩ := hP1.two
  obtain ⟨⟨es, hes, hst⟩, _⟩ := hP1
  obtain ⟨x, rfl, hx⟩ : ∃ x, es = [x] ∧ StmV (stmK k a b (numD d)) x := by
    cases hst with
    | cons h1 h2 => cases h2; exact ⟨_, rfl, h1⟩
  obtain ⟨id, off, rfl⟩ : ∃ id off, stm1 = .sl id 8 off [x] := by
    rcases hes with ⟨_, h⟩ | h
    · cases h
    · exact h
  refine forget (P := fun σ => WO cfg _ _ σ _ _) (fun σ => σ 7 = .bool true ∧ σ 8 = .int .i64 k ∧ σ 9 = .str a ∧ σ 10 = .str b ∧ σ 11 = .int .i64 m ∧ σ 13 = .str src ∧ σ 86 = .tup [.agg [.int .i64 3, .sl id 8 off [x], top1], .int .i64 0, .int .i64 0]) (by simp -dsimp (disch := first | omega | (refine DrawYes.mk ?_; decide +kernel) | fail) only [go_sem, ↓reduceIte, reduceCtorEq, Nat.reduceEqDiff, Nat.reduceAdd, Nat.reduceLeDiff, Int.reduceLE, Int.reduceLT, Int.reduceBEq, Int.reduceBNe, Int.reduceEq, Nat.reduceBEq, Int.reduceToNat, Nat.reduceLT, Nat.reduceGT, Nat.reduceSub, Nat.reduceMul, Int.reduceAdd, Int.reduceSub, Int.reduceNeg, Int.reduceGE, Int.reduceGT, s7, s8, s9, s10, s11, s13]) ?_
  clear s7 s8 s9 s10 s11 s12 s13 s14 s15 σ
  rintro σ ⟨s7, s8, s9, s10, s11, s13, s86⟩
  have htn : ((src.length : Int) - 1).toNat = src.length - 1 := by omega
  simp -dsimp (disch := first | omega | (refine DrawYes.mk ?_; decide +kernel) | fail) only [go_sem, ↓reduceIte, reduceCtorEq, Nat.reduceEqDiff, Nat.reduceAdd, Nat.reduceLeDiff, Int.reduceLE, Int.reduceLT, Int.reduceBEq, Int.reduceBNe, Int.reduceEq, Nat.reduceBEq, Int.reduceToNat, Nat.reduceLT, Nat.reduceGT, Nat.reduceSub, Nat.reduceMul, Int.reduceAdd, Int.reduceSub, Int.reduceNeg, Int.reduceGE, Int.reduceGT, s7, s8, s9, s10, s11, s13, s86, o1, o2, htn]
  repeat refine And.intro (by first | omega | (rw [List.length_take]; omega)) ?_
  refine call (parse_at hcut (by simp only [List.length_cons, List.length_take]; omega)) ?_
  rintro _ H8 ⟨hE8, stm2, top2, rfl, hP2⟩
  obtain ⟨u1, u2, u3⟩ := hP2.two
  have hle8 := hE8.le
  simp only [set_next, new_next] at hle8
  have hm17 := hE8.get (b := H7.next) (by simp only [set_next, new_next]; omega) (by rw [set_m, if_pos rfl])
  obtain ⟨vl, vm, rfl, hvl, hvm⟩ := hx
  obtain ⟨l1, l2, _⟩ := hvl.facts
  obtain ⟨n1, n2, _⟩ := hvm.facts
  refine forget (P := fun σ => WO cfg _ _ σ _ _) (fun σ => σ 7 = .bool true ∧ σ 8 = .int .i64 k ∧ σ 9 = .str a ∧ σ 10 = .str b ∧ σ 11 = .int .i64 m ∧ σ 17 = .ptr H7.next 0 ∧ σ 19 = .int .i64 0 ∧ σ 97 = .tup [.agg [.int .i64 0, stm2, top2], .int .i64 z, .int .i64 20]) (by simp -dsimp (disch := first | omega | (refine DrawYes.mk ?_; decide +kernel) | fail) only [go_sem, ↓reduceIte, reduceCtorEq, Nat.reduceEqDiff, Nat.reduceAdd, Nat.reduceLeDiff, Int.reduceLE, Int.reduceLT, Int.reduceBEq, Int.reduceBNe, Int.reduceEq, Nat.reduceBEq, Int.reduceToNat, Nat.reduceLT, Nat.reduceGT, Nat.reduceSub, Nat.reduceMul, Int.reduceAdd, Int.reduceSub, Int.reduceNeg, Int.reduceGE, Int.reduceGT, s7, s8, s9, s10, s11, s13, s86]) ?_
  clear s7 s8 s9 s10 s11 s13 s86 σ
  rintro σ ⟨s7, s8, s9, s10, s11, s17, s19, s97⟩
  have y1 : ¬ H7.next = H8.next := by omega
  have y2 : ¬ H8.next = H8.next + 1 := by omega
  simp -dsimp (disch := first | omega | (refine DrawYes.mk ?_; decide +kernel) | fail) only [go_sem, ↓reduceIte, reduceCtorEq, Nat.reduceEqDiff, Nat.reduceAdd, Nat.reduceLeDiff, Int.reduceLE, Int.reduceLT, Int.reduceBEq, Int.reduceBNe, Int.reduceEq, Nat.reduceBEq, Int.reduceToNat, Nat.reduceLT, Nat.reduceGT, Nat.reduceSub, Nat.reduceMul, Int.reduceAdd, Int.reduceSub, Int.reduceNeg, Int.reduceGE, Int.reduceGT, s7, s8, s9, s10, s11, s17, s19, s97, u1, u2, hm17, y1, l1, l2, n1, n2]
  obtain ⟨t1, t2, t3⟩ := stmK_len (n := numD d) hal hbl k hk0 hk
  repeat refine And.intro (by first | omega | (simp only [List.length_append, List.length_cons, List.length_nil]; omega)) ?_
  have hwant := want_at (a := a) (b := b) (n := numD d) k hk0 hk
  unfold wantL at hwant
  rw [hwant]
  obtain ⟨k1, k2, k3⟩ := stmK_kind (a := a) (b := b) (n := numD d) k hk0 hk
  by_cases e6 : k = 6 ∨ k = 12
  · replace k3 : (stmK k a b (numD d)).n = m := by rw [k3, if_pos e6, hdn]
    by_cases f6 : k = 6
    · have c1 : ((k : Int) == 6) = true := by simp; omega
      simp -dsimp (disch := first | omega | (refine DrawYes.mk ?_; decide +kernel) | fail) only [go_sem, ↓reduceIte, reduceCtorEq, Nat.reduceEqDiff, Nat.reduceAdd, Nat.reduceLeDiff, Int.reduceLE, Int.reduceLT, Int.reduceBEq, Int.reduceBNe, Int.reduceEq, Nat.reduceBEq, Int.reduceToNat, Nat.reduceLT, Nat.reduceGT, Nat.reduceSub, Nat.reduceMul, Int.reduceAdd, Int.reduceSub, Int.reduceNeg, Int.reduceGE, Int.reduceGT, s7, s8, s9, s10, s11, s17, s19, s97, u1, u2, hm17, y1, y2, l1, l2, n1, n2, k1, k2, k3, c1]
    · have c1 : ((k : Int) == 6) = false := by simp; omega
      have c2 : ((k : Int) == 12) = true := by simp; omega
      simp -dsimp (disch := first | omega | (refine DrawYes.mk ?_; decide +kernel) | fail) only [go_sem, ↓reduceIte, reduceCtorEq, Nat.reduceEqDiff, Nat.reduceAdd, Nat.reduceLeDiff, Int.reduceLE, Int.reduceLT, Int.reduceBEq, Int.reduceBNe, Int.reduceEq, Nat.reduceBEq, Int.reduceToNat, Nat.reduceLT, Nat.reduceGT, Nat.reduceSub, Nat.reduceMul, Int.reduceAdd, Int.reduceSub, Int.reduceNeg, Int.reduceGE, Int.reduceGT, s7, s8, s9, s10, s11, s17, s19, s97, u1, u2, hm17, y1, y2, l1, l2, n1, n2, k1, k2, k3, c1, c2]
  · replace k3 : (stmK k a b (numD d)).n = 0 := by rw [k3, if_neg e6]
    have c1 : ((k : Int) == 6) = false := by simp; omega
    have c2 : ((k : Int) == 12) = false := by simp; omega
    have z0 : ((0 : Nat) : Int) = 0 := rfl
    simp -dsimp (disch := first | omega | (refine DrawYes.mk ?_; decide +kernel) | fail) only [go_sem, ↓reduceIte, reduceCtorEq, Nat.reduceEqDiff, Nat.reduceAdd, Nat.reduceLeDiff, Int.reduceLE, Int.reduceLT, Int.reduceBEq, Int.reduceBNe, Int.reduceEq, Nat.reduceBEq, Int.reduceToNat, Nat.reduceLT, Nat.reduceGT, Nat.reduceSub, Nat.reduceMul, Int.reduceAdd, Int.reduceSub, Int.reduceNeg, Int.reduceGE, Int.reduceGT, z0, s7, s8, s9, s10, s11, s17, s19, s97, u1, u2, hm17, y1, y2, l1, l2, n1, n2, k1, k2, k3, c1, c2]
end Go.Proofs.YtcknfhhbijlobaaDoor.D
