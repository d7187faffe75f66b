import Derived.Test.YtcknfhhbijlobaaDoorParJ
import Derived.Test.YtcknfhhbijlobaaDoorR14
import Derived.Test.YtcknfhhbijlobaaDoorPaW
/- ParseJoins: the walk. -/
namespace Go.Proofs.YtcknfhhbijlobaaDoor.D
open Go
set_option linter.unusedVariables false
set_option linter.unusedSimpArgs false
set_option maxRecDepth 100000

/-- What is no longer asked for is dropped. -/
theorem forget {P : Sg → Prop} {σ : Sg} (I : Sg → Prop) (h : I σ) (k : ∀ σ, I σ → P σ) : P σ := k σ h
theorem mode3 (k : Nat) (hk : k < 3) : ∃ w ∈ modeW, ([.str [115, 109, 116, 112], .str [112, 111, 112, 51], .str [102, 116, 112]] : List DV)[k]? = some (.str w) := by
  match k, hk with
  | 0, _ => exact ⟨_, by decide, rfl⟩
  | 1, _ => exact ⟨_, by decide, rfl⟩
  | 2, _ => exact ⟨_, by decide, rfl⟩
theorem top_len {s : List UInt8} (he : (parseAll s).e = 0) : (parseAll s).top.length ≤ 100 ∧ (parseAll s).R.length ≤ 100 := by
  obtain ⟨hW, _, _, h100⟩ := parse_within he
  refine ⟨?_, h100⟩
  generalize (parseAll s).top = top at *
  generalize (parseAll s).R = R at *
  by_cases h : top.length ≤ 100
  · exact h
  · have hx : top[100]? = some top[100] := List.getElem?_eq_getElem (by omega)
    have h1 := inc_ge (hW.inc top (by simp)) _ _ hx
    have h2 := hW.lt (l := top) (by simp) (List.mem_of_getElem? hx)
    omega
set_option maxHeartbeats 1000000 in
theorem parseJoins_ok {s0 t0 : List UInt8} {b : UInt8} {H : DH} : WC cfg 4 [.str s0, .str t0, byteDV b] H fun v H' => v = .bool true := by
  refine WC_of (show Has cfg 4 207 [.tmp 6] _ from ⟨by kernel_rfl, Tryd.f4, Tryd.func4, rfl, rfl, rfl, by kernel_rfl⟩) (by simp) ?_
  have hb := b.toNat_lt
  simp -dsimp (disch := first | omega | (refine DrawYes.mk ?_; decide +kernel) | fail) only [go_sem, ↓reduceIte, reduceCtorEq, Nat.reduceEqDiff, Nat.reduceAdd, Nat.reduceLeDiff, Int.reduceLE, Int.reduceLT, Int.reduceBEq, Int.reduceBNe, Int.reduceEq, Nat.reduceBEq, Int.reduceToNat, Nat.reduceLT, Nat.reduceGT, Nat.reduceSub, Nat.reduceMul, Int.reduceAdd, Int.reduceSub, Int.reduceNeg, Int.reduceGE, Int.reduceGT]
  refine call pshown_ok ?_
  rintro _ H1 ⟨rfl, hE⟩
  have hm : (b.toNat : Int).tmod 3 = ((b.toNat % 3 : Nat) : Int) := by rw [Int.tmod_eq_emod_of_nonneg (by omega)]; omega
  obtain ⟨w, hw, hw3⟩ := mode3 (b.toNat % 3) (Nat.mod_lt _ (by decide))
  generalize b.toNat % 3 = k3 at hm hw3
  obtain ⟨hw0, _, _, hwl⟩ := modeW_facts w hw
  have hcs : ∃ s, s.length ≤ 900 ∧ ((900 < (s0.length : Int) ∧ s = s0.take 900) ∨ (¬ 900 < (s.length : Int) ∧ s = s0)) := by
    by_cases h : 900 < (s0.length : Int)
    · exact ⟨_, by simp; omega, .inl ⟨h, rfl⟩⟩
    · exact ⟨_, by omega, .inr ⟨h, rfl⟩⟩
  have hct : ∃ s, s.length ≤ 900 ∧ ((900 < (t0.length : Int) ∧ s = t0.take 900) ∨ (¬ 900 < (s.length : Int) ∧ s = t0)) := by
    by_cases h : 900 < (t0.length : Int)
    · exact ⟨_, by simp; omega, .inl ⟨h, rfl⟩⟩
    · exact ⟨_, by omega, .inr ⟨h, rfl⟩⟩
  obtain ⟨s, hs, hs0⟩ := hcs
  obtain ⟨t, ht, ht0⟩ := hct
  rcases hs0 with ⟨c1, e1⟩ | ⟨c1, e1⟩ <;> rcases ht0 with ⟨c2, e2⟩ | ⟨c2, e2⟩
  all_goals
    simp -dsimp (disch := first | omega | (refine DrawYes.mk ?_; decide +kernel) | fail) only [go_sem, ↓reduceIte, reduceCtorEq, Nat.reduceEqDiff, Nat.reduceAdd, Nat.reduceLeDiff, Int.reduceLE, Int.reduceLT, Int.reduceBEq, Int.reduceBNe, Int.reduceEq, Nat.reduceBEq, Int.reduceToNat, Nat.reduceLT, Nat.reduceGT, Nat.reduceSub, Nat.reduceMul, Int.reduceAdd, Int.reduceSub, Int.reduceNeg, Int.reduceGE, Int.reduceGT, c1, c2, hm, hw3, ← e1, ← e2]
    repeat refine And.intro (by first | omega | (simp only [List.length_append, List.length_cons, List.length_nil]; omega)) ?_
    refine call (parse_ok (s := begL w ++ s) (by rw [List.length_append, begL_len]; omega)) ?_
    rintro _ H2 ⟨hE2, stm1, top1, rfl, hP1⟩
    obtain ⟨o1, o2, o3⟩ := hP1.two
    have o4 := hP1.tops
    refine forget (P := fun σ => WO cfg _ _ σ _ _) (fun σ => σ 0 = .str s ∧ σ 1 = .str t ∧ σ 7 = .bool true ∧ σ 8 = .str (109 :: 111 :: 100 :: 101 :: 32 :: (w ++ [59])) ∧ σ 47 = .tup [.agg [.int .i64 (parseAll (begL w ++ s)).mode, stm1, top1], .int .i64 (parseAll (begL w ++ s)).at_, .int .i64 (parseAll (begL w ++ s)).e]) ?_ ?_
    · simp -dsimp (disch := first | omega | (refine DrawYes.mk ?_; decide +kernel) | fail) only [go_sem, ↓reduceIte, reduceCtorEq, Nat.reduceEqDiff, Nat.reduceAdd, Nat.reduceLeDiff, Int.reduceLE, Int.reduceLT, Int.reduceBEq, Int.reduceBNe, Int.reduceEq, Nat.reduceBEq, Int.reduceToNat, Nat.reduceLT, Nat.reduceGT, Nat.reduceSub, Nat.reduceMul, Int.reduceAdd, Int.reduceSub, Int.reduceNeg, Int.reduceGE, Int.reduceGT, ← e1, ← e2]
    rintro σ ⟨h0, h1, h7, h8, h47⟩
    simp -dsimp (disch := first | omega | (refine DrawYes.mk ?_; decide +kernel) | fail) only [go_sem, ↓reduceIte, reduceCtorEq, Nat.reduceEqDiff, Nat.reduceAdd, Nat.reduceLeDiff, Int.reduceLE, Int.reduceLT, Int.reduceBEq, Int.reduceBNe, Int.reduceEq, Nat.reduceBEq, Int.reduceToNat, Nat.reduceLT, Nat.reduceGT, Nat.reduceSub, Nat.reduceMul, Int.reduceAdd, Int.reduceSub, Int.reduceNeg, Int.reduceGE, Int.reduceGT, o1, o2, h0, h1, h7, h8, h47]
    refine And.intro (by simp only [List.length_append, List.length_cons, List.length_nil]; omega) ?_
    refine call (parse_ok (s := begL w ++ t) (by rw [List.length_append, begL_len]; omega)) ?_
    rintro _ H3 ⟨hE3, stm2, top2, rfl, hP2⟩
    obtain ⟨u1, u2, u3⟩ := hP2.two
    have u4 := hP2.tops
    refine forget (P := fun σ => WO cfg _ _ σ _ _) (fun σ => σ 0 = .str s ∧ σ 1 = .str t ∧ σ 7 = .bool true ∧ σ 8 = .str (109 :: 111 :: 100 :: 101 :: 32 :: (w ++ [59])) ∧ σ 9 = .ptr H2.next 0 ∧ σ 11 = .int .i64 (parseAll (begL w ++ s)).e ∧ σ 55 = .tup [.agg [.int .i64 (parseAll (begL w ++ t)).mode, stm2, top2], .int .i64 (parseAll (begL w ++ t)).at_, .int .i64 (parseAll (begL w ++ t)).e]) ?_ ?_
    · simp -dsimp (disch := first | omega | (refine DrawYes.mk ?_; decide +kernel) | fail) only [go_sem, ↓reduceIte, reduceCtorEq, Nat.reduceEqDiff, Nat.reduceAdd, Nat.reduceLeDiff, Int.reduceLE, Int.reduceLT, Int.reduceBEq, Int.reduceBNe, Int.reduceEq, Nat.reduceBEq, Int.reduceToNat, Nat.reduceLT, Nat.reduceGT, Nat.reduceSub, Nat.reduceMul, Int.reduceAdd, Int.reduceSub, Int.reduceNeg, Int.reduceGE, Int.reduceGT, h0, h1, h7, h8]
    clear h0 h1 h7 h8 h47 σ
    rintro σ ⟨h0, h1, h7, h8, h9, h11, h55⟩
    simp -dsimp (disch := first | omega | (refine DrawYes.mk ?_; decide +kernel) | fail) only [go_sem, ↓reduceIte, reduceCtorEq, Nat.reduceEqDiff, Nat.reduceAdd, Nat.reduceLeDiff, Int.reduceLE, Int.reduceLT, Int.reduceBEq, Int.reduceBNe, Int.reduceEq, Nat.reduceBEq, Int.reduceToNat, Nat.reduceLT, Nat.reduceGT, Nat.reduceSub, Nat.reduceMul, Int.reduceAdd, Int.reduceSub, Int.reduceNeg, Int.reduceGE, Int.reduceGT, u1, u2, h0, h1, h7, h8, h9, h11, h55]
    refine And.intro (by simp only [List.length_append, List.length_cons, List.length_nil]; omega) ?_
    refine And.intro (by simp only [List.length_append, List.length_cons, List.length_nil]; omega) ?_
    refine And.intro (by simp only [List.length_append, List.length_cons, List.length_nil]; omega) ?_
    refine call (parse_ok (s := begL w ++ s ++ [10] ++ t) (by simp only [List.length_append, begL_len, List.length_cons, List.length_nil]; omega)) ?_
    rintro _ H4 ⟨hE4, stm3, top3, rfl, hP3⟩
    obtain ⟨v1, v2, v3⟩ := hP3.two
    have v4 := hP3.tops
    refine forget (P := fun σ => WO cfg _ _ σ _ _) (fun σ => σ 0 = .str s ∧ σ 1 = .str t ∧ σ 7 = .bool true ∧ σ 8 = .str (109 :: 111 :: 100 :: 101 :: 32 :: (w ++ [59])) ∧ σ 9 = .ptr H2.next 0 ∧ σ 11 = .int .i64 (parseAll (begL w ++ s)).e ∧ σ 12 = .ptr H3.next 0 ∧ σ 14 = .int .i64 (parseAll (begL w ++ t)).e ∧ σ 66 = .tup [.agg [.int .i64 (parseAll (begL w ++ s ++ [10] ++ t)).mode, stm3, top3], .int .i64 (parseAll (begL w ++ s ++ [10] ++ t)).at_, .int .i64 (parseAll (begL w ++ s ++ [10] ++ t)).e]) ?_ ?_
    · simp -dsimp (disch := first | omega | (refine DrawYes.mk ?_; decide +kernel) | fail) only [go_sem, ↓reduceIte, reduceCtorEq, Nat.reduceEqDiff, Nat.reduceAdd, Nat.reduceLeDiff, Int.reduceLE, Int.reduceLT, Int.reduceBEq, Int.reduceBNe, Int.reduceEq, Nat.reduceBEq, Int.reduceToNat, Nat.reduceLT, Nat.reduceGT, Nat.reduceSub, Nat.reduceMul, Int.reduceAdd, Int.reduceSub, Int.reduceNeg, Int.reduceGE, Int.reduceGT, h0, h1, h7, h8, h9, h11]
    clear h0 h1 h7 h8 h9 h11 h55 σ
    rintro σ ⟨h0, h1, h7, h8, h9, h11, h12, h14, h66⟩
    have hj : begL w ++ s ++ [10] ++ t = begL w ++ (s ++ 10 :: t) := by simp
    have hlj : (begL w ++ s ++ [10] ++ t).length < 1000000 := by simp only [List.length_append, begL_len, List.length_cons, List.length_nil]; omega
    have hJ := joins hw hs ht
    rw [← hj] at hJ
    have hn1 := top_len (s := begL w ++ s)
    have hn2 := top_len (s := begL w ++ t)
    generalize hA : parseAll (begL w ++ s) = A at *
    generalize hB : parseAll (begL w ++ t) = B at *
    generalize hC : parseAll (begL w ++ s ++ [10] ++ t) = C at *
    obtain ⟨md1, R1, tp1, at1, er1⟩ := A
    obtain ⟨md2, R2, tp2, at2, er2⟩ := B
    obtain ⟨md3, R3, tp3, at3, er3⟩ := C
    dsimp only at *
    have l2 : H2.next < H3.next := by have := hE3.le; simp only [set_next, new_next] at this; omega
    have l3 : H3.next < H4.next := by have := hE4.le; simp only [set_next, new_next] at this; omega
    have y1 : ¬ H2.next = H4.next := by omega
    have y2 : ¬ H3.next = H4.next := by omega
    have hq4 : H4.m H3.next = some (.cells 26 [.int .i64 md2, stm2, top2]) := by rw [hE4.same _ (by simp only [set_next, new_next]; omega), set_m, if_pos rfl]
    have hp4 : H4.m H2.next = some (.cells 26 [.int .i64 md1, stm1, top1]) := by
      rw [hE4.same _ (by simp only [set_next, new_next]; omega), set_m, if_neg (by omega), new_m, if_neg (by omega), hE3.same _ (by simp only [set_next, new_next]; omega), set_m, if_pos rfl]
    by_cases z1 : er1 = 0
    · by_cases z2 : er2 = 0
      · subst z1 z2
        obtain ⟨n1, n2⟩ := hn1 rfl
        obtain ⟨n3, n4⟩ := hn2 rfl
        rcases hJ rfl rfl with ⟨rfl, hbig⟩ | ⟨rfl, hR, hT⟩
        · simp -dsimp (disch := first | omega | (refine DrawYes.mk ?_; decide +kernel) | fail) only [go_sem, ↓reduceIte, reduceCtorEq, Nat.reduceEqDiff, Nat.reduceAdd, Nat.reduceLeDiff, Int.reduceLE, Int.reduceLT, Int.reduceBEq, Int.reduceBNe, Int.reduceEq, Nat.reduceBEq, Int.reduceToNat, Nat.reduceLT, Nat.reduceGT, Nat.reduceSub, Nat.reduceMul, Int.reduceAdd, Int.reduceSub, Int.reduceNeg, Int.reduceGE, Int.reduceGT, v1, v2, y1, y2, hp4, hq4, o3, u3, v3, h0, h1, h7, h8, h9, h11, h12, h14, h66]
          refine And.intro (by simp only [List.length_append, List.length_cons, List.length_nil]; omega) ?_
          refine And.intro (by simp only [List.length_append, List.length_cons, List.length_nil]; omega) ?_
          refine And.intro (by simp only [List.length_append, List.length_cons, List.length_nil]; omega) ?_
          refine call (rall_ok (s := begL w ++ s ++ [10] ++ t) hlj) ?_
          rintro _ H5 ⟨hE5, v', rfl, hv'⟩
          have hlen := hv'.len (H' := H5) (T := cfg.T) und_36
          have hlen2 : ∀ H', lenD cfg.T H' 36 v' = some (.int .i64 (lexAll (begL w ++ s ++ [10] ++ t)).1.length) := fun H' => by rw [hv'.len und_36, List.length_map]
          have hq5 : H5.m H3.next = some (.cells 26 [.int .i64 md2, stm2, top2]) := by
            rw [hE5.same _ (by simp only [set_next, new_next]; omega), set_m, if_neg (by omega), new_m, if_neg (by omega), hq4]
          have hp5 : H5.m H2.next = some (.cells 26 [.int .i64 md1, stm1, top1]) := by
            rw [hE5.same _ (by simp only [set_next, new_next]; omega), set_m, if_neg (by omega), new_m, if_neg (by omega), hp4]
          rcases hbig with hz | hz
          · have hz0 : (((lexAll (begL w ++ s ++ [10] ++ t)).1.length : Nat) : Int) = 0 := by rw [hz]; rfl
            have hz1 : ((((lexAll (begL w ++ s ++ [10] ++ t)).1.length : Nat) : Int) == 0) = true := by rw [hz0]; rfl
            simp -dsimp (disch := first | omega | (refine DrawYes.mk ?_; decide +kernel) | fail) only [go_sem, ↓reduceIte, reduceCtorEq, Nat.reduceEqDiff, Nat.reduceAdd, Nat.reduceLeDiff, Int.reduceLE, Int.reduceLT, Int.reduceBEq, Int.reduceBNe, Int.reduceEq, Nat.reduceBEq, Int.reduceToNat, Nat.reduceLT, Nat.reduceGT, Nat.reduceSub, Nat.reduceMul, Int.reduceAdd, Int.reduceSub, Int.reduceNeg, Int.reduceGE, Int.reduceGT, h7, hlen2, hz0, hz1, hq5, hp5, o3, u3, h9, h12]
          · have hz2 : 100 < (R1.length : Int) + R2.length := by omega
            by_cases hz0 : (((lexAll (begL w ++ s ++ [10] ++ t)).1.length : Nat) : Int) = 0
            · have hz1 : ((((lexAll (begL w ++ s ++ [10] ++ t)).1.length : Nat) : Int) == 0) = true := by rw [hz0]; rfl
              simp -dsimp (disch := first | omega | (refine DrawYes.mk ?_; decide +kernel) | fail) only [go_sem, ↓reduceIte, reduceCtorEq, Nat.reduceEqDiff, Nat.reduceAdd, Nat.reduceLeDiff, Int.reduceLE, Int.reduceLT, Int.reduceBEq, Int.reduceBNe, Int.reduceEq, Nat.reduceBEq, Int.reduceToNat, Nat.reduceLT, Nat.reduceGT, Nat.reduceSub, Nat.reduceMul, Int.reduceAdd, Int.reduceSub, Int.reduceNeg, Int.reduceGE, Int.reduceGT, h7, hlen2, hz0, hz1, hq5, hp5, o3, u3, h9, h12, hz2]
            · have hz1 : ((((lexAll (begL w ++ s ++ [10] ++ t)).1.length : Nat) : Int) == 0) = false := by simpa using hz0
              simp -dsimp (disch := first | omega | (refine DrawYes.mk ?_; decide +kernel) | fail) only [go_sem, ↓reduceIte, reduceCtorEq, Nat.reduceEqDiff, Nat.reduceAdd, Nat.reduceLeDiff, Int.reduceLE, Int.reduceLT, Int.reduceBEq, Int.reduceBNe, Int.reduceEq, Nat.reduceBEq, Int.reduceToNat, Nat.reduceLT, Nat.reduceGT, Nat.reduceSub, Nat.reduceMul, Int.reduceAdd, Int.reduceSub, Int.reduceNeg, Int.reduceGE, Int.reduceGT, h7, hlen2, hz0, hz1, hq5, hp5, o3, u3, h9, h12, hz2]
        · have hR1 : (R3.length : Int) = (R1.length : Int) + R2.length := by rw [hR]; simp
          have hT1 : (tp3.length : Int) = (tp1.length : Int) + tp2.length := by rw [hT]; simp
          simp -dsimp (disch := first | omega | (refine DrawYes.mk ?_; decide +kernel) | fail) only [go_sem, ↓reduceIte, reduceCtorEq, Nat.reduceEqDiff, Nat.reduceAdd, Nat.reduceLeDiff, Int.reduceLE, Int.reduceLT, Int.reduceBEq, Int.reduceBNe, Int.reduceEq, Nat.reduceBEq, Int.reduceToNat, Nat.reduceLT, Nat.reduceGT, Nat.reduceSub, Nat.reduceMul, Int.reduceAdd, Int.reduceSub, Int.reduceNeg, Int.reduceGE, Int.reduceGT, v1, v2, y1, y2, hp4, hq4, o3, u3, v3, o4, u4, v4, h0, h1, h7, h8, h9, h11, h12, h14, h66, hR1, hT1]
          obtain ⟨⟨es2, hes2, hst2⟩, _⟩ := hP2
          obtain ⟨⟨es3, hes3, hst3⟩, _⟩ := hP3
          have hl2 := hst2.len
          have hl3 := hst3.len
          refine Y_loop (α := Nat) (fun i σ H => i ≤ R2.length ∧ σ 7 = .bool true ∧ σ 9 = .ptr H2.next 0 ∧ σ 12 = .ptr H3.next 0 ∧ σ 15 = .ptr H4.next 0 ∧ σ 21 = .int .i64 i ∧ H4.next < H.next ∧ H.m H2.next = some (.cells 26 [.int .i64 md1, stm1, top1]) ∧ H.m H3.next = some (.cells 26 [.int .i64 md2, stm2, top2]) ∧ H.m H4.next = some (.cells 26 [.int .i64 md3, stm3, top3])) (fun i => R2.length - i) 0 ?_ ?_
          · simp -dsimp (disch := first | omega | (refine DrawYes.mk ?_; decide +kernel) | fail) only [go_sem, ↓reduceIte, reduceCtorEq, Nat.reduceEqDiff, Nat.reduceAdd, Nat.reduceLeDiff, Int.reduceLE, Int.reduceLT, Int.reduceBEq, Int.reduceBNe, Int.reduceEq, Nat.reduceBEq, Int.reduceToNat, Nat.reduceLT, Nat.reduceGT, Nat.reduceSub, Nat.reduceMul, Int.reduceAdd, Int.reduceSub, Int.reduceNeg, Int.reduceGE, Int.reduceGT, h7, h9, h12, y1, y2, hp4, hq4]
            simp [set_next, new_next]
          clear h0 h1 h7 h8 h9 h11 h12 h14 h66 σ
          rintro i σ H5 ⟨hi, h7, h9, h12, h15, h21, hn5, hp5, hq5, hr5⟩
          by_cases hlt : i < R2.length
          · have i1 : (i : Int) < R2.length := by omega
            obtain ⟨y, hy⟩ : ∃ y, R2[i]? = some y := ⟨_, List.getElem?_eq_getElem hlt⟩
            have hx : R3[R1.length + i]? = some (shS R1.length (s.length + 1) y) := by
              rw [hR, List.getElem?_append_right (by omega), List.getElem?_map]
              rw [show R1.length + i - R1.length = i by omega, hy]; rfl
            obtain ⟨dy, hdy, vl, vm, rfl, hvl, hvm⟩ := hst2.get hy
            obtain ⟨dx, hdx, wl, wm, rfl, hwl2, hwm2⟩ := hst3.get hx
            obtain ⟨vl1, vl2, vl3⟩ := hvl.facts
            obtain ⟨vm1, vm2, vm3⟩ := hvm.facts
            obtain ⟨wl1, wl2, wl3⟩ := hwl2.facts
            obtain ⟨wm1, wm2, wm3⟩ := hwm2.facts
            have hk1 : (((R1.length : Nat) : Int) + i).toNat = R1.length + i := by omega
            rcases hes2 with ⟨rfl, rfl⟩ | ⟨id2, off2, rfl⟩
            · simp at hdy
            rcases hes3 with ⟨rfl, rfl⟩ | ⟨id3, off3, rfl⟩
            · simp at hdx
            have i2 : (i : Int) < es2.length := by omega
            have y3 : ¬ H3.next = H5.next := by omega
            have y4 : ¬ H5.next = H5.next + 1 := by omega
            simp -dsimp (disch := first | omega | (refine DrawYes.mk ?_; decide +kernel) | fail) only [go_sem, ↓reduceIte, reduceCtorEq, Nat.reduceEqDiff, Nat.reduceAdd, Nat.reduceLeDiff, Int.reduceLE, Int.reduceLT, Int.reduceBEq, Int.reduceBNe, Int.reduceEq, Nat.reduceBEq, Int.reduceToNat, Nat.reduceLT, Nat.reduceGT, Nat.reduceSub, Nat.reduceMul, Int.reduceAdd, Int.reduceSub, Int.reduceNeg, Int.reduceGE, Int.reduceGT, h7, h9, h12, h15, h21, hp5, hq5, hr5, i2, o3, hk1, hdy, hdx, vl1, vm1, wl1, wm1, vl3, vm3, wl3, wm3, y3, y4, shS, List.length_map]
            refine ⟨by omega, by omega, i + 1, ⟨by omega, rfl, by omega, ?_, ?_, ?_⟩, by omega⟩
            · repeat rw [if_neg (by omega)]
            · repeat rw [if_neg (by omega)]
            · repeat rw [if_neg (by omega)]
          · have i1 : ¬ (i : Int) < R2.length := by omega
            simp -dsimp (disch := first | omega | (refine DrawYes.mk ?_; decide +kernel) | fail) only [go_sem, ↓reduceIte, reduceCtorEq, Nat.reduceEqDiff, Nat.reduceAdd, Nat.reduceLeDiff, Int.reduceLE, Int.reduceLT, Int.reduceBEq, Int.reduceBNe, Int.reduceEq, Nat.reduceBEq, Int.reduceToNat, Nat.reduceLT, Nat.reduceGT, Nat.reduceSub, Nat.reduceMul, Int.reduceAdd, Int.reduceSub, Int.reduceNeg, Int.reduceGE, Int.reduceGT, h7, h9, h12, h15, h21, hp5, hq5, hr5, u3, i1]
      · have z2' : ((er2 : Int) != 0) = true := by simp; omega
        subst z1
        simp -dsimp (disch := first | omega | (refine DrawYes.mk ?_; decide +kernel) | fail) only [go_sem, ↓reduceIte, reduceCtorEq, Nat.reduceEqDiff, Nat.reduceAdd, Nat.reduceLeDiff, Int.reduceLE, Int.reduceLT, Int.reduceBEq, Int.reduceBNe, Int.reduceEq, Nat.reduceBEq, Int.reduceToNat, Nat.reduceLT, Nat.reduceGT, Nat.reduceSub, Nat.reduceMul, Int.reduceAdd, Int.reduceSub, Int.reduceNeg, Int.reduceGE, Int.reduceGT, v1, v2, y1, y2, hp4, hq4, o3, u3, v3, h0, h1, h7, h8, h9, h11, h12, h14, h66, z2']
    · have z1' : ((er1 : Int) != 0) = true := by simp; omega
      simp -dsimp (disch := first | omega | (refine DrawYes.mk ?_; decide +kernel) | fail) only [go_sem, ↓reduceIte, reduceCtorEq, Nat.reduceEqDiff, Nat.reduceAdd, Nat.reduceLeDiff, Int.reduceLE, Int.reduceLT, Int.reduceBEq, Int.reduceBNe, Int.reduceEq, Nat.reduceBEq, Int.reduceToNat, Nat.reduceLT, Nat.reduceGT, Nat.reduceSub, Nat.reduceMul, Int.reduceAdd, Int.reduceSub, Int.reduceNeg, Int.reduceGE, Int.reduceGT, v1, v2, y1, y2, hp4, hq4, o3, u3, v3, h0, h1, h7, h8, h9, h11, h12, h14, h66, z1']
end Go.Proofs.YtcknfhhbijlobaaDoor.D
