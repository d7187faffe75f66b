import Derived.Test.YtcknfhhbijlobaaDoorLexM
namespace Go.Proofs.YtcknfhhbijlobaaDoor.D
open Go
set_option linter.unusedVariables false
set_option linter.unusedSimpArgs false
set_option maxRecDepth 100000

theorem indexByte_eq {s : List UInt8} {c : UInt8} {H : DH} {K : DV → DH → Prop} {b : Later K} : WK cfg 29 [.str s, .int .u8 c.toNat] H b = K (.int .i64 (Lib.indexByte s c)) H := WK_det indexByte_ok
theorem runL_ok {s set : List UInt8} {H : DH} (hset : ∀ b ∈ set, b.toNat < 128) (hs : s.length < 9223372036854775808) :
    WC cfg 30 [.str s, .str set] H fun v H' => v = .int .i64 (runL s set) ∧ Ext H H' := by
  have hl := dropWhile_len (fun b => set.contains b) s
  refine WC_mono (run_ok (fun H => cutLeft_ok hset) hl hs) ?_
  rintro v H' ⟨rfl, hE⟩
  refine ⟨?_, hE⟩
  unfold runL
  congr 1
  omega
theorem blanks128 : ∀ b ∈ blanksL, b.toNat < 128 := by decide
theorem words128 : ∀ b ∈ wordsL, b.toNat < 128 := by decide
theorem digits128 : ∀ b ∈ digitsL, b.toNat < 128 := by decide

theorem all_ok {s : List UInt8} {H : DH} (hs : s.length < 1000000) : WC cfg 18 [.str s] H fun v H' => Ext H H' ∧ ∃ v', v = .tup [v', .int .i64 (lexAll s).2.1, .int .i64 (lexAll s).2.2] ∧ IsSl H.next H' 52 3 v' ((lexAll s).1.map Tok.dv) := by
  refine WC_of (show Has cfg 18 111 [.tmp 2, .tmp 3, .tmp 4] _ from ⟨by kernel_rfl, Tryd.f18, Tryd.func18, rfl, rfl, rfl, by kernel_rfl⟩) (by simp) ?_
  by_cases hbig : 2000 < s.length
  · have hi : 2000 < (s.length : Int) := by omega
    simp -dsimp (disch := first | omega | (refine DrawYes.mk ?_; decide +kernel) | fail) only [go_sem, ↓reduceIte, reduceCtorEq, Nat.reduceEqDiff, Nat.reduceAdd, Nat.reduceLeDiff, Int.reduceLE, Int.reduceLT, Int.reduceBEq, Int.reduceBNe, Int.reduceEq, Nat.reduceBEq, Int.reduceToNat, Nat.reduceLT, Nat.reduceGT, Nat.reduceSub, Nat.reduceMul, Int.reduceAdd, Int.reduceSub, Int.reduceNeg, Int.reduceGE, Int.reduceGT, hi]
    simp only [lexAll, if_pos hbig]
    exact ⟨Ext.refl, _, rfl, .inl ⟨rfl, rfl⟩⟩
  · have hi : ¬ 2000 < (s.length : Int) := by omega
    rw [lexAll_eq hbig]
    simp -dsimp (disch := first | omega | (refine DrawYes.mk ?_; decide +kernel) | fail) only [go_sem, ↓reduceIte, reduceCtorEq, Nat.reduceEqDiff, Nat.reduceAdd, Nat.reduceLeDiff, Int.reduceLE, Int.reduceLT, Int.reduceBEq, Int.reduceBNe, Int.reduceEq, Nat.reduceBEq, Int.reduceToNat, Nat.reduceLT, Nat.reduceGT, Nat.reduceSub, Nat.reduceMul, Int.reduceAdd, Int.reduceSub, Int.reduceNeg, Int.reduceGE, Int.reduceGT, hi]
    refine Y_loop (α := Nat × List Tok) (fun a σ H' => σ 0 = .str s ∧ σ 6 = .int .i64 a.1 ∧ a.1 ≤ s.length ∧ IsSl H.next H' 52 3 (σ 5) (a.2.map Tok.dv) ∧ Ext H H' ∧ a.2.length ≤ 400 ∧ scanT (s.drop a.1) a.1 a.2 = scanT s 0 []) (fun a => s.length - a.1) (0, []) ?_ ?_
    · simp -dsimp (disch := first | omega | (refine DrawYes.mk ?_; decide +kernel) | fail) only [go_sem, ↓reduceIte, reduceCtorEq, Nat.reduceEqDiff, Nat.reduceAdd, Nat.reduceLeDiff, Int.reduceLE, Int.reduceLT, Int.reduceBEq, Int.reduceBNe, Int.reduceEq, Nat.reduceBEq, Int.reduceToNat, Nat.reduceLT, Nat.reduceGT, Nat.reduceSub, Nat.reduceMul, Int.reduceAdd, Int.reduceSub, Int.reduceNeg, Int.reduceGE, Int.reduceGT]
      exact ⟨Nat.zero_le _, .inl ⟨rfl, rfl⟩, Ext.refl⟩
    · rintro ⟨at_, l⟩ σ H1 ⟨h0, h6, hk, hl, hE, h400, hq⟩
      simp only at h0 h6 hk hl h400 hq
      cases hd : s.drop at_ with
      | nil =>
        have hge : s.length ≤ at_ := List.drop_eq_nil_iff.1 hd
        have hi2 : ¬ (at_ : Int) < s.length := by omega
        have hae : at_ = s.length := by omega
        subst hae
        simp -dsimp (disch := first | omega | (refine DrawYes.mk ?_; decide +kernel) | fail) only [go_sem, ↓reduceIte, reduceCtorEq, Nat.reduceEqDiff, Nat.reduceAdd, Nat.reduceLeDiff, Int.reduceLE, Int.reduceLT, Int.reduceBEq, Int.reduceBNe, Int.reduceEq, Nat.reduceBEq, Int.reduceToNat, Nat.reduceLT, Nat.reduceGT, Nat.reduceSub, Nat.reduceMul, Int.reduceAdd, Int.reduceSub, Int.reduceNeg, Int.reduceGE, Int.reduceGT, h0, h6, hi2]
        rw [hd, scanT_nil] at hq
        refine app (lo := H.next) (es := l.map Tok.dv) (new := [Tok.dv ⟨0, [], s.length⟩]) und_36 size_52 bytes_52 und_36 zero_52 rfl rfl (by omega) hl.new rfl (by have := hE.le; simp only [new_next]; omega) (by simp; omega) (by simp; omega) ?_
        intro v' H3 hs3 hsm
        simp -dsimp (disch := first | omega | (refine DrawYes.mk ?_; decide +kernel) | fail) only [go_sem, ↓reduceIte, reduceCtorEq, Nat.reduceEqDiff, Nat.reduceAdd, Nat.reduceLeDiff, Int.reduceLE, Int.reduceLT, Int.reduceBEq, Int.reduceBNe, Int.reduceEq, Nat.reduceBEq, Int.reduceToNat, Nat.reduceLT, Nat.reduceGT, Nat.reduceSub, Nat.reduceMul, Int.reduceAdd, Int.reduceSub, Int.reduceNeg, Int.reduceGE, Int.reduceGT]
        rw [← hq]
        exact ⟨hsm.ext hl.new hE.new, _, rfl, by simpa using hs3⟩
      | cons c r =>
        have hlen : at_ + (r.length + 1) = s.length := by
          have := congrArg List.length hd
          simp at this; omega
        have hi2 : (at_ : Int) < s.length := by omega
        rw [hd, scanT_cons] at hq
        have hn := nxt_n (c := c) (r := r)
        have hdrop : ∀ n, (c :: r).drop n = s.drop (at_ + n) := fun n => by rw [← hd, List.drop_drop]
        have hb1 : (H1.next : Nat) < H1.next + 1 := Nat.lt_succ_self _
        unfold nxt at hq hn
        have hln : ∀ H', lenD cfg.T H' 36 (σ 5) = some (.int .i64 l.length) := fun H' => by rw [hl.len und_36, List.length_map]
        by_cases c1 : c ∈ blanksL
        · have i1 : 0 ≤ Lib.indexByte [32, 9, 10, 13] c := idx_ge.2 c1
          rw [if_pos c1] at hq hn
          simp -dsimp (disch := first | omega | (refine DrawYes.mk ?_; decide +kernel) | fail) only [go_sem, ↓reduceIte, reduceCtorEq, Nat.reduceEqDiff, Nat.reduceAdd, Nat.reduceLeDiff, Int.reduceLE, Int.reduceLT, Int.reduceBEq, Int.reduceBNe, Int.reduceEq, Nat.reduceBEq, Int.reduceToNat, Nat.reduceLT, Nat.reduceGT, Nat.reduceSub, Nat.reduceMul, Int.reduceAdd, Int.reduceSub, Int.reduceNeg, Int.reduceGE, Int.reduceGT, h0, h6, hi2, hd, indexByte_eq, i1]
          refine ⟨⟨by omega, by omega⟩, call (runL_ok (set := blanksL) blanks128 (by simp; omega)) ?_⟩
          rintro _ H2 ⟨rfl, hE2⟩
          have hx : ((at_ : Int) + runL (c :: r) blanksL) = ((at_ + runL (c :: r) blanksL : Nat) : Int) := by omega
          simp only [Nx.n] at hn hq
          simp -dsimp (disch := first | omega | (refine DrawYes.mk ?_; decide +kernel) | fail) only [go_sem, ↓reduceIte, reduceCtorEq, Nat.reduceEqDiff, Nat.reduceAdd, Nat.reduceLeDiff, Int.reduceLE, Int.reduceLT, Int.reduceBEq, Int.reduceBNe, Int.reduceEq, Nat.reduceBEq, Int.reduceToNat, Nat.reduceLT, Nat.reduceGT, Nat.reduceSub, Nat.reduceMul, Int.reduceAdd, Int.reduceSub, Int.reduceNeg, Int.reduceGE, Int.reduceGT, h0, h6, hx]
          refine ⟨(at_ + runL (c :: r) blanksL, l), ⟨rfl, by simp only; omega, (hl.new.set (by rw [new_m, if_pos rfl]) (by simp)).ext hE2, hE.trans (Ext.refl.new.set (Nat.le_refl _) |>.trans hE2), h400, ?_⟩, by simp only; omega⟩
          simp only
          rw [← hdrop]; exact hq
        · have i1 : ¬ 0 ≤ Lib.indexByte [32, 9, 10, 13] c := fun h => c1 (idx_ge.1 h)
          rw [if_neg c1] at hq hn
          by_cases c2 : c.toNat = 35
          · have i2 : ((c.toNat : Int) == 35) = true := by simp; omega
            rw [if_pos c2] at hq hn
            simp -dsimp (disch := first | omega | (refine DrawYes.mk ?_; decide +kernel) | fail) only [go_sem, ↓reduceIte, reduceCtorEq, Nat.reduceEqDiff, Nat.reduceAdd, Nat.reduceLeDiff, Int.reduceLE, Int.reduceLT, Int.reduceBEq, Int.reduceBNe, Int.reduceEq, Nat.reduceBEq, Int.reduceToNat, Nat.reduceLT, Nat.reduceGT, Nat.reduceSub, Nat.reduceMul, Int.reduceAdd, Int.reduceSub, Int.reduceNeg, Int.reduceGE, Int.reduceGT, h0, h6, hi2, hd, indexByte_eq, i1, i2]
            refine ⟨⟨by omega, by omega⟩, call (cut_ok (by simp; omega)) ?_⟩
            rintro _ _ ⟨⟨x, y, rfl⟩, rfl⟩
            simp only [Nx.n] at hn hq
            have hx : ((at_ : Int) + ((c :: r).takeWhile (· != 10)).length) = ((at_ + ((c :: r).takeWhile (· != 10)).length : Nat) : Int) := by omega
            simp -dsimp (disch := first | omega | (refine DrawYes.mk ?_; decide +kernel) | fail) only [go_sem, ↓reduceIte, reduceCtorEq, Nat.reduceEqDiff, Nat.reduceAdd, Nat.reduceLeDiff, Int.reduceLE, Int.reduceLT, Int.reduceBEq, Int.reduceBNe, Int.reduceEq, Nat.reduceBEq, Int.reduceToNat, Nat.reduceLT, Nat.reduceGT, Nat.reduceSub, Nat.reduceMul, Int.reduceAdd, Int.reduceSub, Int.reduceNeg, Int.reduceGE, Int.reduceGT, h0, h6, hx]
            refine ⟨(at_ + ((c :: r).takeWhile (· != 10)).length, l), ⟨rfl, by simp only; omega, hl.new.set (by rw [new_m, if_pos rfl]) (by simp), hE.trans (Ext.refl.new.set (Nat.le_refl _)), h400, ?_⟩, by simp only; omega⟩
            simp only
            rw [← hdrop]; exact hq
          have i2 : ((c.toNat : Int) == 35) = false := by simp; omega
          rw [if_neg c2] at hq hn
          by_cases c3 : c ∈ smallL
          · have i3 : 0 ≤ Lib.indexByte [97, 98, 99, 100, 101, 102, 103, 104, 105, 106, 107, 108, 109, 110, 111, 112, 113, 114, 115, 116, 117, 118, 119, 120, 121, 122] c := idx_ge.2 c3
            rw [if_pos c3] at hq hn
            simp -dsimp (disch := first | omega | (refine DrawYes.mk ?_; decide +kernel) | fail) only [go_sem, ↓reduceIte, reduceCtorEq, Nat.reduceEqDiff, Nat.reduceAdd, Nat.reduceLeDiff, Int.reduceLE, Int.reduceLT, Int.reduceBEq, Int.reduceBNe, Int.reduceEq, Nat.reduceBEq, Int.reduceToNat, Nat.reduceLT, Nat.reduceGT, Nat.reduceSub, Nat.reduceMul, Int.reduceAdd, Int.reduceSub, Int.reduceNeg, Int.reduceGE, Int.reduceGT, h0, h6, hi2, hd, indexByte_eq, i1, i2, i3]
            refine ⟨⟨by omega, by omega⟩, call (runL_ok (set := wordsL) words128 (by simp; omega)) ?_⟩
            rintro _ H2 ⟨rfl, hE2⟩
            have ht : H2.m H1.next = some (.cells 52 [.int .i64 0, .str [], .int .i64 at_]) := hE2.get (by simp [set_next, new_next]) (by rw [set_m, if_pos rfl])
            have hl2 := (hl.new.set (o' := .cells 52 [.int .i64 0, .str [], .int .i64 at_]) (by rw [new_m, if_pos rfl]) (by simp)).ext hE2
            have hE3 : Ext H H2 := hE.trans (Ext.refl.new.set (Nat.le_refl _) |>.trans hE2)
            have hb2 : H1.next < H2.next := Nat.lt_of_lt_of_le (by simp [set_next, new_next]) hE2.le
            by_cases h12 : 12 < runL (c :: r) wordsL
            · have j1 : 12 < (runL (c :: r) wordsL : Int) := by omega
              rw [if_pos h12] at hq
              simp -dsimp (disch := first | omega | (refine DrawYes.mk ?_; decide +kernel) | fail) only [go_sem, ↓reduceIte, reduceCtorEq, Nat.reduceEqDiff, Nat.reduceAdd, Nat.reduceLeDiff, Int.reduceLE, Int.reduceLT, Int.reduceBEq, Int.reduceBNe, Int.reduceEq, Nat.reduceBEq, Int.reduceToNat, Nat.reduceLT, Nat.reduceGT, Nat.reduceSub, Nat.reduceMul, Int.reduceAdd, Int.reduceSub, Int.reduceNeg, Int.reduceGE, Int.reduceGT, h0, h6, ht, j1]
              exact ⟨hE3.set hE.le, _, by rw [← hq]; rfl, .inl ⟨rfl, by rw [← hq]; rfl⟩⟩
            · have j1 : ¬ 12 < (runL (c :: r) wordsL : Int) := by omega
              rw [if_neg h12] at hq hn
              by_cases h4 : 400 ≤ l.length
              · have j2 : 400 ≤ (l.length : Int) := by omega
                simp only [if_pos h4] at hq
                simp -dsimp (disch := first | omega | (refine DrawYes.mk ?_; decide +kernel) | fail) only [go_sem, ↓reduceIte, reduceCtorEq, Nat.reduceEqDiff, Nat.reduceAdd, Nat.reduceLeDiff, Int.reduceLE, Int.reduceLT, Int.reduceBEq, Int.reduceBNe, Int.reduceEq, Nat.reduceBEq, Int.reduceToNat, Nat.reduceLT, Nat.reduceGT, Nat.reduceSub, Nat.reduceMul, Int.reduceAdd, Int.reduceSub, Int.reduceNeg, Int.reduceGE, Int.reduceGT, h0, h6, ht, j1, j2, hln]
                exact ⟨hE3.set hE.le, _, by rw [← hq]; rfl, .inl ⟨rfl, by rw [← hq]; rfl⟩⟩
              · have j2 : ¬ 400 ≤ (l.length : Int) := by omega
                simp only [if_neg h4] at hq
                simp only [Nx.n] at hn
                have j3 : (runL (c :: r) wordsL : Int) ≤ (r.length : Int) + 1 := by omega
                have hx : ((at_ : Int) + runL (c :: r) wordsL) = ((at_ + runL (c :: r) wordsL : Nat) : Int) := by omega
                simp -dsimp (disch := first | omega | (refine DrawYes.mk ?_; decide +kernel) | fail) only [go_sem, ↓reduceIte, reduceCtorEq, Nat.reduceEqDiff, Nat.reduceAdd, Nat.reduceLeDiff, Int.reduceLE, Int.reduceLT, Int.reduceBEq, Int.reduceBNe, Int.reduceEq, Nat.reduceBEq, Int.reduceToNat, Nat.reduceLT, Nat.reduceGT, Nat.reduceSub, Nat.reduceMul, Int.reduceAdd, Int.reduceSub, Int.reduceNeg, Int.reduceGE, Int.reduceGT, h0, h6, ht, j1, j2, j3, hln]
                refine ⟨by omega, app (lo := H.next) (es := l.map Tok.dv) (new := [Tok.dv ⟨1, (c :: r).take (runL (c :: r) wordsL), at_⟩]) und_36 size_52 bytes_52 und_36 zero_52 rfl rfl (by omega) ((hl2.set ht (by simp)).setc (by rw [set_m, if_pos rfl])).new rfl (by have := hE3.le; simp only [new_next, set_next]; omega) (by simp; omega) (by simp; omega) ?_⟩
                intro v' H4 hs4 hsm
                simp -dsimp (disch := first | omega | (refine DrawYes.mk ?_; decide +kernel) | fail) only [go_sem, ↓reduceIte, reduceCtorEq, Nat.reduceEqDiff, Nat.reduceAdd, Nat.reduceLeDiff, Int.reduceLE, Int.reduceLT, Int.reduceBEq, Int.reduceBNe, Int.reduceEq, Nat.reduceBEq, Int.reduceToNat, Nat.reduceLT, Nat.reduceGT, Nat.reduceSub, Nat.reduceMul, Int.reduceAdd, Int.reduceSub, Int.reduceNeg, Int.reduceGE, Int.reduceGT, h0, h6, hx]
                refine ⟨(at_ + runL (c :: r) wordsL, l ++ [⟨1, (c :: r).take (runL (c :: r) wordsL), at_⟩]), ⟨rfl, by simp only; omega, by simpa using hs4, hsm.ext ((hl2.set ht (by simp)).setc (by rw [set_m, if_pos rfl])).new ((hE3.set hE.le).set hE.le).new, by simp; omega, ?_⟩, by simp only; omega⟩
                simp only
                rw [← hdrop]; exact hq
          have i3 : ¬ 0 ≤ Lib.indexByte [97, 98, 99, 100, 101, 102, 103, 104, 105, 106, 107, 108, 109, 110, 111, 112, 113, 114, 115, 116, 117, 118, 119, 120, 121, 122] c := fun h => c3 (idx_ge.1 h)
          rw [if_neg c3] at hq hn
          by_cases c4 : c ∈ digitsL
          · have i4 : 0 ≤ Lib.indexByte [48, 49, 50, 51, 52, 53, 54, 55, 56, 57] c := idx_ge.2 c4
            rw [if_pos c4] at hq hn
            simp -dsimp (disch := first | omega | (refine DrawYes.mk ?_; decide +kernel) | fail) only [go_sem, ↓reduceIte, reduceCtorEq, Nat.reduceEqDiff, Nat.reduceAdd, Nat.reduceLeDiff, Int.reduceLE, Int.reduceLT, Int.reduceBEq, Int.reduceBNe, Int.reduceEq, Nat.reduceBEq, Int.reduceToNat, Nat.reduceLT, Nat.reduceGT, Nat.reduceSub, Nat.reduceMul, Int.reduceAdd, Int.reduceSub, Int.reduceNeg, Int.reduceGE, Int.reduceGT, h0, h6, hi2, hd, indexByte_eq, i1, i2, i3, i4]
            refine ⟨⟨by omega, by omega⟩, call (runL_ok (set := digitsL) digits128 (by simp; omega)) ?_⟩
            rintro _ H2 ⟨rfl, hE2⟩
            have ht : H2.m H1.next = some (.cells 52 [.int .i64 0, .str [], .int .i64 at_]) := hE2.get (by simp [set_next, new_next]) (by rw [set_m, if_pos rfl])
            have hl2 := (hl.new.set (o' := .cells 52 [.int .i64 0, .str [], .int .i64 at_]) (by rw [new_m, if_pos rfl]) (by simp)).ext hE2
            have hE3 : Ext H H2 := hE.trans (Ext.refl.new.set (Nat.le_refl _) |>.trans hE2)
            have hb2 : H1.next < H2.next := Nat.lt_of_lt_of_le (by simp [set_next, new_next]) hE2.le
            by_cases h12 : 9 < runL (c :: r) digitsL
            · have j1 : 9 < (runL (c :: r) digitsL : Int) := by omega
              rw [if_pos h12] at hq
              simp -dsimp (disch := first | omega | (refine DrawYes.mk ?_; decide +kernel) | fail) only [go_sem, ↓reduceIte, reduceCtorEq, Nat.reduceEqDiff, Nat.reduceAdd, Nat.reduceLeDiff, Int.reduceLE, Int.reduceLT, Int.reduceBEq, Int.reduceBNe, Int.reduceEq, Nat.reduceBEq, Int.reduceToNat, Nat.reduceLT, Nat.reduceGT, Nat.reduceSub, Nat.reduceMul, Int.reduceAdd, Int.reduceSub, Int.reduceNeg, Int.reduceGE, Int.reduceGT, h0, h6, ht, j1]
              exact ⟨hE3.set hE.le, _, by rw [← hq]; rfl, .inl ⟨rfl, by rw [← hq]; rfl⟩⟩
            · have j1 : ¬ 9 < (runL (c :: r) digitsL : Int) := by omega
              rw [if_neg h12] at hq hn
              by_cases h4 : 400 ≤ l.length
              · have j2 : 400 ≤ (l.length : Int) := by omega
                simp only [if_pos h4] at hq
                simp -dsimp (disch := first | omega | (refine DrawYes.mk ?_; decide +kernel) | fail) only [go_sem, ↓reduceIte, reduceCtorEq, Nat.reduceEqDiff, Nat.reduceAdd, Nat.reduceLeDiff, Int.reduceLE, Int.reduceLT, Int.reduceBEq, Int.reduceBNe, Int.reduceEq, Nat.reduceBEq, Int.reduceToNat, Nat.reduceLT, Nat.reduceGT, Nat.reduceSub, Nat.reduceMul, Int.reduceAdd, Int.reduceSub, Int.reduceNeg, Int.reduceGE, Int.reduceGT, h0, h6, ht, j1, j2, hln]
                exact ⟨hE3.set hE.le, _, by rw [← hq]; rfl, .inl ⟨rfl, by rw [← hq]; rfl⟩⟩
              · have j2 : ¬ 400 ≤ (l.length : Int) := by omega
                simp only [if_neg h4] at hq
                simp only [Nx.n] at hn
                have j3 : (runL (c :: r) digitsL : Int) ≤ (r.length : Int) + 1 := by omega
                have hx : ((at_ : Int) + runL (c :: r) digitsL) = ((at_ + runL (c :: r) digitsL : Nat) : Int) := by omega
                simp -dsimp (disch := first | omega | (refine DrawYes.mk ?_; decide +kernel) | fail) only [go_sem, ↓reduceIte, reduceCtorEq, Nat.reduceEqDiff, Nat.reduceAdd, Nat.reduceLeDiff, Int.reduceLE, Int.reduceLT, Int.reduceBEq, Int.reduceBNe, Int.reduceEq, Nat.reduceBEq, Int.reduceToNat, Nat.reduceLT, Nat.reduceGT, Nat.reduceSub, Nat.reduceMul, Int.reduceAdd, Int.reduceSub, Int.reduceNeg, Int.reduceGE, Int.reduceGT, h0, h6, ht, j1, j2, j3, hln]
                refine ⟨by omega, app (lo := H.next) (es := l.map Tok.dv) (new := [Tok.dv ⟨2, (c :: r).take (runL (c :: r) digitsL), at_⟩]) und_36 size_52 bytes_52 und_36 zero_52 rfl rfl (by omega) ((hl2.set ht (by simp)).setc (by rw [set_m, if_pos rfl])).new rfl (by have := hE3.le; simp only [new_next, set_next]; omega) (by simp; omega) (by simp; omega) ?_⟩
                intro v' H4 hs4 hsm
                simp -dsimp (disch := first | omega | (refine DrawYes.mk ?_; decide +kernel) | fail) only [go_sem, ↓reduceIte, reduceCtorEq, Nat.reduceEqDiff, Nat.reduceAdd, Nat.reduceLeDiff, Int.reduceLE, Int.reduceLT, Int.reduceBEq, Int.reduceBNe, Int.reduceEq, Nat.reduceBEq, Int.reduceToNat, Nat.reduceLT, Nat.reduceGT, Nat.reduceSub, Nat.reduceMul, Int.reduceAdd, Int.reduceSub, Int.reduceNeg, Int.reduceGE, Int.reduceGT, h0, h6, hx]
                refine ⟨(at_ + runL (c :: r) digitsL, l ++ [⟨2, (c :: r).take (runL (c :: r) digitsL), at_⟩]), ⟨rfl, by simp only; omega, by simpa using hs4, hsm.ext ((hl2.set ht (by simp)).setc (by rw [set_m, if_pos rfl])).new ((hE3.set hE.le).set hE.le).new, by simp; omega, ?_⟩, by simp only; omega⟩
                simp only
                rw [← hdrop]; exact hq
          have i4 : ¬ 0 ≤ Lib.indexByte [48, 49, 50, 51, 52, 53, 54, 55, 56, 57] c := fun h => c4 (idx_ge.1 h)
          rw [if_neg c4] at hq hn
          by_cases c5 : c.toNat = 34
          · have i5 : ((c.toNat : Int) == 34) = true := by simp; omega
            rw [if_pos c5] at hq hn
            simp -dsimp (disch := first | omega | (refine DrawYes.mk ?_; decide +kernel) | fail) only [go_sem, ↓reduceIte, reduceCtorEq, Nat.reduceEqDiff, Nat.reduceAdd, Nat.reduceLeDiff, Int.reduceLE, Int.reduceLT, Int.reduceBEq, Int.reduceBNe, Int.reduceEq, Nat.reduceBEq, Int.reduceToNat, Nat.reduceLT, Nat.reduceGT, Nat.reduceSub, Nat.reduceMul, Int.reduceAdd, Int.reduceSub, Int.reduceNeg, Int.reduceGE, Int.reduceGT, h0, h6, hi2, hd, indexByte_eq, i1, i2, i3, i4, i5]
            refine ⟨⟨by omega, by omega⟩, call (quoted_ok (by simp; omega)) ?_⟩
            rintro _ H2 ⟨rfl, hE2⟩
            have ht : H2.m H1.next = some (.cells 52 [.int .i64 3, .str [], .int .i64 at_]) := hE2.get (by simp [set_next, new_next]) (by rw [set_m, if_pos rfl])
            have hl1 := (hl.new (o := .cells 52 [.int .i64 0, .str [], .int .i64 0])).setc (o' := .cells 52 [.int .i64 0, .str [], .int .i64 at_]) (by rw [new_m, if_pos rfl])
            have hl2 := (hl1.setc (o' := .cells 52 [.int .i64 3, .str [], .int .i64 at_]) (by rw [set_m, if_pos rfl])).ext hE2
            have hE3 : Ext H H2 := hE.trans (((Ext.refl.new.set (Nat.le_refl _)).set (Nat.le_refl _)).trans hE2)
            have hb2 : H1.next < H2.next := Nat.lt_of_lt_of_le (by simp [set_next, new_next]) hE2.le
            simp only [List.drop_succ_cons, List.drop_zero]
            cases hqd : qd [] r 1 with
            | none =>
              simp only [hqd] at hq
              simp -dsimp (disch := first | omega | (refine DrawYes.mk ?_; decide +kernel) | fail) only [go_sem, ↓reduceIte, reduceCtorEq, Nat.reduceEqDiff, Nat.reduceAdd, Nat.reduceLeDiff, Int.reduceLE, Int.reduceLT, Int.reduceBEq, Int.reduceBNe, Int.reduceEq, Nat.reduceBEq, Int.reduceToNat, Nat.reduceLT, Nat.reduceGT, Nat.reduceSub, Nat.reduceMul, Int.reduceAdd, Int.reduceSub, Int.reduceNeg, Int.reduceGE, Int.reduceGT, h0, h6, ht, qdV, hln]
              exact ⟨hE3.set hE.le, _, by rw [← hq]; rfl, .inl ⟨rfl, by rw [← hq]; rfl⟩⟩
            | some p =>
              obtain ⟨t, n⟩ := p
              simp only [hqd, Nx.n] at hq hn
              have j1 : ¬ (n : Int) < 0 := by omega
              by_cases h4 : 400 ≤ l.length
              · have j2 : 400 ≤ (l.length : Int) := by omega
                simp only [if_pos h4] at hq
                simp -dsimp (disch := first | omega | (refine DrawYes.mk ?_; decide +kernel) | fail) only [go_sem, ↓reduceIte, reduceCtorEq, Nat.reduceEqDiff, Nat.reduceAdd, Nat.reduceLeDiff, Int.reduceLE, Int.reduceLT, Int.reduceBEq, Int.reduceBNe, Int.reduceEq, Nat.reduceBEq, Int.reduceToNat, Nat.reduceLT, Nat.reduceGT, Nat.reduceSub, Nat.reduceMul, Int.reduceAdd, Int.reduceSub, Int.reduceNeg, Int.reduceGE, Int.reduceGT, h0, h6, ht, qdV, j1, j2, hln]
                exact ⟨hE3.set hE.le, _, by rw [← hq]; rfl, .inl ⟨rfl, by rw [← hq]; rfl⟩⟩
              · have j2 : ¬ 400 ≤ (l.length : Int) := by omega
                simp only [if_neg h4] at hq
                have hx : ((at_ : Int) + n) = ((at_ + n : Nat) : Int) := by omega
                simp -dsimp (disch := first | omega | (refine DrawYes.mk ?_; decide +kernel) | fail) only [go_sem, ↓reduceIte, reduceCtorEq, Nat.reduceEqDiff, Nat.reduceAdd, Nat.reduceLeDiff, Int.reduceLE, Int.reduceLT, Int.reduceBEq, Int.reduceBNe, Int.reduceEq, Nat.reduceBEq, Int.reduceToNat, Nat.reduceLT, Nat.reduceGT, Nat.reduceSub, Nat.reduceMul, Int.reduceAdd, Int.reduceSub, Int.reduceNeg, Int.reduceGE, Int.reduceGT, h0, h6, ht, qdV, j1, j2, hln]
                refine app (lo := H.next) (es := l.map Tok.dv) (new := [Tok.dv ⟨3, t, at_⟩]) und_36 size_52 bytes_52 und_36 zero_52 rfl rfl (by omega) (hl2.set ht (by simp)).new rfl (by have := hE3.le; simp only [new_next, set_next]; omega) (by simp; omega) (by simp; omega) ?_
                intro v' H4 hs4 hsm
                simp -dsimp (disch := first | omega | (refine DrawYes.mk ?_; decide +kernel) | fail) only [go_sem, ↓reduceIte, reduceCtorEq, Nat.reduceEqDiff, Nat.reduceAdd, Nat.reduceLeDiff, Int.reduceLE, Int.reduceLT, Int.reduceBEq, Int.reduceBNe, Int.reduceEq, Nat.reduceBEq, Int.reduceToNat, Nat.reduceLT, Nat.reduceGT, Nat.reduceSub, Nat.reduceMul, Int.reduceAdd, Int.reduceSub, Int.reduceNeg, Int.reduceGE, Int.reduceGT, h0, h6, hx]
                refine ⟨(at_ + n, l ++ [⟨3, t, at_⟩]), ⟨rfl, by simp only; omega, by simpa using hs4, hsm.ext (hl2.set ht (by simp)).new (hE3.set hE.le).new, by simp; omega, ?_⟩, by simp only; omega⟩
                simp only
                rw [← hdrop]; exact hq
          have i5 : ((c.toNat : Int) == 34) = false := by simp; omega
          rw [if_neg c5] at hq hn
          by_cases c6 : c ∈ signsL
          · have i6 : 0 ≤ Lib.indexByte [123, 125, 59, 61] c := idx_ge.2 c6
            rw [if_pos c6] at hq hn
            have hl1 := (hl.new (o := .cells 52 [.int .i64 0, .str [], .int .i64 0])).setc (o' := .cells 52 [.int .i64 0, .str [], .int .i64 at_]) (by rw [new_m, if_pos rfl])
            have hl2 := hl1.setc (o' := .cells 52 [.int .i64 4, .str [], .int .i64 at_]) (by rw [set_m, if_pos rfl])
            have hE3 := ((hE.new (o := .cells 52 [.int .i64 0, .str [], .int .i64 0])).set (o := .cells 52 [.int .i64 0, .str [], .int .i64 at_]) hE.le).set (o := .cells 52 [.int .i64 4, .str [], .int .i64 at_]) hE.le
            by_cases h4 : 400 ≤ l.length
            · have j2 : 400 ≤ (l.length : Int) := by omega
              simp only [if_pos h4] at hq
              simp -dsimp (disch := first | omega | (refine DrawYes.mk ?_; decide +kernel) | fail) only [go_sem, ↓reduceIte, reduceCtorEq, Nat.reduceEqDiff, Nat.reduceAdd, Nat.reduceLeDiff, Int.reduceLE, Int.reduceLT, Int.reduceBEq, Int.reduceBNe, Int.reduceEq, Nat.reduceBEq, Int.reduceToNat, Nat.reduceLT, Nat.reduceGT, Nat.reduceSub, Nat.reduceMul, Int.reduceAdd, Int.reduceSub, Int.reduceNeg, Int.reduceGE, Int.reduceGT, h0, h6, hi2, hd, indexByte_eq, i1, i2, i3, i4, i5, i6, j2, hln]
              exact ⟨⟨by omega, by omega⟩, hE3, _, by rw [← hq]; rfl, .inl ⟨rfl, by rw [← hq]; rfl⟩⟩
            · have j2 : ¬ 400 ≤ (l.length : Int) := by omega
              simp only [if_neg h4] at hq
              have hx : ((at_ : Int) + 1) = ((at_ + 1 : Nat) : Int) := by omega
              simp -dsimp (disch := first | omega | (refine DrawYes.mk ?_; decide +kernel) | fail) only [go_sem, ↓reduceIte, reduceCtorEq, Nat.reduceEqDiff, Nat.reduceAdd, Nat.reduceLeDiff, Int.reduceLE, Int.reduceLT, Int.reduceBEq, Int.reduceBNe, Int.reduceEq, Nat.reduceBEq, Int.reduceToNat, Nat.reduceLT, Nat.reduceGT, Nat.reduceSub, Nat.reduceMul, Int.reduceAdd, Int.reduceSub, Int.reduceNeg, Int.reduceGE, Int.reduceGT, h0, h6, hi2, hd, indexByte_eq, i1, i2, i3, i4, i5, i6, j2, hln]
              refine ⟨⟨by omega, by omega⟩, by omega, app (lo := H.next) (es := l.map Tok.dv) (new := [Tok.dv ⟨4, [c], at_⟩]) und_36 size_52 bytes_52 und_36 zero_52 rfl rfl (by omega) (hl2.setc (by rw [set_m, if_pos rfl])).new rfl (by have := hE3.le; simp only [new_next, set_next] at *; omega) (by simp; omega) (by simp; omega) ?_⟩
              intro v' H4 hs4 hsm
              simp -dsimp (disch := first | omega | (refine DrawYes.mk ?_; decide +kernel) | fail) only [go_sem, ↓reduceIte, reduceCtorEq, Nat.reduceEqDiff, Nat.reduceAdd, Nat.reduceLeDiff, Int.reduceLE, Int.reduceLT, Int.reduceBEq, Int.reduceBNe, Int.reduceEq, Nat.reduceBEq, Int.reduceToNat, Nat.reduceLT, Nat.reduceGT, Nat.reduceSub, Nat.reduceMul, Int.reduceAdd, Int.reduceSub, Int.reduceNeg, Int.reduceGE, Int.reduceGT, h0, h6, hx]
              refine ⟨(at_ + 1, l ++ [⟨4, [c], at_⟩]), ⟨rfl, by simp only; omega, by simpa using hs4, hsm.ext (hl2.setc (by rw [set_m, if_pos rfl])).new (hE3.set hE.le).new, by simp; omega, ?_⟩, by simp only; omega⟩
              simp only
              rw [← hdrop]; exact hq
          · have i6 : ¬ 0 ≤ Lib.indexByte [123, 125, 59, 61] c := fun h => c6 (idx_ge.1 h)
            rw [if_neg c6] at hq hn
            simp -dsimp (disch := first | omega | (refine DrawYes.mk ?_; decide +kernel) | fail) only [go_sem, ↓reduceIte, reduceCtorEq, Nat.reduceEqDiff, Nat.reduceAdd, Nat.reduceLeDiff, Int.reduceLE, Int.reduceLT, Int.reduceBEq, Int.reduceBNe, Int.reduceEq, Nat.reduceBEq, Int.reduceToNat, Nat.reduceLT, Nat.reduceGT, Nat.reduceSub, Nat.reduceMul, Int.reduceAdd, Int.reduceSub, Int.reduceNeg, Int.reduceGE, Int.reduceGT, h0, h6, hi2, hd, indexByte_eq, i1, i2, i3, i4, i5, i6]
            exact ⟨⟨by omega, by omega⟩, hE.new.set hE.le, _, by rw [← hq]; rfl, .inl ⟨rfl, by rw [← hq]; rfl⟩⟩
end Go.Proofs.YtcknfhhbijlobaaDoor.D
