import Derived.Test.YtcknfhhbijlobaaDoorLex2
namespace Go.Proofs.YtcknfhhbijlobaaDoor.D
open Go
set_option linter.unusedVariables false
set_option linter.unusedSimpArgs false
set_option maxRecDepth 100000

/- The plain law: cut at a byte. -/
def splitC : List UInt8 → UInt8 → List (List UInt8)
  | [], _ => [[]]
  | b :: s, c => if b = c then [] :: splitC s c else match splitC s c with | p :: r => (b :: p) :: r | [] => [[b]]
def wordsB (s : List UInt8) : List (List UInt8) := (splitC s 32).filter fun w => !w.isEmpty
theorem splitC_not {c : UInt8} : ∀ {s : List UInt8}, c ∉ s → splitC s c = [s]
  | [], _ => rfl
  | b :: s, h => by
    simp only [List.mem_cons, not_or] at h
    simp only [splitC]
    rw [if_neg (fun e => h.1 e.symm), splitC_not h.2]
theorem splitC_app {c : UInt8} {y : List UInt8} : ∀ {x : List UInt8}, c ∉ x → splitC (x ++ c :: y) c = x :: splitC y c
  | [], _ => by simp [splitC]
  | b :: x, h => by
    simp only [List.mem_cons, not_or] at h
    simp only [List.cons_append, splitC]
    rw [if_neg (fun e => h.1 e.symm), splitC_app h.2]
theorem splitC_at {c : UInt8} {s : List UInt8} (h : c ∈ s) : splitC s c = s.takeWhile (· != c) :: splitC (s.drop ((s.takeWhile (· != c)).length + 1)) c ∧ (s.takeWhile (· != c)).length < s.length ∧ s.count c = (s.drop ((s.takeWhile (· != c)).length + 1)).count c + 1 := by
  induction s with
  | nil => cases h
  | cons b s ih =>
    by_cases hb : b = c
    · subst hb; simp [splitC]
    · have hm : c ∈ s := by
        rcases List.mem_cons.1 h with h | h
        · exact absurd h.symm hb
        · exact h
      obtain ⟨i1, i2, i3⟩ := ih hm
      have ht : (b :: s).takeWhile (· != c) = b :: s.takeWhile (· != c) := by simp [hb]
      rw [ht]
      refine ⟨?_, by simp; omega, ?_⟩
      · simp only [splitC]
        rw [if_neg hb, i1]
        simp
      · rw [List.count_cons, if_neg (by simpa using hb), i3]
        simp

theorem count_ok {s : List UInt8} {c : UInt8} {H : DH} : WC cfg 65 [.str s, .str [c]] H fun v H' => v = .int .i64 (s.count c : Nat) ∧ H' = H := by
  refine WC_of (show Has cfg 65 34 [.tmp 4] _ from ⟨by kernel_rfl, Tryd.f65, Tryd.func65, rfl, rfl, rfl, by kernel_rfl⟩) (by simp) ?_
  simp -dsimp (disch := first | omega | (refine DrawYes.mk ?_; decide +kernel) | fail) only [go_sem, ↓reduceIte, reduceCtorEq, Nat.reduceEqDiff, Nat.reduceAdd, Nat.reduceLeDiff, Int.reduceLE, Int.reduceLT, Int.reduceBEq, Int.reduceBNe, Int.reduceEq, Nat.reduceBEq, Int.reduceToNat, Nat.reduceLT, Nat.reduceGT, Nat.reduceSub, Nat.reduceMul, Int.reduceAdd, Int.reduceSub, Int.reduceNeg, Int.reduceGE, Int.reduceGT]
  refine call ((WC_ext (C := cfg) (e := extCount) (by kernel_rfl)).2 ⟨_, _, rfl, ?_⟩) fun v H' h => h
  simp [Lib.countByte]
  simp -dsimp (disch := first | omega | (refine DrawYes.mk ?_; decide +kernel) | fail) only [go_sem, ↓reduceIte, reduceCtorEq, Nat.reduceEqDiff, Nat.reduceAdd, Nat.reduceLeDiff, Int.reduceLE, Int.reduceLT, Int.reduceBEq, Int.reduceBNe, Int.reduceEq, Nat.reduceBEq, Int.reduceToNat, Nat.reduceLT, Nat.reduceGT, Nat.reduceSub, Nat.reduceMul, Int.reduceAdd, Int.reduceSub, Int.reduceNeg, Int.reduceGE, Int.reduceGT]
theorem count_eq {s : List UInt8} {c : UInt8} {H : DH} {K : DV → DH → Prop} {b : Later K} : WK cfg 65 [.str s, .str [c]] H b = K (.int .i64 (s.count c : Nat)) H := WK_det count_ok
theorem sindex_ok {s : List UInt8} {c : UInt8} {H : DH} : WC cfg 66 [.str s, .str [c]] H fun v H' => v = .int .i64 (Lib.indexByte s c) ∧ H' = H := by
  refine WC_of (show Has cfg 66 8 [.tmp 4] _ from ⟨by kernel_rfl, Tryd.f66, Tryd.func66, rfl, rfl, rfl, by kernel_rfl⟩) (by simp) ?_
  simp -dsimp (disch := first | omega | (refine DrawYes.mk ?_; decide +kernel) | fail) only [go_sem, ↓reduceIte, reduceCtorEq, Nat.reduceEqDiff, Nat.reduceAdd, Nat.reduceLeDiff, Int.reduceLE, Int.reduceLT, Int.reduceBEq, Int.reduceBNe, Int.reduceEq, Nat.reduceBEq, Int.reduceToNat, Nat.reduceLT, Nat.reduceGT, Nat.reduceSub, Nat.reduceMul, Int.reduceAdd, Int.reduceSub, Int.reduceNeg, Int.reduceGE, Int.reduceGT]
  refine call index1_ok ?_
  rintro _ _ ⟨rfl, rfl⟩
  simp -dsimp (disch := first | omega | (refine DrawYes.mk ?_; decide +kernel) | fail) only [go_sem, ↓reduceIte, reduceCtorEq, Nat.reduceEqDiff, Nat.reduceAdd, Nat.reduceLeDiff, Int.reduceLE, Int.reduceLT, Int.reduceBEq, Int.reduceBNe, Int.reduceEq, Nat.reduceBEq, Int.reduceToNat, Nat.reduceLT, Nat.reduceGT, Nat.reduceSub, Nat.reduceMul, Int.reduceAdd, Int.reduceSub, Int.reduceNeg, Int.reduceGE, Int.reduceGT]
theorem sindex_eq {s : List UInt8} {c : UInt8} {H : DH} {K : DV → DH → Prop} {b : Later K} : WK cfg 66 [.str s, .str [c]] H b = K (.int .i64 (Lib.indexByte s c)) H := WK_det sindex_ok
theorem flat_one {l : List DV} (h : ∀ x ∈ l, x.one = true) : flat l = l := by
  induction l with
  | nil => rfl
  | cons a l ih =>
    have ha := h a (by simp)
    simp only [flat]
    rw [ih fun x hx => h x (by simp [hx])]
    cases a <;> first | rfl | (simp [DV.one] at ha)
theorem flat_strs (n : Nat) : flat (List.replicate n (.str [])) = List.replicate n (.str []) := flat_one fun x hx => by rw [List.mem_replicate] at hx; rw [hx.2]; rfl
/-- Where there is nothing to be replaced. -/
theorem replace_ok {s : List UInt8} {c d : UInt8} {H : DH} (h : c ∉ s) : WC cfg 50 [.str s, .str [c], .str [d]] H fun v H' => v = .str s ∧ H' = H := by
  refine WC_of (show Has cfg 50 11 [.tmp 6] _ from ⟨by kernel_rfl, Tryd.f50, Tryd.func50, rfl, rfl, rfl, by kernel_rfl⟩) (by simp) ?_
  simp -dsimp (disch := first | omega | (refine DrawYes.mk ?_; decide +kernel) | fail) only [go_sem, ↓reduceIte, reduceCtorEq, Nat.reduceEqDiff, Nat.reduceAdd, Nat.reduceLeDiff, Int.reduceLE, Int.reduceLT, Int.reduceBEq, Int.reduceBNe, Int.reduceEq, Nat.reduceBEq, Int.reduceToNat, Nat.reduceLT, Nat.reduceGT, Nat.reduceSub, Nat.reduceMul, Int.reduceAdd, Int.reduceSub, Int.reduceNeg, Int.reduceGE, Int.reduceGT]
  refine call (K := fun v H' => v = .str s ∧ H' = H) ?_ ?_
  · refine WC_of (show Has cfg 57 104 [.tmp 8] _ from ⟨by kernel_rfl, Tryd.f57, Tryd.func57, rfl, rfl, rfl, by kernel_rfl⟩) (by simp) ?_
    have h0 : s.count c = 0 := List.count_eq_zero.2 h
    by_cases hcd : ([c] : List UInt8) = [d]
    · simp -dsimp (disch := first | omega | (refine DrawYes.mk ?_; decide +kernel) | fail) only [go_sem, ↓reduceIte, reduceCtorEq, Nat.reduceEqDiff, Nat.reduceAdd, Nat.reduceLeDiff, Int.reduceLE, Int.reduceLT, Int.reduceBEq, Int.reduceBNe, Int.reduceEq, Nat.reduceBEq, Int.reduceToNat, Nat.reduceLT, Nat.reduceGT, Nat.reduceSub, Nat.reduceMul, Int.reduceAdd, Int.reduceSub, Int.reduceNeg, Int.reduceGE, Int.reduceGT, hcd]
    · simp -dsimp (disch := first | omega | (refine DrawYes.mk ?_; decide +kernel) | fail) only [go_sem, ↓reduceIte, reduceCtorEq, Nat.reduceEqDiff, Nat.reduceAdd, Nat.reduceLeDiff, Int.reduceLE, Int.reduceLT, Int.reduceBEq, Int.reduceBNe, Int.reduceEq, Nat.reduceBEq, Int.reduceToNat, Nat.reduceLT, Nat.reduceGT, Nat.reduceSub, Nat.reduceMul, Int.reduceAdd, Int.reduceSub, Int.reduceNeg, Int.reduceGE, Int.reduceGT, hcd, count_eq, h0]
  · rintro _ _ ⟨rfl, rfl⟩
    simp -dsimp (disch := first | omega | (refine DrawYes.mk ?_; decide +kernel) | fail) only [go_sem, ↓reduceIte, reduceCtorEq, Nat.reduceEqDiff, Nat.reduceAdd, Nat.reduceLeDiff, Int.reduceLE, Int.reduceLT, Int.reduceBEq, Int.reduceBNe, Int.reduceEq, Nat.reduceBEq, Int.reduceToNat, Nat.reduceLT, Nat.reduceGT, Nat.reduceSub, Nat.reduceMul, Int.reduceAdd, Int.reduceSub, Int.reduceNeg, Int.reduceGE, Int.reduceGT]
theorem row_put {n : Nat} {ps : List (List UInt8)} {v : DV} (h : ps.length ≤ n) : List.take ps.length (ps.map DV.str ++ List.replicate (n + 1 - ps.length) (.str [])) ++ [v] ++ List.drop (ps.length + 1) (ps.map DV.str ++ List.replicate (n + 1 - ps.length) (.str [])) = ps.map DV.str ++ v :: List.replicate (n - ps.length) (.str []) := by
  have hl : (ps.map DV.str).length = ps.length := by simp
  have e1 : List.take ps.length (ps.map DV.str ++ List.replicate (n + 1 - ps.length) (.str [])) = ps.map DV.str := by rw [← hl, List.take_left]
  have e2 : List.drop (ps.length + 1) (ps.map DV.str ++ List.replicate (n + 1 - ps.length) (.str [])) = List.replicate (n - ps.length) (DV.str []) := by
    rw [← List.drop_drop, ← hl, List.drop_left, List.drop_replicate, hl]
    congr 1; omega
  rw [e1, e2]
  simp
theorem genSplit_ok {s : List UInt8} {c : UInt8} {H : DH} (hs : s.length < 100000000) : WC cfg 56 [.str s, .str [c], .int .i64 0, .int .i64 (-1)] H fun v H' => Ext H H' ∧ ∃ id cs, H.next ≤ id ∧ id < H'.next ∧ v = .hs id 1 0 (splitC s c).length ∧ H'.m id = some (.row 9 cs) ∧ cs.take (splitC s c).length = (splitC s c).map DV.str := by
  refine WC_of (show Has cfg 56 66 [.tmp 8] _ from ⟨by kernel_rfl, Tryd.f56, Tryd.func56, rfl, rfl, rfl, by kernel_rfl⟩) (by simp) ?_
  have hcnt : s.count c ≤ s.length := List.count_le_length
  have hmin : ¬ ((s.length : Int) + 1 < (s.count c : Nat) + 1) := by omega
  simp -dsimp (disch := first | omega | (refine DrawYes.mk ?_; decide +kernel) | fail) only [go_sem, ↓reduceIte, reduceCtorEq, Nat.reduceEqDiff, Nat.reduceAdd, Nat.reduceLeDiff, Int.reduceLE, Int.reduceLT, Int.reduceBEq, Int.reduceBNe, Int.reduceEq, Nat.reduceBEq, Int.reduceToNat, Nat.reduceLT, Nat.reduceGT, Nat.reduceSub, Nat.reduceMul, Int.reduceAdd, Int.reduceSub, Int.reduceNeg, Int.reduceGE, Int.reduceGT, count_eq, hmin]
  refine mk_sl und_35 size_9 bytes_9 zero_9 rfl (by decide) rfl (by omega) (by omega) (by omega) (by omega) ?_
  have ht : ((s.count c : Nat) + 1 : Int).toNat = s.count c + 1 := by omega
  simp -dsimp (disch := first | omega | (refine DrawYes.mk ?_; decide +kernel) | fail) only [go_sem, ↓reduceIte, reduceCtorEq, Nat.reduceEqDiff, Nat.reduceAdd, Nat.reduceLeDiff, Int.reduceLE, Int.reduceLT, Int.reduceBEq, Int.reduceBNe, Int.reduceEq, Nat.reduceBEq, Int.reduceToNat, Nat.reduceLT, Nat.reduceGT, Nat.reduceSub, Nat.reduceMul, Int.reduceAdd, Int.reduceSub, Int.reduceNeg, Int.reduceGE, Int.reduceGT, ht, flat_strs]
  refine Y_loop (α := List (List UInt8) × List UInt8) (fun a σ H' => Ext H H' ∧ H.next < H'.next ∧ H'.m H.next = some (.row 9 (a.1.map DV.str ++ List.replicate (s.count c + 1 - a.1.length) (.str []))) ∧ a.1.length + a.2.count c = s.count c ∧ a.1 ++ splitC a.2 c = splitC s c ∧ a.2.length ≤ s.length ∧
    σ 0 = .str a.2 ∧ σ 1 = .str [c] ∧ σ 2 = .int .i64 0 ∧ σ 3 = .int .i64 (s.count c : Nat) ∧ σ 9 = .hs H.next 1 0 (s.count c + 1) ∧ σ 10 = .int .i64 a.1.length) (fun a => a.2.length) ([], s) ?_ ?_
  · simp -dsimp (disch := first | omega | (refine DrawYes.mk ?_; decide +kernel) | fail) only [go_sem, ↓reduceIte, reduceCtorEq, Nat.reduceEqDiff, Nat.reduceAdd, Nat.reduceLeDiff, Int.reduceLE, Int.reduceLT, Int.reduceBEq, Int.reduceBNe, Int.reduceEq, Nat.reduceBEq, Int.reduceToNat, Nat.reduceLT, Nat.reduceGT, Nat.reduceSub, Nat.reduceMul, Int.reduceAdd, Int.reduceSub, Int.reduceNeg, Int.reduceGE, Int.reduceGT, ht]
    refine ⟨Ext.refl.new, by omega, by simp, Nat.le_refl _, ?_⟩
    congr 1; omega
  rintro ⟨ps, t⟩ σ H1 ⟨hE, hn, hm, hk, hq, htl, g0, g1, g2, g3, g9, g10⟩
  simp only at hm hk hq htl g0 g10
  by_cases hc : c ∈ t
  · obtain ⟨i1, i2, i3⟩ := splitC_at hc
    have k0 : (ps.length : Int) < s.count c := by omega
    have k1 : ¬ (((t.takeWhile (· != c)).length : Nat) : Int) < 0 := by omega
    have e1 : t.take (t.takeWhile (· != c)).length = t.takeWhile (· != c) := take_tw _ t
    have hrp : ∀ v, _ := fun v => row_put (n := s.count c) (ps := ps) (v := v) (by omega)
    have hlen : (ps.map DV.str ++ List.replicate (s.count c + 1 - ps.length) (DV.str [])).length = s.count c + 1 := by simp; omega
    have t1 : ((((t.takeWhile (· != c)).length : Nat) : Int) + 0).toNat = (t.takeWhile (· != c)).length := by omega
    have t2 : ((((t.takeWhile (· != c)).length : Nat) : Int) + 1).toNat = (t.takeWhile (· != c)).length + 1 := by omega
    simp -dsimp (disch := first | omega | (refine DrawYes.mk ?_; decide +kernel) | fail) only [go_sem, ↓reduceIte, reduceCtorEq, Nat.reduceEqDiff, Nat.reduceAdd, Nat.reduceLeDiff, Int.reduceLE, Int.reduceLT, Int.reduceBEq, Int.reduceBNe, Int.reduceEq, Nat.reduceBEq, Int.reduceToNat, Nat.reduceLT, Nat.reduceGT, Nat.reduceSub, Nat.reduceMul, Int.reduceAdd, Int.reduceSub, Int.reduceNeg, Int.reduceGE, Int.reduceGT, g0, g1, g2, g3, g9, g10, k0, sindex_eq, idx_mem hc, k1, hm, Nat.mul_one, hrp, hlen, t1, t2, e1]
    refine ⟨⟨by omega, by omega⟩, by omega, by omega, by omega, ⟨by omega, by omega⟩, (ps ++ [t.takeWhile (· != c)], t.drop ((t.takeWhile (· != c)).length + 1)), ⟨hE.set (Nat.le_refl _), hn, ?_, ?_, ?_, ?_, rfl, ?_⟩, ?_⟩
    · simp only [List.length_append, List.map_append, List.map_cons, List.map_nil, List.length_cons, List.length_nil, List.append_assoc, List.cons_append, List.nil_append]; congr 4; omega
    · simp only [List.length_append, List.length_cons, List.length_nil]; omega
    · rw [← hq, i1]; simp
    · simp; omega
    · simp
    · simp; omega
  · have k2 : t.count c = 0 := List.count_eq_zero.2 hc
    have k0 : ¬ (ps.length : Int) < s.count c := by omega
    have hrp : ∀ v, _ := fun v => row_put (n := s.count c) (ps := ps) (v := v) (by omega)
    have hlen : (ps.map DV.str ++ List.replicate (s.count c + 1 - ps.length) (DV.str [])).length = s.count c + 1 := by simp; omega
    have t1 : ((ps.length : Int) + 1).toNat - 0 = ps.length + 1 := by omega
    rw [splitC_not hc] at hq
    have hsl : (splitC s c).length = ps.length + 1 := by rw [← hq]; simp
    simp -dsimp (disch := first | omega | (refine DrawYes.mk ?_; decide +kernel) | fail) only [go_sem, ↓reduceIte, reduceCtorEq, Nat.reduceEqDiff, Nat.reduceAdd, Nat.reduceLeDiff, Int.reduceLE, Int.reduceLT, Int.reduceBEq, Int.reduceBNe, Int.reduceEq, Nat.reduceBEq, Int.reduceToNat, Nat.reduceLT, Nat.reduceGT, Nat.reduceSub, Nat.reduceMul, Int.reduceAdd, Int.reduceSub, Int.reduceNeg, Int.reduceGE, Int.reduceGT, g0, g1, g2, g3, g9, g10, k0, hm, Nat.mul_one, hrp, hlen, t1, hsl]
    refine ⟨by omega, by omega, by omega, ⟨by omega, by omega⟩, hE.set (Nat.le_refl _), H.next, _, Nat.le_refl _, hn, rfl, if_pos rfl, ?_⟩
    have hl : (ps.map DV.str).length = ps.length := by simp
    rw [List.take_append, hl, List.take_of_length_le (by simp), show ps.length + 1 - ps.length = 1 by omega, ← hq]
    simp
theorem splitC_two {s : List UInt8} {c : UInt8} : (splitC s c).length ≤ s.length + 1 := by
  induction s with
  | nil => simp [splitC]
  | cons b s ih =>
    simp only [splitC]
    split
    · simp; omega
    · cases h : splitC s c with
      | nil => simp
      | cons p r => rw [h] at ih; simp at ih ⊢; omega
theorem split_ok {s : List UInt8} {c : UInt8} {H : DH} (hs : s.length < 100000000) : WC cfg 49 [.str s, .str [c]] H fun v H' => Ext H H' ∧ ∃ id cs, H.next ≤ id ∧ id < H'.next ∧ v = .hs id 1 0 (splitC s c).length ∧ H'.m id = some (.row 9 cs) ∧ cs.take (splitC s c).length = (splitC s c).map DV.str := by
  refine WC_of (show Has cfg 49 8 [.tmp 4] _ from ⟨by kernel_rfl, Tryd.f49, Tryd.func49, rfl, rfl, rfl, by kernel_rfl⟩) (by simp) ?_
  simp -dsimp (disch := first | omega | (refine DrawYes.mk ?_; decide +kernel) | fail) only [go_sem, ↓reduceIte, reduceCtorEq, Nat.reduceEqDiff, Nat.reduceAdd, Nat.reduceLeDiff, Int.reduceLE, Int.reduceLT, Int.reduceBEq, Int.reduceBNe, Int.reduceEq, Nat.reduceBEq, Int.reduceToNat, Nat.reduceLT, Nat.reduceGT, Nat.reduceSub, Nat.reduceMul, Int.reduceAdd, Int.reduceSub, Int.reduceNeg, Int.reduceGE, Int.reduceGT]
  refine call (genSplit_ok hs) ?_
  rintro v H' h
  simp -dsimp (disch := first | omega | (refine DrawYes.mk ?_; decide +kernel) | fail) only [go_sem, ↓reduceIte, reduceCtorEq, Nat.reduceEqDiff, Nat.reduceAdd, Nat.reduceLeDiff, Int.reduceLE, Int.reduceLT, Int.reduceBEq, Int.reduceBNe, Int.reduceEq, Nat.reduceBEq, Int.reduceToNat, Nat.reduceLT, Nat.reduceGT, Nat.reduceSub, Nat.reduceMul, Int.reduceAdd, Int.reduceSub, Int.reduceNeg, Int.reduceGE, Int.reduceGT]
  exact h

theorem words_ok {s : List UInt8} {H : DH} (hs : s.length < 100000000) (h9 : (9 : UInt8) ∉ s) : WC cfg 38 [.str s] H fun v H' => Ext H H' ∧ IsSl H.next H' 9 1 v ((wordsB s).map DV.str) := by
  refine WC_of (show Has cfg 38 22 [.tmp 2] _ from ⟨by kernel_rfl, Tryd.f38, Tryd.func38, rfl, rfl, rfl, by kernel_rfl⟩) (by simp) ?_
  simp -dsimp (disch := first | omega | (refine DrawYes.mk ?_; decide +kernel) | fail) only [go_sem, ↓reduceIte, reduceCtorEq, Nat.reduceEqDiff, Nat.reduceAdd, Nat.reduceLeDiff, Int.reduceLE, Int.reduceLT, Int.reduceBEq, Int.reduceBNe, Int.reduceEq, Nat.reduceBEq, Int.reduceToNat, Nat.reduceLT, Nat.reduceGT, Nat.reduceSub, Nat.reduceMul, Int.reduceAdd, Int.reduceSub, Int.reduceNeg, Int.reduceGE, Int.reduceGT]
  refine call (replace_ok h9) ?_
  rintro _ _ ⟨rfl, rfl⟩
  simp -dsimp (disch := first | omega | (refine DrawYes.mk ?_; decide +kernel) | fail) only [go_sem, ↓reduceIte, reduceCtorEq, Nat.reduceEqDiff, Nat.reduceAdd, Nat.reduceLeDiff, Int.reduceLE, Int.reduceLT, Int.reduceBEq, Int.reduceBNe, Int.reduceEq, Nat.reduceBEq, Int.reduceToNat, Nat.reduceLT, Nat.reduceGT, Nat.reduceSub, Nat.reduceMul, Int.reduceAdd, Int.reduceSub, Int.reduceNeg, Int.reduceGE, Int.reduceGT]
  refine call (split_ok hs) ?_
  rintro _ H1 ⟨hE, id, cs, hi1, hi2, rfl, hm, hcs⟩
  have hle := splitC_two (s := s) (c := 32)
  have hwl : ∀ k, ((((splitC s 32).take k).filter fun w => !w.isEmpty)).length ≤ k := fun k => Nat.le_trans (List.length_filter_le _ _) (by simp; omega)
  simp -dsimp (disch := first | omega | (refine DrawYes.mk ?_; decide +kernel) | fail) only [go_sem, ↓reduceIte, reduceCtorEq, Nat.reduceEqDiff, Nat.reduceAdd, Nat.reduceLeDiff, Int.reduceLE, Int.reduceLT, Int.reduceBEq, Int.reduceBNe, Int.reduceEq, Nat.reduceBEq, Int.reduceToNat, Nat.reduceLT, Nat.reduceGT, Nat.reduceSub, Nat.reduceMul, Int.reduceAdd, Int.reduceSub, Int.reduceNeg, Int.reduceGE, Int.reduceGT]
  refine Y_loop (α := Nat) (fun k σ H' => Ext H1 H' ∧ k ≤ (splitC s 32).length ∧ IsSl H1.next H' 9 1 (σ 3) ((((splitC s 32).take k).filter fun w => !w.isEmpty).map DV.str) ∧ σ 8 = .hs id 1 0 (splitC s 32).length ∧ σ 9 = .int .i64 (splitC s 32).length ∧ σ 10 = .int .i64 k) (fun k => (splitC s 32).length - k) 0 ?_ ?_
  · simp -dsimp (disch := first | omega | (refine DrawYes.mk ?_; decide +kernel) | fail) only [go_sem, ↓reduceIte, reduceCtorEq, Nat.reduceEqDiff, Nat.reduceAdd, Nat.reduceLeDiff, Int.reduceLE, Int.reduceLT, Int.reduceBEq, Int.reduceBNe, Int.reduceEq, Nat.reduceBEq, Int.reduceToNat, Nat.reduceLT, Nat.reduceGT, Nat.reduceSub, Nat.reduceMul, Int.reduceAdd, Int.reduceSub, Int.reduceNeg, Int.reduceGE, Int.reduceGT]
    exact ⟨Ext.refl, Nat.zero_le _, .inl ⟨rfl, rfl⟩⟩
  rintro k σ H2 ⟨hE2, hk, hsl, g8, g9, g10⟩
  have hm2 := hE2.get hi2 hm
  by_cases hlt : k < (splitC s 32).length
  · have k0 : (k : Int) < (splitC s 32).length := by omega
    have hd : List.drop k cs = DV.str (splitC s 32)[k] :: List.drop (k + 1) cs := by
      have h1 : cs[k]? = some (DV.str (splitC s 32)[k]) := by
        have : ((splitC s 32).map DV.str)[k]? = some (DV.str (splitC s 32)[k]) := by simp [hlt]
        rw [← hcs, List.getElem?_take, if_pos hlt] at this; exact this
      rw [List.drop_eq_getElem?_toList_append, h1]; rfl
    have htk : (splitC s 32).take (k + 1) = (splitC s 32).take k ++ [(splitC s 32)[k]] := by rw [List.take_add_one, List.getElem?_eq_getElem hlt]; rfl
    generalize (splitC s 32)[k] = w at hd htk
    simp -dsimp (disch := first | omega | (refine DrawYes.mk ?_; decide +kernel) | fail) only [go_sem, ↓reduceIte, reduceCtorEq, Nat.reduceEqDiff, Nat.reduceAdd, Nat.reduceLeDiff, Int.reduceLE, Int.reduceLT, Int.reduceBEq, Int.reduceBNe, Int.reduceEq, Nat.reduceBEq, Int.reduceToNat, Nat.reduceLT, Nat.reduceGT, Nat.reduceSub, Nat.reduceMul, Int.reduceAdd, Int.reduceSub, Int.reduceNeg, Int.reduceGE, Int.reduceGT, g8, g9, g10, k0, hm2, Nat.mul_one, hd]
    refine ⟨by omega, fun hw => ⟨k + 1, ⟨hE2, by omega, ?_, by simp⟩, by omega⟩, fun hw => ?_⟩
    · rw [htk, List.filter_append, hw]; simpa using hsl
    have hkk := hwl k
    refine app (lo := H1.next) (es := _) (new := [.str w]) und_35 size_9 bytes_9 und_35 zero_9 rfl rfl (by omega) hsl.new rfl (by have := hE2.le; simp only [new_next]; omega) (by simp; omega) (by simp; omega) ?_
    intro v' H3 hs3 hsm
    simp -dsimp (disch := first | omega | (refine DrawYes.mk ?_; decide +kernel) | fail) only [go_sem, ↓reduceIte, reduceCtorEq, Nat.reduceEqDiff, Nat.reduceAdd, Nat.reduceLeDiff, Int.reduceLE, Int.reduceLT, Int.reduceBEq, Int.reduceBNe, Int.reduceEq, Nat.reduceBEq, Int.reduceToNat, Nat.reduceLT, Nat.reduceGT, Nat.reduceSub, Nat.reduceMul, Int.reduceAdd, Int.reduceSub, Int.reduceNeg, Int.reduceGE, Int.reduceGT, g8, g9, g10, k0]
    refine ⟨k + 1, ⟨hsm.ext hsl.new hE2.new, by omega, ?_, by simp⟩, by omega⟩
    rw [htk, List.filter_append]
    simpa [hw] using hs3
  · have k0 : ¬ (k : Int) < (splitC s 32).length := by omega
    simp -dsimp (disch := first | omega | (refine DrawYes.mk ?_; decide +kernel) | fail) only [go_sem, ↓reduceIte, reduceCtorEq, Nat.reduceEqDiff, Nat.reduceAdd, Nat.reduceLeDiff, Int.reduceLE, Int.reduceLT, Int.reduceBEq, Int.reduceBNe, Int.reduceEq, Nat.reduceBEq, Int.reduceToNat, Nat.reduceLT, Nat.reduceGT, Nat.reduceSub, Nat.reduceMul, Int.reduceAdd, Int.reduceSub, Int.reduceNeg, Int.reduceGE, Int.reduceGT, g8, g9, g10, k0]
    refine ⟨hE.trans hE2, ?_⟩
    rw [List.take_of_length_le (by omega)] at hsl
    exact hsl.low hE.le
end Go.Proofs.YtcknfhhbijlobaaDoor.D
