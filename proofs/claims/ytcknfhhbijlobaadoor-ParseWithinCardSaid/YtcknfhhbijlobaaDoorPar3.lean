import Derived.Test.YtcknfhhbijlobaaDoorParM
namespace Go.Proofs.YtcknfhhbijlobaaDoor.D
open Go
set_option linter.unusedVariables false
set_option linter.unusedSimpArgs false
set_option maxRecDepth 100000

theorem shapes_ok {H : DH} : WC cfg 26 [] H fun v H' => v = .sl H.next 1 0 (shapesL.map DV.str) ∧ H' = H.new (.tip 9 18 true) := by
  refine WC_of (show Has cfg 26 2 [.tmp 0] _ from ⟨by kernel_rfl, Tryd.f26, Tryd.func26, rfl, rfl, rfl, by kernel_rfl⟩) (by simp) ?_
  simp -dsimp (disch := first | omega | (refine DrawYes.mk ?_; decide +kernel) | fail) only [go_sem, ↓reduceIte, reduceCtorEq, Nat.reduceEqDiff, Nat.reduceAdd, Nat.reduceLeDiff, Int.reduceLE, Int.reduceLT, Int.reduceBEq, Int.reduceBNe, Int.reduceEq, Nat.reduceBEq, Int.reduceToNat, Nat.reduceLT, Nat.reduceGT, Nat.reduceSub, Nat.reduceMul, Int.reduceAdd, Int.reduceSub, Int.reduceNeg, Int.reduceGE, Int.reduceGT]
  simp [shapesL]
theorem shapes_eq {H : DH} {K : DV → DH → Prop} {b : Later K} : WK cfg 26 [] H b = K (.sl H.next 1 0 (shapesL.map DV.str)) (H.new (.tip 9 18 true)) := by
  obtain ⟨v, H', h1, rfl, rfl⟩ := shapes_ok (H := H)
  apply propext
  unfold WK WC
  constructor
  · rintro ⟨v, H'', h2, h3⟩
    rw [h1] at h2
    cases h2; exact h3
  · intro h; exact ⟨_, _, h1, h⟩
theorem shape_ok {k : Nat} (hk : k < 18) {H : DH} : WC cfg 14 [.int .i64 k] H fun v H' => v = .str (shapeL k) ∧ Ext H H' := by
  refine WC_of (show Has cfg 14 17 [.tmp 2] _ from ⟨by kernel_rfl, Tryd.f14, Tryd.func14, rfl, rfl, rfl, by kernel_rfl⟩) (by simp) ?_
  have h1 : (shapesL.map DV.str)[k]? = some (.str (shapeL k)) := by
    have : k < shapesL.length := hk
    rw [List.getElem?_map, List.getElem?_eq_getElem this]
    simp [shapeL, List.getD, this]
  have h2 : ¬ (k : Int) < 0 := by omega
  have h3 : ¬ (18 : Int) ≤ k := by omega
  have h4 : (shapesL.map DV.str).length = 18 := rfl
  simp -dsimp (disch := first | omega | (refine DrawYes.mk ?_; decide +kernel) | fail) only [go_sem, ↓reduceIte, reduceCtorEq, Nat.reduceEqDiff, Nat.reduceAdd, Nat.reduceLeDiff, Int.reduceLE, Int.reduceLT, Int.reduceBEq, Int.reduceBNe, Int.reduceEq, Nat.reduceBEq, Int.reduceToNat, Nat.reduceLT, Nat.reduceGT, Nat.reduceSub, Nat.reduceMul, Int.reduceAdd, Int.reduceSub, Int.reduceNeg, Int.reduceGE, Int.reduceGT, shapes_eq, h1, h2, h3, h4]
  exact ⟨by omega, Ext.refl.new⟩
/-- The place of a text among some. -/
def idxS (s : List UInt8) (l : List (List UInt8)) : Int := match l.findIdx? (· == s) with | some i => i | none => -1
theorem findIdx_at {α : Type} {p : α → Bool} : ∀ {l : List α} {k : Nat} {x : α}, l[k]? = some x → p x = true → (∀ y ∈ l.take k, p y = false) → l.findIdx? p = some k
  | [], k, x, h, _, _ => by simp at h
  | a :: l, 0, x, h, hp, _ => by simp at h; subst h; simp [List.findIdx?_cons, hp]
  | a :: l, k + 1, x, h, hp, hn => by
    simp only [List.take_succ_cons, List.mem_cons, forall_eq_or_imp] at hn
    simp only [List.getElem?_cons_succ] at h
    rw [List.findIdx?_cons, hn.1]
    simp [findIdx_at h hp hn.2]
theorem findIdx_no {α : Type} {p : α → Bool} {l : List α} (h : ∀ y ∈ l, p y = false) : l.findIdx? p = none := by
  rw [List.findIdx?_eq_none_iff]; exact fun x hx => h x hx
theorem idxS_at {s : List UInt8} {l : List (List UInt8)} {k : Nat} (h : l[k]? = some s) (hn : ∀ y ∈ l.take k, y ≠ s) : idxS s l = k := by
  unfold idxS
  rw [findIdx_at h (by simp) (fun y hy => by simpa using hn y hy)]
theorem idxS_no {s : List UInt8} {l : List (List UInt8)} (hn : s ∉ l) : idxS s l = -1 := by
  unfold idxS
  rw [findIdx_no fun y hy => by simp; rintro rfl; exact hn hy]
theorem idxS_ge {s : List UInt8} {l : List (List UInt8)} : 0 ≤ idxS s l ↔ s ∈ l := by
  unfold idxS
  cases h : l.findIdx? (· == s) with
  | none =>
    simp only
    rw [List.findIdx?_eq_none_iff] at h
    constructor
    · intro h'; omega
    · intro hm; have := h s hm; simp at this
  | some i =>
    simp only
    have := List.findIdx?_eq_some_iff_getElem.1 h
    obtain ⟨hi, h1, _⟩ := this
    constructor
    · intro _
      have : l[i] = s := by simpa using h1
      exact this ▸ List.getElem_mem hi
    · intro _; omega
theorem sIndex_ok {id off : Nat} {l : List (List UInt8)} {s : List UInt8} {H : DH} (hl : l.length < 1000000000) : WC cfg 28 [.sl id 1 off (l.map DV.str), .str s] H fun v H' => v = .int .i64 (idxS s l) ∧ H' = H := by
  refine WC_of (show Has cfg 28 19 [.tmp 4] _ from ⟨by kernel_rfl, Tryd.f28, Tryd.func28, rfl, rfl, rfl, by kernel_rfl⟩) (by simp) ?_
  simp -dsimp (disch := first | omega | (refine DrawYes.mk ?_; decide +kernel) | fail) only [go_sem, ↓reduceIte, reduceCtorEq, Nat.reduceEqDiff, Nat.reduceAdd, Nat.reduceLeDiff, Int.reduceLE, Int.reduceLT, Int.reduceBEq, Int.reduceBNe, Int.reduceEq, Nat.reduceBEq, Int.reduceToNat, Nat.reduceLT, Nat.reduceGT, Nat.reduceSub, Nat.reduceMul, Int.reduceAdd, Int.reduceSub, Int.reduceNeg, Int.reduceGE, Int.reduceGT, List.length_map]
  refine Y_loop (α := Nat) (fun k σ H' => H' = H ∧ k ≤ l.length ∧ (∀ y ∈ l.take k, y ≠ s) ∧ σ 0 = .sl id 1 off (l.map DV.str) ∧ σ 1 = .str s ∧ σ 6 = .sl id 1 off (l.map DV.str) ∧ σ 7 = .int .i64 l.length ∧ σ 8 = .int .i64 k) (fun k => l.length - k) 0 ?_ ?_
  · simp -dsimp (disch := first | omega | (refine DrawYes.mk ?_; decide +kernel) | fail) only [go_sem, ↓reduceIte, reduceCtorEq, Nat.reduceEqDiff, Nat.reduceAdd, Nat.reduceLeDiff, Int.reduceLE, Int.reduceLT, Int.reduceBEq, Int.reduceBNe, Int.reduceEq, Nat.reduceBEq, Int.reduceToNat, Nat.reduceLT, Nat.reduceGT, Nat.reduceSub, Nat.reduceMul, Int.reduceAdd, Int.reduceSub, Int.reduceNeg, Int.reduceGE, Int.reduceGT, List.length_map]
    simp
  rintro k σ H1 ⟨rfl, hk, hn, g0, g1, g6, g7, g8⟩
  by_cases hlt : k < l.length
  · have k0 : (k : Int) < l.length := by omega
    have hg : l[k]? = some l[k] := List.getElem?_eq_getElem hlt
    have hgm : (l.map DV.str)[k]? = some (.str l[k]) := by rw [List.getElem?_map, hg]; rfl
    generalize l[k] = x at hg hgm
    simp -dsimp (disch := first | omega | (refine DrawYes.mk ?_; decide +kernel) | fail) only [go_sem, ↓reduceIte, reduceCtorEq, Nat.reduceEqDiff, Nat.reduceAdd, Nat.reduceLeDiff, Int.reduceLE, Int.reduceLT, Int.reduceBEq, Int.reduceBNe, Int.reduceEq, Nat.reduceBEq, Int.reduceToNat, Nat.reduceLT, Nat.reduceGT, Nat.reduceSub, Nat.reduceMul, Int.reduceAdd, Int.reduceSub, Int.reduceNeg, Int.reduceGE, Int.reduceGT, g0, g1, g6, g7, g8, k0, hgm]
    refine ⟨by omega, fun h => ?_, fun h => ⟨k + 1, ⟨by omega, ?_, rfl⟩, by omega⟩⟩
    · subst h
      rw [idxS_at hg hn]
    · rw [List.take_add_one, hg]
      intro y hy
      rcases List.mem_append.1 hy with hy | hy
      · exact hn y hy
      · simp at hy; subst hy; exact fun e => h e.symm
  · have k0 : ¬ (k : Int) < l.length := by omega
    simp -dsimp (disch := first | omega | (refine DrawYes.mk ?_; decide +kernel) | fail) only [go_sem, ↓reduceIte, reduceCtorEq, Nat.reduceEqDiff, Nat.reduceAdd, Nat.reduceLeDiff, Int.reduceLE, Int.reduceLT, Int.reduceBEq, Int.reduceBNe, Int.reduceEq, Nat.reduceBEq, Int.reduceToNat, Nat.reduceLT, Nat.reduceGT, Nat.reduceSub, Nat.reduceMul, Int.reduceAdd, Int.reduceSub, Int.reduceNeg, Int.reduceGE, Int.reduceGT, g0, g1, g6, g7, g8, k0]
    rw [List.take_of_length_le (by omega)] at hn
    rw [idxS_no fun h => hn s h rfl]
theorem sContains_ok {v : DV} {l : List (List UInt8)} {s : List UInt8} {H : DH} (hl : l.length < 1000000000) (hv : ∃ id off, v = .sl id 1 off (l.map DV.str)) : WC cfg 33 [v, .str s] H fun v H' => v = .bool (decide (s ∈ l)) ∧ H' = H := by
  obtain ⟨id, off, rfl⟩ := hv
  refine WC_of (show Has cfg 33 9 [.tmp 4] _ from ⟨by kernel_rfl, Tryd.f33, Tryd.func33, rfl, rfl, rfl, by kernel_rfl⟩) (by simp) ?_
  simp -dsimp (disch := first | omega | (refine DrawYes.mk ?_; decide +kernel) | fail) only [go_sem, ↓reduceIte, reduceCtorEq, Nat.reduceEqDiff, Nat.reduceAdd, Nat.reduceLeDiff, Int.reduceLE, Int.reduceLT, Int.reduceBEq, Int.reduceBNe, Int.reduceEq, Nat.reduceBEq, Int.reduceToNat, Nat.reduceLT, Nat.reduceGT, Nat.reduceSub, Nat.reduceMul, Int.reduceAdd, Int.reduceSub, Int.reduceNeg, Int.reduceGE, Int.reduceGT]
  refine call (sIndex_ok hl) ?_
  rintro _ _ ⟨rfl, rfl⟩
  simp -dsimp (disch := first | omega | (refine DrawYes.mk ?_; decide +kernel) | fail) only [go_sem, ↓reduceIte, reduceCtorEq, Nat.reduceEqDiff, Nat.reduceAdd, Nat.reduceLeDiff, Int.reduceLE, Int.reduceLT, Int.reduceBEq, Int.reduceBNe, Int.reduceEq, Nat.reduceBEq, Int.reduceToNat, Nat.reduceLT, Nat.reduceGT, Nat.reduceSub, Nat.reduceMul, Int.reduceAdd, Int.reduceSub, Int.reduceNeg, Int.reduceGE, Int.reduceGT]
  rw [show decide (0 ≤ idxS s l) = decide (s ∈ l) from by simp [idxS_ge]]
theorem mode_ok {s : List UInt8} {H : DH} : WC cfg 17 [.str s] H fun v H' => v = .int .i64 (modeL s) ∧ Ext H H' := by
  refine WC_of (show Has cfg 17 9 [.tmp 2] _ from ⟨by kernel_rfl, Tryd.f17, Tryd.func17, rfl, rfl, rfl, by kernel_rfl⟩) (by simp) ?_
  simp -dsimp (disch := first | omega | (refine DrawYes.mk ?_; decide +kernel) | fail) only [go_sem, ↓reduceIte, reduceCtorEq, Nat.reduceEqDiff, Nat.reduceAdd, Nat.reduceLeDiff, Int.reduceLE, Int.reduceLT, Int.reduceBEq, Int.reduceBNe, Int.reduceEq, Nat.reduceBEq, Int.reduceToNat, Nat.reduceLT, Nat.reduceGT, Nat.reduceSub, Nat.reduceMul, Int.reduceAdd, Int.reduceSub, Int.reduceNeg, Int.reduceGE, Int.reduceGT]
  refine ⟨fun h => ?_, fun h => ?_⟩
  · subst h; exact ⟨rfl, Ext.refl⟩
  refine call (sIndex_ok (l := [[], [115, 109, 116, 112], [112, 111, 112, 51], [102, 116, 112]]) (by simp)) ?_
  rintro _ _ ⟨rfl, rfl⟩
  have hi : (if idxS s [[], [115, 109, 116, 112], [112, 111, 112, 51], [102, 116, 112]] < 0 then 0 else idxS s [[], [115, 109, 116, 112], [112, 111, 112, 51], [102, 116, 112]]) = (modeL s : Int) := by
    have h0 : (([] : List UInt8) == s) = false := beq_eq_false_iff_ne.2 fun e => h e.symm
    unfold idxS modeL
    simp only [List.findIdx?_cons, h0, List.findIdx?_nil]
    by_cases h1 : s = [115, 109, 116, 112]
    · subst h1; rfl
    by_cases h2 : s = [112, 111, 112, 51]
    · subst h2; rfl
    by_cases h3 : s = [102, 116, 112]
    · subst h3; rfl
    have e1 : (([115, 109, 116, 112] : List UInt8) == s) = false := beq_eq_false_iff_ne.2 fun e => h1 e.symm
    have e2 : (([112, 111, 112, 51] : List UInt8) == s) = false := beq_eq_false_iff_ne.2 fun e => h2 e.symm
    have e3 : (([102, 116, 112] : List UInt8) == s) = false := beq_eq_false_iff_ne.2 fun e => h3 e.symm
    rw [e1, e2, e3, if_neg h1, if_neg h2, if_neg h3]
    rfl
  simp -dsimp (disch := first | omega | (refine DrawYes.mk ?_; decide +kernel) | fail) only [go_sem, ↓reduceIte, reduceCtorEq, Nat.reduceEqDiff, Nat.reduceAdd, Nat.reduceLeDiff, Int.reduceLE, Int.reduceLT, Int.reduceBEq, Int.reduceBNe, Int.reduceEq, Nat.reduceBEq, Int.reduceToNat, Nat.reduceLT, Nat.reduceGT, Nat.reduceSub, Nat.reduceMul, Int.reduceAdd, Int.reduceSub, Int.reduceNeg, Int.reduceGE, Int.reduceGT]
  exact ⟨by rw [hi], Ext.refl.new⟩

/-- Nothing that was there has changed but what lies in S. -/
structure Frm (S : List Nat) (H H' : DH) : Prop where
  le : H.next ≤ H'.next
  same : ∀ b, b < H.next → b ∉ S → H'.m b = H.m b
theorem Frm.refl {S : List Nat} {H : DH} : Frm S H H := ⟨Nat.le_refl _, fun _ _ _ => rfl⟩
theorem Frm.trans {S : List Nat} {A B C : DH} (x : Frm S A B) (y : Frm S B C) : Frm S A C := ⟨Nat.le_trans x.le y.le, fun b hb hs => (y.same b (Nat.lt_of_lt_of_le hb x.le) hs).trans (x.same b hb hs)⟩
theorem Frm.ext {S : List Nat} {A B : DH} (x : Ext A B) : Frm S A B := ⟨x.le, fun b hb _ => x.same b hb⟩
theorem Frm.toExt {A B : DH} (x : Frm [] A B) : Ext A B := ⟨x.le, fun b hb => x.same b hb (by simp)⟩
theorem Frm.new {S : List Nat} {A B : DH} {o : DObj} (x : Frm S A B) : Frm S A (B.new o) := x.trans (Frm.ext Ext.refl.new)
theorem Frm.set {S : List Nat} {A B : DH} {o : DObj} {b : Nat} (x : Frm S A B) (hb : b ∈ S ∨ A.next ≤ b) : Frm S A (B.set b o) := by
  refine ⟨x.le, fun i hi hs => ?_⟩
  rw [set_m, if_neg]
  · exact x.same i hi hs
  · rintro rfl
    rcases hb with h | h
    · exact hs h
    · omega
theorem Frm.mov {S : List Nat} {A B : DH} {o : DObj} {b : Nat} (x : Frm S A B) (hb : b ∈ S ∨ A.next ≤ b) : Frm S A (B.mov b o) := by
  refine ⟨Nat.le_succ_of_le x.le, fun i hi hs => ?_⟩
  rw [mov_m, if_neg (by have := x.le; omega), if_neg]
  · exact x.same i hi hs
  · rintro rfl
    rcases hb with h | h
    · exact hs h
    · omega
theorem Frm.mono {S S' : List Nat} {A B : DH} (x : Frm S A B) (h : ∀ b ∈ S, b < A.next → b ∈ S') : Frm S' A B := ⟨x.le, fun b hb hs => x.same b hb fun e => hs (h b e hb)⟩
theorem Frm.get {S : List Nat} {A B : DH} (x : Frm S A B) {b : Nat} {o : Option DObj} (hb : b < A.next) (hs : b ∉ S) (h : A.m b = o) : B.m b = o := (x.same b hb hs).trans h

/- The parser. -/
abbrev PT : TypeId := 49
theorem pnext_ok {p id off : Nat} {k : Tok} {ts : List Tok} {a b c d e f : DV} {H : DH} (hp : p < H.next) (hm : H.m p = some (.cells PT [.sl id 3 off ((k :: ts).map Tok.dv), a, b, c, d, e, f])) :
    WC cfg 20 [.ptr p 0] H fun v H' => v = k.dv ∧ Ext H H' := by
  refine WC_of (show Has cfg 20 9 [.cell 2 52] _ from ⟨by kernel_rfl, Tryd.f20, Tryd.func20, rfl, rfl, rfl, by kernel_rfl⟩) (by simp) ?_
  have h0 : ¬ p = H.next := by omega
  simp -dsimp (disch := first | omega | (refine DrawYes.mk ?_; decide +kernel) | fail) only [go_sem, ↓reduceIte, reduceCtorEq, Nat.reduceEqDiff, Nat.reduceAdd, Nat.reduceLeDiff, Int.reduceLE, Int.reduceLT, Int.reduceBEq, Int.reduceBNe, Int.reduceEq, Nat.reduceBEq, Int.reduceToNat, Nat.reduceLT, Nat.reduceGT, Nat.reduceSub, Nat.reduceMul, Int.reduceAdd, Int.reduceSub, Int.reduceNeg, Int.reduceGE, Int.reduceGT, hm, List.map_cons, Tok.dv, h0]
  exact (Ext.refl.new).set (Nat.le_refl _)
theorem pfail_ok {p id off : Nat} {k : Tok} {ts : List Tok} {a b c d e f : DV} {er : Nat} {H : DH} (hp : p < H.next) (hm : H.m p = some (.cells PT [.sl id 3 off ((k :: ts).map Tok.dv), a, b, c, d, e, f])) :
    WC cfg 21 [.ptr p 0, .int .i64 er] H fun v H' => v = .bool false ∧ Frm [p] H H' ∧ H'.m p = some (.cells PT [.sl id 3 off ((k :: ts).map Tok.dv), a, b, c, d, .int .i64 k.pos, .int .i64 er]) := by
  refine WC_of (show Has cfg 21 15 [.tmp 4] _ from ⟨by kernel_rfl, Tryd.f21, Tryd.func21, rfl, rfl, rfl, by kernel_rfl⟩) (by simp) ?_
  simp -dsimp (disch := first | omega | (refine DrawYes.mk ?_; decide +kernel) | fail) only [go_sem, ↓reduceIte, reduceCtorEq, Nat.reduceEqDiff, Nat.reduceAdd, Nat.reduceLeDiff, Int.reduceLE, Int.reduceLT, Int.reduceBEq, Int.reduceBNe, Int.reduceEq, Nat.reduceBEq, Int.reduceToNat, Nat.reduceLT, Nat.reduceGT, Nat.reduceSub, Nat.reduceMul, Int.reduceAdd, Int.reduceSub, Int.reduceNeg, Int.reduceGE, Int.reduceGT]
  refine call (pnext_ok hp hm) ?_
  rintro _ H1 ⟨rfl, hE⟩
  have hm1 := hE.get hp hm
  simp -dsimp (disch := first | omega | (refine DrawYes.mk ?_; decide +kernel) | fail) only [go_sem, ↓reduceIte, reduceCtorEq, Nat.reduceEqDiff, Nat.reduceAdd, Nat.reduceLeDiff, Int.reduceLE, Int.reduceLT, Int.reduceBEq, Int.reduceBNe, Int.reduceEq, Nat.reduceBEq, Int.reduceToNat, Nat.reduceLT, Nat.reduceGT, Nat.reduceSub, Nat.reduceMul, Int.reduceAdd, Int.reduceSub, Int.reduceNeg, Int.reduceGE, Int.reduceGT, hm1, Tok.dv]
  exact ((Frm.ext hE).set (.inl (by simp))).set (.inl (by simp))
theorem pis_ok {p id off : Nat} {k : Tok} {ts : List Tok} {a b c d e f : DV} {kd : Nat} {som : DV} {ss : List (List UInt8)} {H : DH} (hp : p < H.next) (hl : ts.length < 100000) (hss : ss.length < 100) (hs : (som = .nils ∧ ss = []) ∨ (ss ≠ [] ∧ ∃ id off, som = .sl id 1 off (ss.map DV.str))) (hm : H.m p = some (.cells PT [.sl id 3 off ((k :: ts).map Tok.dv), a, b, c, d, e, f])) :
    WC cfg 19 [.ptr p 0, .int .i64 kd, som] H fun v H' => v = .bool (decide (k.kind = kd ∧ (ss = [] ∨ k.text ∈ ss))) ∧ Frm [p] H H' ∧
      H'.m p = some (.cells PT [if k.kind = kd ∧ (ss = [] ∨ k.text ∈ ss) then .sl id 3 (off + 1) (ts.map Tok.dv) else .sl id 3 off ((k :: ts).map Tok.dv), a, b, c, d, e, f]) := by
  refine WC_of (show Has cfg 19 34 [.tmp 6] _ from ⟨by kernel_rfl, Tryd.f19, Tryd.func19, rfl, rfl, rfl, by kernel_rfl⟩) (by simp) ?_
  simp -dsimp (disch := first | omega | (refine DrawYes.mk ?_; decide +kernel) | fail) only [go_sem, ↓reduceIte, reduceCtorEq, Nat.reduceEqDiff, Nat.reduceAdd, Nat.reduceLeDiff, Int.reduceLE, Int.reduceLT, Int.reduceBEq, Int.reduceBNe, Int.reduceEq, Nat.reduceBEq, Int.reduceToNat, Nat.reduceLT, Nat.reduceGT, Nat.reduceSub, Nat.reduceMul, Int.reduceAdd, Int.reduceSub, Int.reduceNeg, Int.reduceGE, Int.reduceGT]
  refine call (pnext_ok hp hm) ?_
  rintro _ H1 ⟨rfl, hE⟩
  have hm1 := hE.get hp hm
  have hle := hE.le
  have h0 : ¬ p = H1.next := by omega
  have h1 : ¬ p = H1.next + 1 := by omega
  have ht : List.take ts.length (ts.map Tok.dv) = ts.map Tok.dv := List.take_of_length_le (by simp)
  have hF : ∀ o o', Frm [p] H ((H1.new o).set H1.next o') := fun o o' => ((Frm.ext hE).new).set (.inr hle)
  by_cases hk : k.kind = kd
  · have k0 : ((k.kind : Int) != kd) = false := by simp; omega
    rcases hs with ⟨rfl, rfl⟩ | ⟨hne, id2, off2, rfl⟩
    · simp -dsimp (disch := first | omega | (refine DrawYes.mk ?_; decide +kernel) | fail) only [go_sem, ↓reduceIte, reduceCtorEq, Nat.reduceEqDiff, Nat.reduceAdd, Nat.reduceLeDiff, Int.reduceLE, Int.reduceLT, Int.reduceBEq, Int.reduceBNe, Int.reduceEq, Nat.reduceBEq, Int.reduceToNat, Nat.reduceLT, Nat.reduceGT, Nat.reduceSub, Nat.reduceMul, Int.reduceAdd, Int.reduceSub, Int.reduceNeg, Int.reduceGE, Int.reduceGT, hm1, Tok.dv, k0, List.map_cons, List.length_cons, List.length_map, h0, h1, hk, ht]
      exact ⟨by omega, by simp, (hF _ _).set (.inl (by simp)), by simp⟩
    · have k1 : 0 < (ss.length : Int) := by have := List.length_pos_iff.2 hne; omega
      simp -dsimp (disch := first | omega | (refine DrawYes.mk ?_; decide +kernel) | fail) only [go_sem, ↓reduceIte, reduceCtorEq, Nat.reduceEqDiff, Nat.reduceAdd, Nat.reduceLeDiff, Int.reduceLE, Int.reduceLT, Int.reduceBEq, Int.reduceBNe, Int.reduceEq, Nat.reduceBEq, Int.reduceToNat, Nat.reduceLT, Nat.reduceGT, Nat.reduceSub, Nat.reduceMul, Int.reduceAdd, Int.reduceSub, Int.reduceNeg, Int.reduceGE, Int.reduceGT, hm1, Tok.dv, k0, k1, List.map_cons, List.length_cons, List.length_map, h0, h1, hk]
      refine call (sContains_ok (l := ss) (by omega) ⟨_, _, rfl⟩) ?_
      rintro _ _ ⟨rfl, rfl⟩
      by_cases hc : k.text ∈ ss
      · simp -dsimp (disch := first | omega | (refine DrawYes.mk ?_; decide +kernel) | fail) only [go_sem, ↓reduceIte, reduceCtorEq, Nat.reduceEqDiff, Nat.reduceAdd, Nat.reduceLeDiff, Int.reduceLE, Int.reduceLT, Int.reduceBEq, Int.reduceBNe, Int.reduceEq, Nat.reduceBEq, Int.reduceToNat, Nat.reduceLT, Nat.reduceGT, Nat.reduceSub, Nat.reduceMul, Int.reduceAdd, Int.reduceSub, Int.reduceNeg, Int.reduceGE, Int.reduceGT, hm1, Tok.dv, k0, k1, List.map_cons, List.length_cons, List.length_map, hc, h0, h1, hk, ht]
        exact ⟨by omega, by simp, (hF _ _).set (.inl (by simp)), by simp⟩
      · simp -dsimp (disch := first | omega | (refine DrawYes.mk ?_; decide +kernel) | fail) only [go_sem, ↓reduceIte, reduceCtorEq, Nat.reduceEqDiff, Nat.reduceAdd, Nat.reduceLeDiff, Int.reduceLE, Int.reduceLT, Int.reduceBEq, Int.reduceBNe, Int.reduceEq, Nat.reduceBEq, Int.reduceToNat, Nat.reduceLT, Nat.reduceGT, Nat.reduceSub, Nat.reduceMul, Int.reduceAdd, Int.reduceSub, Int.reduceNeg, Int.reduceGE, Int.reduceGT, hm1, Tok.dv, k0, k1, List.map_cons, List.length_cons, List.length_map, hc, h0, h1, hk, ht]
        exact ⟨by simp [hne], hF _ _, by simp [hne]⟩
  · have k0 : ((k.kind : Int) != kd) = true := by simp; omega
    simp -dsimp (disch := first | omega | (refine DrawYes.mk ?_; decide +kernel) | fail) only [go_sem, ↓reduceIte, reduceCtorEq, Nat.reduceEqDiff, Nat.reduceAdd, Nat.reduceLeDiff, Int.reduceLE, Int.reduceLT, Int.reduceBEq, Int.reduceBNe, Int.reduceEq, Nat.reduceBEq, Int.reduceToNat, Nat.reduceLT, Nat.reduceGT, Nat.reduceSub, Nat.reduceMul, Int.reduceAdd, Int.reduceSub, Int.reduceNeg, Int.reduceGE, Int.reduceGT, hm1, Tok.dv, k0, List.map_cons, List.length_cons, List.length_map, h0, h1, hk, ht]
    exact ⟨by simp, hF _ _, by simp⟩
end Go.Proofs.YtcknfhhbijlobaaDoor.D
