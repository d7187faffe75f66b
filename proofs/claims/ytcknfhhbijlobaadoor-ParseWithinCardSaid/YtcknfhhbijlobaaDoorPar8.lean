import Derived.Test.YtcknfhhbijlobaaDoorPar7
namespace Go.Proofs.YtcknfhhbijlobaaDoor.D
open Go
set_option linter.unusedVariables false
set_option linter.unusedSimpArgs false
set_option maxRecDepth 100000

/-- Tokens that end by the sign of their end, whose ints are ints. -/
structure TokOk (ts : List Tok) : Prop where
  last : ∃ e, ts.getLast? = some e ∧ e.kind = 0
  ints : ∀ t ∈ ts, t.kind = 2 → (∀ b ∈ t.text, isDig b) ∧ 0 < t.text.length ∧ t.text.length ≤ 9
  len : ts.length < 1000
theorem TokOk.tail {k : Tok} {ts : List Tok} (h : TokOk (k :: ts)) (hk : k.kind ≠ 0) : TokOk ts := by
  refine ⟨?_, fun t ht => h.ints t (by simp [ht]), by have := h.len; simp at this; omega⟩
  obtain ⟨e, h1, h2⟩ := h.last
  cases ts with
  | nil => simp at h1; subst h1; exact absurd h2 hk
  | cons a l => exact ⟨e, by simpa [List.getLast?_cons_cons] using h1, h2⟩
theorem TokOk.ne {ts : List Tok} (h : TokOk ts) : ∃ k r, ts = k :: r := by
  cases ts with
  | nil => obtain ⟨e, h1, _⟩ := h.last; simp at h1
  | cons a l => exact ⟨a, l, rfl⟩
theorem kindT_lt {tx : List UInt8} {k : Nat} (h : kindT tx = some k) : 0 < k ∧ k < 18 := by
  unfold kindT at h
  obtain ⟨h1, h2, _⟩ := List.findIdx?_eq_some_iff_getElem.1 h
  have h3 : headsL.length = 18 := rfl
  refine ⟨?_, by omega⟩
  rcases Nat.eq_zero_or_pos k with rfl | h
  · simp [headsL] at h2
  · exact h
/-- The parser in the heap, its state's parts put together. -/
def PX (lo : Nat) (H : DH) (p md id : Nat) (at_ e : DV) (st : PSt) : Prop := ∃ off stmv topv opv es fs, PI lo H p md (.sl id 3 off (st.ts.map Tok.dv)) at_ e st.R st.top st.os stmv topv opv es fs
/-- What a statement's reading comes to, in the heap. -/
def OneR (lo : Nat) (H : DH) (p md id : Nat) (at_ e : DV) (v : DV) : PSt ⊕ PRes → Prop
  | .inl st => v = .bool true ∧ PX lo H p md id at_ e st
  | .inr (.bad pos er) => v = .bool false ∧ ∃ a b c d f, H.m p = some (.cells PT [a, b, c, d, f, .int .i64 pos, .int .i64 er])
  | .inr (.ok _ _) => False
theorem PI.opl {lo : Nat} {H : DH} {p md : Nat} {tok at_ e : DV} {R : List Stm} {top : List Nat} {os : List Fr} {stmv topv opv : DV} {es : List DV} {fs : List Fx} (h : PI lo H p md tok at_ e R top os stmv topv opv es fs) (H' : DH) : lenD cfg.T H' 47 opv = some (.int .i64 os.length) := by
  have := h.fr.len
  rcases h.op with ⟨rfl, rfl⟩ | ⟨r, cs, rfl, _⟩
  · rw [this]; simp -dsimp (disch := first | omega | (refine DrawYes.mk ?_; decide +kernel) | fail) only [go_sem, ↓reduceIte, reduceCtorEq, Nat.reduceEqDiff, Nat.reduceAdd, Nat.reduceLeDiff, Int.reduceLE, Int.reduceLT, Int.reduceBEq, Int.reduceBNe, Int.reduceEq, Nat.reduceBEq, Int.reduceToNat, Nat.reduceLT, Nat.reduceGT, Nat.reduceSub, Nat.reduceMul, Int.reduceAdd, Int.reduceSub, Int.reduceNeg, Int.reduceGE, Int.reduceGT, List.length_nil]
  · rw [this]; simp -dsimp (disch := first | omega | (refine DrawYes.mk ?_; decide +kernel) | fail) only [go_sem, ↓reduceIte, reduceCtorEq, Nat.reduceEqDiff, Nat.reduceAdd, Nat.reduceLeDiff, Int.reduceLE, Int.reduceLT, Int.reduceBEq, Int.reduceBNe, Int.reduceEq, Nat.reduceBEq, Int.reduceToNat, Nat.reduceLT, Nat.reduceGT, Nat.reduceSub, Nat.reduceMul, Int.reduceAdd, Int.reduceSub, Int.reduceNeg, Int.reduceGE, Int.reduceGT]

theorem Low.frm {lo p : Nat} {A B C : DH} (x : Low lo A B) (y : Frm [p] B C) (hp : lo ≤ p) (hn : lo ≤ A.next) : Low lo A C :=
  ⟨Nat.le_trans x.le y.le, fun b hb => (y.same b (by have := x.le; omega) (by simp; omega)).trans (x.same b hb)⟩
theorem Low.trans {lo : Nat} {A B C : DH} (x : Low lo A B) (y : Low lo B C) : Low lo A C := ⟨Nat.le_trans x.le y.le, fun b hb => (y.same b hb).trans (x.same b hb)⟩
theorem mustE_kind {part : List UInt8} {no : Nat} {k : Tok} (h : mustE part no k = 0) : k.kind ≠ 0 := by
  intro h0
  unfold mustE at h
  rw [h0] at h
  simp at h
theorem mustE_int {no : Nat} {k : Tok} (h : mustE [105] no k = 0) : k.kind = 2 := by
  unfold mustE at h
  simp at h
  exact h
theorem pi_push {lo : Nat} {H H' : DH} {p md : Nat} {tok at_ e : DV} {R : List Stm} {top : List Nat} {os : List Fr} {stmv topv opv : DV} {es : List DV} {fs : List Fx} (h : PI lo H p md tok at_ e R top os stmv topv opv es fs) {s : Stm} {b r' : Nat} {cs' : List DV}
    (hlo : lo ≤ H.next) (q1 : H.next ≤ H'.next) (hb : H.next ≤ b ∧ b < H'.next) (hr : H.next ≤ r' ∧ r' < H'.next) (q2 : H'.m p = some (.cells PT [tok, .int .i64 md, stmv, topv, .hs r' 1 0 (fs.length + 1), at_, e]))
    (q3 : H'.m b = some (.cells FT [.int .i64 s.kind, .str s.s, .str s.t, .str s.u, .int .i64 s.n, .int .i64 s.at_, .nils, .nils, .bool false])) (hsl : s.l = []) (hsm : s.m = [])
    (q4 : H'.m r' = some (.row 70 cs')) (q4' : cs'.take (fs.length + 1) = (fs.map fun x => .ptr x.1 0) ++ [.ptr b 0])
    (q5 : ∀ i, i < H.next → i ≠ p → (∀ cs, H.m i ≠ some (.row 70 cs)) → H'.m i = H.m i) :
    PI lo H' p md tok at_ e R top (os ++ [⟨s, false⟩]) stmv topv (.hs r' 1 0 (fs.length + 1)) es (fs ++ [(b, .nils, .nils)]) where
  hp := Nat.lt_of_lt_of_le h.hp q1
  lop := h.lop
  obj := q2
  stm := h.stm.keep q1 fun id hi => by
    obtain ⟨_, h2, k, h3⟩ := h.stm.tip id hi
    exact q5 id h2 (mne h3 h.obj (by simp)) fun cs hc => by rw [h3] at hc; cases hc
  stmR := h.stmR
  top := h.top.keep q1 fun id hi => by
    obtain ⟨_, h2, k, h3⟩ := h.top.tip id hi
    exact q5 id h2 (mne h3 h.obj (by simp)) fun cs hc => by rw [h3] at hc; cases hc
  op := .inr ⟨r', cs', by simp, by omega, hr.2, q4, by rw [List.length_append, List.map_append]; exact q4'⟩
  fr := (frs_keep h.fr q1 fun y hy => by
    obtain ⟨f, _, hf⟩ := h.fr.mem y hy
    refine ⟨q5 y.1 hf.2.1 (mne hf.2.2.1 h.obj (by simp [PT, FT])) (fun cs hc => by rw [hf.2.2.1] at hc; cases hc), fun id hi => ?_⟩
    obtain ⟨_, h2, k, h3⟩ := hf.ids id hi
    exact q5 id h2 (mne h3 h.obj (by simp)) fun cs hc => by rw [h3] at hc; cases hc).app
      (.cons ⟨by simp only; omega, hb.2, q3, .inl ⟨rfl, by simp [hsl]⟩, .inl ⟨rfl, by simp [hsm]⟩⟩ .nil)
  nodb := by
    rw [List.map_append, List.nodup_append]
    refine ⟨h.nodb, by simp, fun x hx y hy => ?_⟩
    simp only [List.map_cons, List.map_nil, List.mem_singleton] at hy
    subst hy
    rw [List.mem_map] at hx
    obtain ⟨z, hz, rfl⟩ := hx
    obtain ⟨f, _, hf⟩ := h.fr.mem z hz
    have := hf.2.1
    omega
  nodt := by
    rw [List.flatMap_append]
    have : [((b, .nils, .nils) : Fx)].flatMap fids = [] := by simp [fids, slid]
    rw [this, List.append_nil]
    exact h.nodt
def ofW (R : List Stm) (top : List Nat) (os : List Fr) : WRes → PSt ⊕ PRes
  | .bad p e => .inr (.bad p e)
  | .whole s ts' => .inl (wholeP ⟨ts', R, top, os⟩ s)
  | .opens s ts' => .inl ⟨ts', R, top, os ++ [⟨s, false⟩]⟩
theorem oneP_eq {k : Tok} {ts0 ts : List Tok} {R : List Stm} {top : List Nat} {os : List Fr} {kd : Nat} (h1 : k.kind = 1) (h2 : kindT k.text = some kd) :
    oneP ⟨ts0, R, top, os⟩ k ts = ofW R top os (wordsP (partsL.getD kd []) os.length ⟨kd, [], [], [], 0, k.pos, [], []⟩ (if kd = 2 then 1 else 0) ts) := by
  simp only [oneP, if_pos h1, h2]
  cases wordsP (partsL.getD kd []) os.length ⟨kd, [], [], [], 0, k.pos, [], []⟩ (if kd = 2 then 1 else 0) ts <;> rfl
theorem parts_ok : ∀ k, k < 18 → (partsL.getD k []).length ≤ 5 ∧ ((partsL.getD k []).filter fun p => decide (isText p)).length + (if k = 2 then 1 else 0) ≤ 3 := by decide
theorem pone_ok {lo : Nat} {H : DH} {p md id off : Nat} {at_ e : DV} {k : Tok} {ts : List Tok} {R : List Stm} {top : List Nat} {os : List Fr} {stmv topv opv : DV} {es : List DV} {fs : List Fx}
    (h : PI lo H p md (.sl id 3 off ((k :: ts).map Tok.dv)) at_ e R top os stmv topv opv es fs) (hb : Bnd R top os) (hlo : lo ≤ H.next) (hts : TokOk (k :: ts)) :
    WC cfg 23 [.ptr p 0] H fun v H' => Low lo H H' ∧ OneR lo H' p md id at_ e v (oneP ⟨k :: ts, R, top, os⟩ k ts) := by
  refine WC_of (show Has cfg 23 94 [.tmp 2] _ from ⟨by kernel_rfl, Tryd.f23, Tryd.func23, rfl, rfl, rfl, by kernel_rfl⟩) (by simp) ?_
  have hp := h.hp
  have hlop := h.lop
  have hlen : ts.length < 1000 := by have := hts.len; simp at this; omega
  simp -dsimp (disch := first | omega | (refine DrawYes.mk ?_; decide +kernel) | fail) only [go_sem, ↓reduceIte, reduceCtorEq, Nat.reduceEqDiff, Nat.reduceAdd, Nat.reduceLeDiff, Int.reduceLE, Int.reduceLT, Int.reduceBEq, Int.reduceBNe, Int.reduceEq, Nat.reduceBEq, Int.reduceToNat, Nat.reduceLT, Nat.reduceGT, Nat.reduceSub, Nat.reduceMul, Int.reduceAdd, Int.reduceSub, Int.reduceNeg, Int.reduceGE, Int.reduceGT]
  refine call (pnext_ok hp h.obj) ?_
  rintro _ H1 ⟨rfl, hE⟩
  have hm1 := hE.get hp h.obj
  have hle1 := hE.le
  simp -dsimp (disch := first | omega | (refine DrawYes.mk ?_; decide +kernel) | fail) only [go_sem, ↓reduceIte, reduceCtorEq, Nat.reduceEqDiff, Nat.reduceAdd, Nat.reduceLeDiff, Int.reduceLE, Int.reduceLT, Int.reduceBEq, Int.reduceBNe, Int.reduceEq, Nat.reduceBEq, Int.reduceToNat, Nat.reduceLT, Nat.reduceGT, Nat.reduceSub, Nat.reduceMul, Int.reduceAdd, Int.reduceSub, Int.reduceNeg, Int.reduceGE, Int.reduceGT, shapes_eq, Tok.dv]
  refine call (idxFunc_ok (tb := H1.next) (kd := .int .i64 k.kind) (tx := k.text) (pos := .int .i64 k.pos) (by simp only [new_next, set_next]; omega) (by simp only [new_m, set_m, new_next, set_next, if_neg (by omega : ¬ H1.next = H1.next + 1), if_pos])) ?_
  rintro _ H2 ⟨rfl, hE2⟩
  have hle2 := hE2.le
  simp only [new_next, set_next] at hle2
  have ht2 : H2.m H1.next = some (.cells 52 [.int .i64 k.kind, .str k.text, .int .i64 k.pos]) := hE2.get (by simp only [new_next, set_next]; omega) (by simp only [new_m, set_m, new_next, set_next, if_neg (by omega : ¬ H1.next = H1.next + 1), if_pos])
  have hm2 : H2.m p = _ := hE2.get (by simp only [new_next, set_next]; omega) (by simp only [new_m, set_m, new_next, set_next, if_neg (by omega : ¬ p = H1.next), if_neg (by omega : ¬ p = H1.next + 1)]; exact hm1)
  have hE12 : Ext H H2 := hE.trans ((((Ext.refl (H := H1)).new).set (Nat.le_refl _)).new.trans hE2)
  by_cases hk1 : k.kind = 1
  · have j1 : ((k.kind : Int) != 1) = false := by simp; omega
    cases hkt : kindT k.text with
    | none =>
      have j2 : kindI k.text = -1 := by rw [kindI, hkt]
      simp -dsimp (disch := first | omega | (refine DrawYes.mk ?_; decide +kernel) | fail) only [go_sem, ↓reduceIte, reduceCtorEq, Nat.reduceEqDiff, Nat.reduceAdd, Nat.reduceLeDiff, Int.reduceLE, Int.reduceLT, Int.reduceBEq, Int.reduceBNe, Int.reduceEq, Nat.reduceBEq, Int.reduceToNat, Nat.reduceLT, Nat.reduceGT, Nat.reduceSub, Nat.reduceMul, Int.reduceAdd, Int.reduceSub, Int.reduceNeg, Int.reduceGE, Int.reduceGT, ht2, j1, j2]
      refine call (pfail_ok (er := 20) (by omega) hm2) ?_
      rintro _ H3 ⟨rfl, hF3, hm3⟩
      simp -dsimp (disch := first | omega | (refine DrawYes.mk ?_; decide +kernel) | fail) only [go_sem, ↓reduceIte, reduceCtorEq, Nat.reduceEqDiff, Nat.reduceAdd, Nat.reduceLeDiff, Int.reduceLE, Int.reduceLT, Int.reduceBEq, Int.reduceBNe, Int.reduceEq, Nat.reduceBEq, Int.reduceToNat, Nat.reduceLT, Nat.reduceGT, Nat.reduceSub, Nat.reduceMul, Int.reduceAdd, Int.reduceSub, Int.reduceNeg, Int.reduceGE, Int.reduceGT]
      have : oneP ⟨k :: ts, R, top, os⟩ k ts = .inr (.bad k.pos 20) := by simp only [oneP, if_pos hk1, hkt]
      rw [this]
      exact ⟨(Low.frm ⟨hE12.le, fun b hb => hE12.same b (by omega)⟩ hF3 hlop hlo), rfl, _, _, _, _, _, hm3⟩
    | some kd =>
      have j2 : kindI k.text = kd := by rw [kindI, hkt]
      have j3 : ¬ (kd : Int) < 0 := by omega
      simp -dsimp (disch := first | omega | (refine DrawYes.mk ?_; decide +kernel) | fail) only [go_sem, ↓reduceIte, reduceCtorEq, Nat.reduceEqDiff, Nat.reduceAdd, Nat.reduceLeDiff, Int.reduceLE, Int.reduceLT, Int.reduceBEq, Int.reduceBNe, Int.reduceEq, Nat.reduceBEq, Int.reduceToNat, Nat.reduceLT, Nat.reduceGT, Nat.reduceSub, Nat.reduceMul, Int.reduceAdd, Int.reduceSub, Int.reduceNeg, Int.reduceGE, Int.reduceGT, ht2, j1, j2, j3]
      refine call (pis_ok (ss := []) (by omega) (by omega) (by simp) (.inl ⟨rfl, rfl⟩) hm2) ?_
      rintro _ H3 ⟨rfl, hF3, hm3⟩
      have hle3 := hF3.le
      have ht3 : H3.m H1.next = _ := hF3.get (by omega) (by simp; omega) ht2
      rw [if_pos ⟨hk1, .inl rfl⟩] at hm3
      have hkd := kindT_lt hkt
      simp -dsimp (disch := first | omega | (refine DrawYes.mk ?_; decide +kernel) | fail) only [go_sem, ↓reduceIte, reduceCtorEq, Nat.reduceEqDiff, Nat.reduceAdd, Nat.reduceLeDiff, Int.reduceLE, Int.reduceLT, Int.reduceBEq, Int.reduceBNe, Int.reduceEq, Nat.reduceBEq, Int.reduceToNat, Nat.reduceLT, Nat.reduceGT, Nat.reduceSub, Nat.reduceMul, Int.reduceAdd, Int.reduceSub, Int.reduceNeg, Int.reduceGE, Int.reduceGT, ht3, j1, j2, j3]
      refine ⟨fun hg => ?_, fun hg => ?_⟩
      · have hk2 : (kd == 2) = true := by simp; omega
        have hpl := (shapes_at kd (by omega)).2
        refine call (shape_ok (by omega)) ?_
        rintro _ H4 ⟨rfl, hE4⟩
        have hle4 := hE4.le
        simp only [new_next, set_next] at hle4
        simp -dsimp (disch := first | omega | (refine DrawYes.mk ?_; decide +kernel) | fail) only [go_sem, ↓reduceIte, reduceCtorEq, Nat.reduceEqDiff, Nat.reduceAdd, Nat.reduceLeDiff, Int.reduceLE, Int.reduceLT, Int.reduceBEq, Int.reduceBNe, Int.reduceEq, Nat.reduceBEq, Int.reduceToNat, Nat.reduceLT, Nat.reduceGT, Nat.reduceSub, Nat.reduceMul, Int.reduceAdd, Int.reduceSub, Int.reduceNeg, Int.reduceGE, Int.reduceGT]
        refine call (words_ok (by have := (shapes_at kd (by omega)).1; omega) hpl.1) ?_
        rintro wv H5 ⟨hE5, hwv⟩
        have hle5 := hE5.le
        rw [shapes_words kd (by omega) (by omega)] at hwv
        rcases hwv with ⟨_, g⟩ | ⟨wid, woff, wk, rfl, _⟩
        · simp at g
        have hE45 := hE4.trans hE5
        have hs5 : H5.m H3.next = some (.cells 33 [.int .i64 kd, .str [], .str [], .str [], .int .i64 0, .int .i64 k.pos, .nils, .nils]) := hE45.get (by simp only [new_next, set_next]; omega) (by simp only [new_m, set_m, new_next, set_next, if_neg (by omega : ¬ H3.next = H3.next + 1), if_pos])
        have hm5 : H5.m p = _ := hE45.get (by simp only [new_next, set_next]; omega) (by simp only [new_m, set_m, new_next, set_next, if_neg (by omega : ¬ p = H3.next), if_neg (by omega : ¬ p = H3.next + 1)]; exact hm3)
        have hpn : (partsL.getD kd []).length ≤ 5 := (parts_ok kd (by omega)).1
        have hpc := (parts_ok kd (by omega)).2
        have htp : List.take (partsL.getD kd []).length ((partsL.getD kd []).map DV.str) = (partsL.getD kd []).map DV.str := List.take_of_length_le (by simp)
        have hlp : ∀ x : DV, (x :: (partsL.getD kd []).map DV.str).length = (partsL.getD kd []).length + 1 := fun x => by simp
        simp -dsimp (disch := first | omega | (refine DrawYes.mk ?_; decide +kernel) | fail) only [go_sem, ↓reduceIte, reduceCtorEq, Nat.reduceEqDiff, Nat.reduceAdd, Nat.reduceLeDiff, Int.reduceLE, Int.reduceLT, Int.reduceBEq, Int.reduceBNe, Int.reduceEq, Nat.reduceBEq, Int.reduceToNat, Nat.reduceLT, Nat.reduceGT, Nat.reduceSub, Nat.reduceMul, Int.reduceAdd, Int.reduceSub, Int.reduceNeg, Int.reduceGE, Int.reduceGT, List.map_cons, List.length_cons, List.length_map, htp]
        generalize hpd : partsL.getD kd [] = parts at hpn hpc
        have hE5' : Frm [p] H H5 := (Frm.ext hE12).trans (hF3.trans ((((Frm.refl (H := H3)).new).set (.inr (Nat.le_refl _))).new.trans (Frm.ext hE45)))
        obtain ⟨W, hW⟩ : ∃ W, wordsP parts os.length ⟨kd, [], [], [], 0, k.pos, [], []⟩ 1 ts = W := ⟨_, rfl⟩
        have hone : oneP ⟨k :: ts, R, top, os⟩ k ts = ofW R top os W := by
          rw [oneP_eq hk1 hkt, hpd, show (if kd = 2 then 1 else 0) = 1 by rw [if_pos (by omega)], hW]
        rw [hone]
        have htk : TokOk ts := hts.tail (by omega)
        refine ⟨by omega, Y_loop (α := Nat × Stm × Nat × List Tok × Nat) (fun a σ H' => Frm [p, H3.next] H5 H' ∧ a.1 ≤ parts.length ∧ H'.m p = some (.cells PT [.sl id 3 a.2.2.2.2 (a.2.2.2.1.map Tok.dv), .int .i64 md, stmv, topv, opv, at_, e]) ∧
          H'.m H3.next = some (.cells 33 [.int .i64 kd, .str a.2.1.s, .str a.2.1.t, .str a.2.1.u, .int .i64 a.2.1.n, .int .i64 k.pos, .nils, .nils]) ∧ a.2.1.kind = kd ∧ a.2.1.l = [] ∧ a.2.1.m = [] ∧ a.2.1.at_ = k.pos ∧ TokOk a.2.2.2.1 ∧
          a.2.2.1 + ((parts.drop a.1).filter fun p => decide (isText p)).length ≤ 3 ∧ wordsP (parts.drop a.1) os.length a.2.1 a.2.2.1 a.2.2.2.1 = W ∧
          σ 0 = .ptr p 0 ∧ σ 5 = .ptr H3.next 0 ∧ σ 6 = .sl (H3.next + 1) 1 a.2.2.1 (([.ptr H3.next 1, .ptr H3.next 2, .ptr H3.next 3] : List DV).drop a.2.2.1) ∧ σ 42 = .sl wid 1 (woff + 1) (parts.map DV.str) ∧ σ 43 = .int .i64 parts.length ∧ σ 44 = .int .i64 a.1)
          (fun a => parts.length - a.1) (0, ⟨kd, [], [], [], 0, k.pos, [], []⟩, 1, ts, off + 1) ?_ ?_⟩
        · simp -dsimp (disch := first | omega | (refine DrawYes.mk ?_; decide +kernel) | fail) only [go_sem, ↓reduceIte, reduceCtorEq, Nat.reduceEqDiff, Nat.reduceAdd, Nat.reduceLeDiff, Int.reduceLE, Int.reduceLT, Int.reduceBEq, Int.reduceBNe, Int.reduceEq, Nat.reduceBEq, Int.reduceToNat, Nat.reduceLT, Nat.reduceGT, Nat.reduceSub, Nat.reduceMul, Int.reduceAdd, Int.reduceSub, Int.reduceNeg, Int.reduceGE, Int.reduceGT, hpd]
          refine ⟨Frm.refl, Nat.zero_le _, hm5, hs5, htk, ?_, hW⟩
          rw [if_pos (by omega)] at hpc; show 1 + (parts.filter fun p => decide (isText p)).length ≤ 3; omega
        rintro ⟨j, s, to, ts', off'⟩ σ H6 ⟨hF6, hj, hm6, hs6, hsk, hsl, hsm, hsa, htk6, hto, hw6, g0, g5, g6, g42, g43, g44⟩
        simp only at hj hm6 hs6 hsk hsl hsm hsa htk6 hto hw6 g6 g44
        have hle6 := hF6.le
        have hp6 : p < H6.next := by omega
        have hF06 : Frm [p] H H6 := ⟨by omega, fun b hb hs => (hF6.same b (by omega) (by simp at hs ⊢; omega)).trans (hE5'.same b hb hs)⟩
        have hL06 : Low lo H H6 := ⟨hF06.le, fun b hb => hF06.same b (by omega) (by simp; omega)⟩
        by_cases hlt : j < parts.length
        · have k0 : (j : Int) < parts.length := by omega
          have hpj : parts[j]? = some parts[j] := List.getElem?_eq_getElem hlt
          have hpm : (parts.map DV.str)[j]? = some (.str parts[j]) := by rw [List.getElem?_map, hpj]; rfl
          have hdj : parts.drop j = parts[j] :: parts.drop (j + 1) := List.drop_eq_getElem_cons hlt
          generalize parts[j] = part at hpj hpm hdj
          obtain ⟨k', r, rfl⟩ := htk6.ne
          rw [hdj, wordsP] at hw6
          have hlr : r.length < 1000 := by have := htk6.len; simp at this; omega
          simp -dsimp (disch := first | omega | (refine DrawYes.mk ?_; decide +kernel) | fail) only [go_sem, ↓reduceIte, reduceCtorEq, Nat.reduceEqDiff, Nat.reduceAdd, Nat.reduceLeDiff, Int.reduceLE, Int.reduceLT, Int.reduceBEq, Int.reduceBNe, Int.reduceEq, Nat.reduceBEq, Int.reduceToNat, Nat.reduceLT, Nat.reduceGT, Nat.reduceSub, Nat.reduceMul, Int.reduceAdd, Int.reduceSub, Int.reduceNeg, Int.reduceGE, Int.reduceGT, g0, g5, g6, g42, g43, g44, k0, hpm]
          refine ⟨by omega, call (pmust_ok hp6 (by omega) h.opl hm6) ?_⟩
          rintro v H7 ⟨hF7, ⟨he, rfl, hm7⟩ | ⟨he, rfl, hm7⟩⟩
          · rw [if_neg (by omega)] at hw6
            have hle7 := hF7.le
            have hs7 : H7.m H3.next = _ := hF7.get (by omega) (by simp; omega) hs6
            have htk7 : TokOk r := htk6.tail (mustE_kind he)
            have hL07 : Low lo H H7 := hL06.frm hF7 hlop hlo
            have hps : ¬ p = H3.next := by omega
            have hF57 : Frm [p, H3.next] H5 H7 := hF6.trans (hF7.mono (by simp))
            by_cases q1 : isText part
            · have hto2 : to < 3 := by
                rw [hdj, List.filter_cons, if_pos (by simpa using q1)] at hto; simp at hto; omega
              have hto3 : to + 1 + ((parts.drop (j + 1)).filter fun p => decide (isText p)).length ≤ 3 := by
                rw [hdj, List.filter_cons, if_pos (by simpa using q1)] at hto; simp at hto; omega
              have q2 : part ≠ [123] := by rintro rfl; revert q1; decide
              rw [if_neg q2, if_pos q1] at hw6
              have hcases : (part = [110] ∨ part = [119] ∨ part = [116]) ∧ (to = 0 ∨ to = 1 ∨ to = 2) := ⟨q1, by omega⟩
              rcases hcases with ⟨rfl | rfl | rfl, rfl | rfl | rfl⟩
              · -- 110 0
                simp -dsimp (disch := first | omega | (refine DrawYes.mk ?_; decide +kernel) | fail) only [go_sem, ↓reduceIte, reduceCtorEq, Nat.reduceEqDiff, Nat.reduceAdd, Nat.reduceLeDiff, Int.reduceLE, Int.reduceLT, Int.reduceBEq, Int.reduceBNe, Int.reduceEq, Nat.reduceBEq, Int.reduceToNat, Nat.reduceLT, Nat.reduceGT, Nat.reduceSub, Nat.reduceMul, Int.reduceAdd, Int.reduceSub, Int.reduceNeg, Int.reduceGE, Int.reduceGT, g0, g5, g6, g42, g43, g44, hps, hs7]
                exact ⟨(j + 1, putP [110] 0 s k'.text, 1, r, off' + 1), ⟨hF57.set (.inl (by simp)), by simp only; omega, hm7, rfl, hsk, hsl, hsm, hsa, htk7, hto3, hw6, rfl, rfl⟩, by simp only; omega⟩
              · -- 110 1
                simp -dsimp (disch := first | omega | (refine DrawYes.mk ?_; decide +kernel) | fail) only [go_sem, ↓reduceIte, reduceCtorEq, Nat.reduceEqDiff, Nat.reduceAdd, Nat.reduceLeDiff, Int.reduceLE, Int.reduceLT, Int.reduceBEq, Int.reduceBNe, Int.reduceEq, Nat.reduceBEq, Int.reduceToNat, Nat.reduceLT, Nat.reduceGT, Nat.reduceSub, Nat.reduceMul, Int.reduceAdd, Int.reduceSub, Int.reduceNeg, Int.reduceGE, Int.reduceGT, g0, g5, g6, g42, g43, g44, hps, hs7]
                exact ⟨(j + 1, putP [110] 1 s k'.text, 2, r, off' + 1), ⟨hF57.set (.inl (by simp)), by simp only; omega, hm7, rfl, hsk, hsl, hsm, hsa, htk7, hto3, hw6, rfl, rfl⟩, by simp only; omega⟩
              · -- 110 2
                simp -dsimp (disch := first | omega | (refine DrawYes.mk ?_; decide +kernel) | fail) only [go_sem, ↓reduceIte, reduceCtorEq, Nat.reduceEqDiff, Nat.reduceAdd, Nat.reduceLeDiff, Int.reduceLE, Int.reduceLT, Int.reduceBEq, Int.reduceBNe, Int.reduceEq, Nat.reduceBEq, Int.reduceToNat, Nat.reduceLT, Nat.reduceGT, Nat.reduceSub, Nat.reduceMul, Int.reduceAdd, Int.reduceSub, Int.reduceNeg, Int.reduceGE, Int.reduceGT, g0, g5, g6, g42, g43, g44, hps, hs7]
                exact ⟨(j + 1, putP [110] 2 s k'.text, 3, r, off' + 1), ⟨hF57.set (.inl (by simp)), by simp only; omega, hm7, rfl, hsk, hsl, hsm, hsa, htk7, hto3, hw6, rfl, rfl⟩, by simp only; omega⟩
              · -- 119 0
                simp -dsimp (disch := first | omega | (refine DrawYes.mk ?_; decide +kernel) | fail) only [go_sem, ↓reduceIte, reduceCtorEq, Nat.reduceEqDiff, Nat.reduceAdd, Nat.reduceLeDiff, Int.reduceLE, Int.reduceLT, Int.reduceBEq, Int.reduceBNe, Int.reduceEq, Nat.reduceBEq, Int.reduceToNat, Nat.reduceLT, Nat.reduceGT, Nat.reduceSub, Nat.reduceMul, Int.reduceAdd, Int.reduceSub, Int.reduceNeg, Int.reduceGE, Int.reduceGT, g0, g5, g6, g42, g43, g44, hps, hs7, (by decide : ((([119] : List UInt8)) == [110]) = false)]
                exact ⟨(j + 1, putP [119] 0 s k'.text, 1, r, off' + 1), ⟨hF57.set (.inl (by simp)), by simp only; omega, hm7, rfl, hsk, hsl, hsm, hsa, htk7, hto3, hw6, rfl, rfl⟩, by simp only; omega⟩
              · -- 119 1
                simp -dsimp (disch := first | omega | (refine DrawYes.mk ?_; decide +kernel) | fail) only [go_sem, ↓reduceIte, reduceCtorEq, Nat.reduceEqDiff, Nat.reduceAdd, Nat.reduceLeDiff, Int.reduceLE, Int.reduceLT, Int.reduceBEq, Int.reduceBNe, Int.reduceEq, Nat.reduceBEq, Int.reduceToNat, Nat.reduceLT, Nat.reduceGT, Nat.reduceSub, Nat.reduceMul, Int.reduceAdd, Int.reduceSub, Int.reduceNeg, Int.reduceGE, Int.reduceGT, g0, g5, g6, g42, g43, g44, hps, hs7, (by decide : ((([119] : List UInt8)) == [110]) = false)]
                exact ⟨(j + 1, putP [119] 1 s k'.text, 2, r, off' + 1), ⟨hF57.set (.inl (by simp)), by simp only; omega, hm7, rfl, hsk, hsl, hsm, hsa, htk7, hto3, hw6, rfl, rfl⟩, by simp only; omega⟩
              · -- 119 2
                simp -dsimp (disch := first | omega | (refine DrawYes.mk ?_; decide +kernel) | fail) only [go_sem, ↓reduceIte, reduceCtorEq, Nat.reduceEqDiff, Nat.reduceAdd, Nat.reduceLeDiff, Int.reduceLE, Int.reduceLT, Int.reduceBEq, Int.reduceBNe, Int.reduceEq, Nat.reduceBEq, Int.reduceToNat, Nat.reduceLT, Nat.reduceGT, Nat.reduceSub, Nat.reduceMul, Int.reduceAdd, Int.reduceSub, Int.reduceNeg, Int.reduceGE, Int.reduceGT, g0, g5, g6, g42, g43, g44, hps, hs7, (by decide : ((([119] : List UInt8)) == [110]) = false)]
                exact ⟨(j + 1, putP [119] 2 s k'.text, 3, r, off' + 1), ⟨hF57.set (.inl (by simp)), by simp only; omega, hm7, rfl, hsk, hsl, hsm, hsa, htk7, hto3, hw6, rfl, rfl⟩, by simp only; omega⟩
              · -- 116 0
                simp -dsimp (disch := first | omega | (refine DrawYes.mk ?_; decide +kernel) | fail) only [go_sem, ↓reduceIte, reduceCtorEq, Nat.reduceEqDiff, Nat.reduceAdd, Nat.reduceLeDiff, Int.reduceLE, Int.reduceLT, Int.reduceBEq, Int.reduceBNe, Int.reduceEq, Nat.reduceBEq, Int.reduceToNat, Nat.reduceLT, Nat.reduceGT, Nat.reduceSub, Nat.reduceMul, Int.reduceAdd, Int.reduceSub, Int.reduceNeg, Int.reduceGE, Int.reduceGT, g0, g5, g6, g42, g43, g44, hps, hs7, (by decide : ((([116] : List UInt8)) == [110]) = false), (by decide : ((([116] : List UInt8)) == [119]) = false)]
                exact ⟨(j + 1, putP [116] 0 s k'.text, 1, r, off' + 1), ⟨hF57.set (.inl (by simp)), by simp only; omega, hm7, rfl, hsk, hsl, hsm, hsa, htk7, hto3, hw6, rfl, rfl⟩, by simp only; omega⟩
              · -- 116 1
                simp -dsimp (disch := first | omega | (refine DrawYes.mk ?_; decide +kernel) | fail) only [go_sem, ↓reduceIte, reduceCtorEq, Nat.reduceEqDiff, Nat.reduceAdd, Nat.reduceLeDiff, Int.reduceLE, Int.reduceLT, Int.reduceBEq, Int.reduceBNe, Int.reduceEq, Nat.reduceBEq, Int.reduceToNat, Nat.reduceLT, Nat.reduceGT, Nat.reduceSub, Nat.reduceMul, Int.reduceAdd, Int.reduceSub, Int.reduceNeg, Int.reduceGE, Int.reduceGT, g0, g5, g6, g42, g43, g44, hps, hs7, (by decide : ((([116] : List UInt8)) == [110]) = false), (by decide : ((([116] : List UInt8)) == [119]) = false)]
                exact ⟨(j + 1, putP [116] 1 s k'.text, 2, r, off' + 1), ⟨hF57.set (.inl (by simp)), by simp only; omega, hm7, rfl, hsk, hsl, hsm, hsa, htk7, hto3, hw6, rfl, rfl⟩, by simp only; omega⟩
              · -- 116 2
                simp -dsimp (disch := first | omega | (refine DrawYes.mk ?_; decide +kernel) | fail) only [go_sem, ↓reduceIte, reduceCtorEq, Nat.reduceEqDiff, Nat.reduceAdd, Nat.reduceLeDiff, Int.reduceLE, Int.reduceLT, Int.reduceBEq, Int.reduceBNe, Int.reduceEq, Nat.reduceBEq, Int.reduceToNat, Nat.reduceLT, Nat.reduceGT, Nat.reduceSub, Nat.reduceMul, Int.reduceAdd, Int.reduceSub, Int.reduceNeg, Int.reduceGE, Int.reduceGT, g0, g5, g6, g42, g43, g44, hps, hs7, (by decide : ((([116] : List UInt8)) == [110]) = false), (by decide : ((([116] : List UInt8)) == [119]) = false)]
                exact ⟨(j + 1, putP [116] 2 s k'.text, 3, r, off' + 1), ⟨hF57.set (.inl (by simp)), by simp only; omega, hm7, rfl, hsk, hsl, hsm, hsa, htk7, hto3, hw6, rfl, rfl⟩, by simp only; omega⟩
            have q1' : part ≠ [110] ∧ part ≠ [119] ∧ part ≠ [116] := by unfold isText at q1; simpa [not_or] using q1
            have j1 : (part == [110]) = false := beq_eq_false_iff_ne.2 q1'.1
            have j2 : (part == [119]) = false := beq_eq_false_iff_ne.2 q1'.2.1
            have j3 : (part == [116]) = false := beq_eq_false_iff_ne.2 q1'.2.2
            have hto3 : to + ((parts.drop (j + 1)).filter fun p => decide (isText p)).length ≤ 3 := by
              rw [hdj, List.filter_cons, if_neg (by simpa using q1)] at hto; exact hto
            by_cases q3 : part = [105]
            · subst q3
              rw [if_neg (by decide), if_neg (by decide)] at hw6
              have hkn := htk6.ints k' (by simp) (mustE_int he)
              simp -dsimp (disch := first | omega | (refine DrawYes.mk ?_; decide +kernel) | fail) only [go_sem, ↓reduceIte, reduceCtorEq, Nat.reduceEqDiff, Nat.reduceAdd, Nat.reduceLeDiff, Int.reduceLE, Int.reduceLT, Int.reduceBEq, Int.reduceBNe, Int.reduceEq, Nat.reduceBEq, Int.reduceToNat, Nat.reduceLT, Nat.reduceGT, Nat.reduceSub, Nat.reduceMul, Int.reduceAdd, Int.reduceSub, Int.reduceNeg, Int.reduceGE, Int.reduceGT, g0, g5, g6, g42, g43, g44, hps, hs7, j1, j2, j3]
              refine call (number_ok hkn.1 hkn.2.1 hkn.2.2) ?_
              rintro _ H8 ⟨rfl, hE8⟩
              have hs8 := hE8.get (by omega) hs7
              simp -dsimp (disch := first | omega | (refine DrawYes.mk ?_; decide +kernel) | fail) only [go_sem, ↓reduceIte, reduceCtorEq, Nat.reduceEqDiff, Nat.reduceAdd, Nat.reduceLeDiff, Int.reduceLE, Int.reduceLT, Int.reduceBEq, Int.reduceBNe, Int.reduceEq, Nat.reduceBEq, Int.reduceToNat, Nat.reduceLT, Nat.reduceGT, Nat.reduceSub, Nat.reduceMul, Int.reduceAdd, Int.reduceSub, Int.reduceNeg, Int.reduceGE, Int.reduceGT, g0, g5, g6, g42, g43, g44, hps, hs8, j1, j2, j3]
              exact ⟨(j + 1, putP [105] to s k'.text, to, r, off' + 1), ⟨(hF57.trans (Frm.ext hE8)).set (.inl (by simp)), by simp only; omega, hE8.get (by omega) hm7, rfl, hsk, hsl, hsm, hsa, htk7, hto3, hw6, rfl, rfl⟩, by simp only; omega⟩
            have j4 : (part == [105]) = false := beq_eq_false_iff_ne.2 q3
            by_cases q4 : part = [123]
            · subst q4
              rw [if_pos rfl] at hw6
              simp -dsimp (disch := first | omega | (refine DrawYes.mk ?_; decide +kernel) | fail) only [go_sem, ↓reduceIte, reduceCtorEq, Nat.reduceEqDiff, Nat.reduceAdd, Nat.reduceLeDiff, Int.reduceLE, Int.reduceLT, Int.reduceBEq, Int.reduceBNe, Int.reduceEq, Nat.reduceBEq, Int.reduceToNat, Nat.reduceLT, Nat.reduceGT, Nat.reduceSub, Nat.reduceMul, Int.reduceAdd, Int.reduceSub, Int.reduceNeg, Int.reduceGE, Int.reduceGT, g0, g5, g6, g42, g43, g44, hps, hs7, j1, j2, j3, j4]
              refine Y_float [(4, 0, 9)] (by decide +kernel) ?_
              have z0 : ¬ p = H7.next := by omega
              have z1 : ¬ p = H7.next + 1 := by omega
              have h7 := h.keep (hF06.trans hF7) hm7
              simp -dsimp (disch := first | omega | (refine DrawYes.mk ?_; decide +kernel) | fail) only [go_sem, ↓reduceIte, reduceCtorEq, Nat.reduceEqDiff, Nat.reduceAdd, Nat.reduceLeDiff, Int.reduceLE, Int.reduceLT, Int.reduceBEq, Int.reduceBNe, Int.reduceEq, Nat.reduceBEq, Int.reduceToNat, Nat.reduceLT, Nat.reduceGT, Nat.reduceSub, Nat.reduceMul, Int.reduceAdd, Int.reduceSub, Int.reduceNeg, Int.reduceGE, Int.reduceGT, g0, g5, g6, g42, g43, g44, hps, hs7, j1, j2, j3, j4, hm7, z0, z1]
              have hnf : fs.length = os.length := h.fr.len.symm
              have hosl := hb.hl
              rcases h.op with ⟨rfl, rfl⟩ | ⟨rw_, cs, rfl, hr1, hr2, hr3, hr4⟩
              · refine app_hn und_47 size_70 bytes_70 und_47 zero_70 rfl rfl (by decide) rfl (by simp) (by simp) (by simp) ?_
                have z2 : ¬ p = H7.next + 1 + 1 := by omega
                simp -dsimp (disch := first | omega | (refine DrawYes.mk ?_; decide +kernel) | fail) only [go_sem, ↓reduceIte, reduceCtorEq, Nat.reduceEqDiff, Nat.reduceAdd, Nat.reduceLeDiff, Int.reduceLE, Int.reduceLT, Int.reduceBEq, Int.reduceBNe, Int.reduceEq, Nat.reduceBEq, Int.reduceToNat, Nat.reduceLT, Nat.reduceGT, Nat.reduceSub, Nat.reduceMul, Int.reduceAdd, Int.reduceSub, Int.reduceNeg, Int.reduceGE, Int.reduceGT, g0, g5, g6, g42, g43, g44, hps, hs7, j1, j2, j3, j4, hm7, z0, z1, z2]
                have hlow : ∀ o1 o2 o3 o4 i, i < lo → (((((H7.new o1).new o2).new o3).set p o4).m i = H.m i) := by
                  intro o1 o2 o3 o4 i hi
                  rw [set_m, if_neg (by omega)]
                  simp only [new_m, mov_m, new_next, if_neg (by omega : ¬ i = H7.next + 1 + 1), if_neg (by omega : ¬ i = H7.next + 1), if_neg (by omega : ¬ i = H7.next)]
                  exact hL07.same i hi
                rw [← hw6]
                refine ⟨⟨by simp only [set_next, new_next]; omega, fun i hi => hlow _ _ _ _ i hi⟩, rfl, off' + 1, stmv, topv, _, es, _, pi_push h7 (s := s) (b := H7.next) (r' := H7.next + 1 + 1) (cs' := [.ptr H7.next 0]) (by omega) (by simp only [set_next, new_next]; omega) ⟨by omega, by simp only [set_next, new_next]; omega⟩ ⟨by omega, by simp only [set_next, new_next]; omega⟩ ?_ ?_ hsl hsm ?_ rfl ?_⟩
                · rw [set_m, if_pos rfl]; rfl
                · rw [set_m, if_neg (by omega)]
                  simp only [new_m, new_next, if_neg (by omega : ¬ H7.next = H7.next + 1 + 1), if_neg (by omega : ¬ H7.next = H7.next + 1), if_pos]
                  rw [hsk, hsa]
                · rw [set_m, if_neg (by omega)]
                  simp only [new_m, new_next, if_pos]
                  rfl
                · intro i hi hip _
                  rw [set_m, if_neg hip]
                  simp only [new_m, new_next, if_neg (by omega : ¬ i = H7.next + 1 + 1), if_neg (by omega : ¬ i = H7.next + 1), if_neg (by omega : ¬ i = H7.next)]
              · have hr7 : H7.m rw_ = some (.row 70 cs) := (hF06.trans hF7).get hr2 (by simpa using mne hr3 h.obj (by simp)) hr3
                have z3 : ¬ rw_ = H7.next := by have := (hF06.trans hF7).le; omega
                have z4 : ¬ rw_ = H7.next + 1 := by have := (hF06.trans hF7).le; omega
                have z5 : ¬ p = rw_ := mne h.obj hr3 (by simp)
                have hcl : 0 + fs.length * 1 ≤ cs.length := by
                  have := congrArg List.length hr4
                  simp at this; omega
                refine app_hs (cs := cs) und_47 size_70 bytes_70 und_47 zero_70 rfl rfl (by decide) (by simp only [new_m, new_next, if_neg z3, if_neg z4, hr7]) hcl rfl (by simp) (by simp; omega) (by simp; omega) ?_
                have z2 : ¬ p = H7.next + 1 + 1 := by omega
                simp -dsimp (disch := first | omega | (refine DrawYes.mk ?_; decide +kernel) | fail) only [go_sem, ↓reduceIte, reduceCtorEq, Nat.reduceEqDiff, Nat.reduceAdd, Nat.reduceLeDiff, Int.reduceLE, Int.reduceLT, Int.reduceBEq, Int.reduceBNe, Int.reduceEq, Nat.reduceBEq, Int.reduceToNat, Nat.reduceLT, Nat.reduceGT, Nat.reduceSub, Nat.reduceMul, Int.reduceAdd, Int.reduceSub, Int.reduceNeg, Int.reduceGE, Int.reduceGT, g0, g5, g6, g42, g43, g44, hps, hs7, j1, j2, j3, j4, hm7, z0, z1, z2, z5]
                have hlow : ∀ o1 o2 o3 o4 i, i < lo → (((((H7.new o1).new o2).mov rw_ o3).set p o4).m i = H.m i) := by
                  intro o1 o2 o3 o4 i hi
                  rw [set_m, if_neg (by omega)]
                  simp only [new_m, mov_m, new_next, if_neg (by omega : ¬ i = H7.next + 1 + 1), if_neg (by omega : ¬ i = H7.next + 1), if_neg (by omega : ¬ i = H7.next), if_neg (by omega : ¬ i = rw_)]
                  exact hL07.same i hi
                rw [← hw6]
                refine ⟨⟨by simp only [set_next, new_next, mov_next]; omega, fun i hi => hlow _ _ _ _ i hi⟩, rfl, off' + 1, stmv, topv, _, es, _, pi_push h7 (s := s) (b := H7.next) (r' := H7.next + 1 + 1) (cs' := List.take (fs.length * 1) cs ++ flat [.ptr H7.next 0]) (by omega) (by simp only [set_next, new_next, mov_next]; omega) ⟨by omega, by simp only [set_next, new_next, mov_next]; omega⟩ ⟨by omega, by simp only [set_next, new_next, mov_next]; omega⟩ ?_ ?_ hsl hsm ?_ ?_ ?_⟩
                · rw [set_m, if_pos rfl]
                · rw [set_m, if_neg (by omega)]
                  simp only [new_m, mov_m, new_next, if_neg (by omega : ¬ H7.next = H7.next + 1 + 1), if_neg (by omega : ¬ H7.next = H7.next + 1), if_neg (Ne.symm z3 : ¬ H7.next = rw_), if_pos]
                  rw [hsk, hsa]
                · rw [set_m, if_neg (by omega)]
                  simp only [mov_m, new_next, if_pos]
                · rw [Nat.mul_one, hr4]
                  rw [List.take_of_length_le (by simp [flat, DV.cells])]
                  rfl
                · intro i hi hip hnr
                  rw [set_m, if_neg hip]
                  have : ¬ i = rw_ := by rintro rfl; exact hnr _ hr7
                  simp only [new_m, mov_m, new_next, if_neg (by omega : ¬ i = H7.next + 1 + 1), if_neg (by omega : ¬ i = H7.next + 1), if_neg (by omega : ¬ i = H7.next), if_neg this]
            · have j5 : (part == [123]) = false := beq_eq_false_iff_ne.2 q4
              rw [if_neg q4, if_neg q1] at hw6
              simp -dsimp (disch := first | omega | (refine DrawYes.mk ?_; decide +kernel) | fail) only [go_sem, ↓reduceIte, reduceCtorEq, Nat.reduceEqDiff, Nat.reduceAdd, Nat.reduceLeDiff, Int.reduceLE, Int.reduceLT, Int.reduceBEq, Int.reduceBNe, Int.reduceEq, Nat.reduceBEq, Int.reduceToNat, Nat.reduceLT, Nat.reduceGT, Nat.reduceSub, Nat.reduceMul, Int.reduceAdd, Int.reduceSub, Int.reduceNeg, Int.reduceGE, Int.reduceGT, g0, g5, g6, g42, g43, g44, hps, hs7, j1, j2, j3, j4, j5]
              have hput : putP part to s k'.text = s := by unfold putP; rw [if_neg q1, if_neg q3]
              rw [hput] at hw6
              exact ⟨(j + 1, s, to, r, off' + 1), ⟨hF57, by simp only; omega, hm7, rfl, hsk, hsl, hsm, hsa, htk7, hto3, hw6, rfl, rfl⟩, by simp only; omega⟩
          · rw [if_pos he] at hw6
            simp -dsimp (disch := first | omega | (refine DrawYes.mk ?_; decide +kernel) | fail) only [go_sem, ↓reduceIte, reduceCtorEq, Nat.reduceEqDiff, Nat.reduceAdd, Nat.reduceLeDiff, Int.reduceLE, Int.reduceLT, Int.reduceBEq, Int.reduceBNe, Int.reduceEq, Nat.reduceBEq, Int.reduceToNat, Nat.reduceLT, Nat.reduceGT, Nat.reduceSub, Nat.reduceMul, Int.reduceAdd, Int.reduceSub, Int.reduceNeg, Int.reduceGE, Int.reduceGT, g0, g5, g6, g42, g43, g44]
            rw [← hw6]
            exact ⟨hL06.frm hF7 hlop hlo, rfl, _, _, _, _, _, hm7⟩
        · have k0 : ¬ (j : Int) < parts.length := by omega
          have hdj : parts.drop j = [] := List.drop_of_length_le (by omega)
          rw [hdj, wordsP] at hw6
          simp -dsimp (disch := first | omega | (refine DrawYes.mk ?_; decide +kernel) | fail) only [go_sem, ↓reduceIte, reduceCtorEq, Nat.reduceEqDiff, Nat.reduceAdd, Nat.reduceLeDiff, Int.reduceLE, Int.reduceLT, Int.reduceBEq, Int.reduceBNe, Int.reduceEq, Nat.reduceBEq, Int.reduceToNat, Nat.reduceLT, Nat.reduceGT, Nat.reduceSub, Nat.reduceMul, Int.reduceAdd, Int.reduceSub, Int.reduceNeg, Int.reduceGE, Int.reduceGT, g0, g5, g6, g42, g43, g44, k0, hs6]
          refine call (pwhole_ok (s := s) (h.keep hF06 hm6) hb (by omega) ⟨.nils, .nils, by rw [hsk, hsa], .inl ⟨rfl, hsl⟩, .inl ⟨rfl, hsm⟩⟩) ?_
          rintro _ H7 ⟨rfl, hL7, sv, tv, ov, es2, fs2, hpi⟩
          simp -dsimp (disch := first | omega | (refine DrawYes.mk ?_; decide +kernel) | fail) only [go_sem, ↓reduceIte, reduceCtorEq, Nat.reduceEqDiff, Nat.reduceAdd, Nat.reduceLeDiff, Int.reduceLE, Int.reduceLT, Int.reduceBEq, Int.reduceBNe, Int.reduceEq, Nat.reduceBEq, Int.reduceToNat, Nat.reduceLT, Nat.reduceGT, Nat.reduceSub, Nat.reduceMul, Int.reduceAdd, Int.reduceSub, Int.reduceNeg, Int.reduceGE, Int.reduceGT, g0, g5, g6, g42, g43, g44]
          rw [← hw6]
          exact ⟨hL06.trans hL7, rfl, _, _, _, _, _, _, hpi⟩
      · have hk2 : (kd == 2) = false := by simp; omega
        have hpl := (shapes_at kd (by omega)).2
        refine call (shape_ok (by omega)) ?_
        rintro _ H4 ⟨rfl, hE4⟩
        have hle4 := hE4.le
        simp only [new_next, set_next] at hle4
        simp -dsimp (disch := first | omega | (refine DrawYes.mk ?_; decide +kernel) | fail) only [go_sem, ↓reduceIte, reduceCtorEq, Nat.reduceEqDiff, Nat.reduceAdd, Nat.reduceLeDiff, Int.reduceLE, Int.reduceLT, Int.reduceBEq, Int.reduceBNe, Int.reduceEq, Nat.reduceBEq, Int.reduceToNat, Nat.reduceLT, Nat.reduceGT, Nat.reduceSub, Nat.reduceMul, Int.reduceAdd, Int.reduceSub, Int.reduceNeg, Int.reduceGE, Int.reduceGT]
        refine call (words_ok (by have := (shapes_at kd (by omega)).1; omega) hpl.1) ?_
        rintro wv H5 ⟨hE5, hwv⟩
        have hle5 := hE5.le
        rw [shapes_words kd (by omega) (by omega)] at hwv
        rcases hwv with ⟨_, g⟩ | ⟨wid, woff, wk, rfl, _⟩
        · simp at g
        have hE45 := hE4.trans hE5
        have hs5 : H5.m H3.next = some (.cells 33 [.int .i64 kd, .str [], .str [], .str [], .int .i64 0, .int .i64 k.pos, .nils, .nils]) := hE45.get (by simp only [new_next, set_next]; omega) (by simp only [new_m, set_m, new_next, set_next, if_neg (by omega : ¬ H3.next = H3.next + 1), if_pos])
        have hm5 : H5.m p = _ := hE45.get (by simp only [new_next, set_next]; omega) (by simp only [new_m, set_m, new_next, set_next, if_neg (by omega : ¬ p = H3.next), if_neg (by omega : ¬ p = H3.next + 1)]; exact hm3)
        have hpn : (partsL.getD kd []).length ≤ 5 := (parts_ok kd (by omega)).1
        have hpc := (parts_ok kd (by omega)).2
        have htp : List.take (partsL.getD kd []).length ((partsL.getD kd []).map DV.str) = (partsL.getD kd []).map DV.str := List.take_of_length_le (by simp)
        have hlp : ∀ x : DV, (x :: (partsL.getD kd []).map DV.str).length = (partsL.getD kd []).length + 1 := fun x => by simp
        simp -dsimp (disch := first | omega | (refine DrawYes.mk ?_; decide +kernel) | fail) only [go_sem, ↓reduceIte, reduceCtorEq, Nat.reduceEqDiff, Nat.reduceAdd, Nat.reduceLeDiff, Int.reduceLE, Int.reduceLT, Int.reduceBEq, Int.reduceBNe, Int.reduceEq, Nat.reduceBEq, Int.reduceToNat, Nat.reduceLT, Nat.reduceGT, Nat.reduceSub, Nat.reduceMul, Int.reduceAdd, Int.reduceSub, Int.reduceNeg, Int.reduceGE, Int.reduceGT, List.map_cons, List.length_cons, List.length_map, htp]
        generalize hpd : partsL.getD kd [] = parts at hpn hpc
        have hE5' : Frm [p] H H5 := (Frm.ext hE12).trans (hF3.trans ((((Frm.refl (H := H3)).new).set (.inr (Nat.le_refl _))).new.trans (Frm.ext hE45)))
        obtain ⟨W, hW⟩ : ∃ W, wordsP parts os.length ⟨kd, [], [], [], 0, k.pos, [], []⟩ 0 ts = W := ⟨_, rfl⟩
        have hone : oneP ⟨k :: ts, R, top, os⟩ k ts = ofW R top os W := by
          rw [oneP_eq hk1 hkt, hpd, show (if kd = 2 then 1 else 0) = 0 by rw [if_neg (by omega)], hW]
        rw [hone]
        have htk : TokOk ts := hts.tail (by omega)
        refine ⟨by omega, Y_loop (α := Nat × Stm × Nat × List Tok × Nat) (fun a σ H' => Frm [p, H3.next] H5 H' ∧ a.1 ≤ parts.length ∧ H'.m p = some (.cells PT [.sl id 3 a.2.2.2.2 (a.2.2.2.1.map Tok.dv), .int .i64 md, stmv, topv, opv, at_, e]) ∧
          H'.m H3.next = some (.cells 33 [.int .i64 kd, .str a.2.1.s, .str a.2.1.t, .str a.2.1.u, .int .i64 a.2.1.n, .int .i64 k.pos, .nils, .nils]) ∧ a.2.1.kind = kd ∧ a.2.1.l = [] ∧ a.2.1.m = [] ∧ a.2.1.at_ = k.pos ∧ TokOk a.2.2.2.1 ∧
          a.2.2.1 + ((parts.drop a.1).filter fun p => decide (isText p)).length ≤ 3 ∧ wordsP (parts.drop a.1) os.length a.2.1 a.2.2.1 a.2.2.2.1 = W ∧
          σ 0 = .ptr p 0 ∧ σ 5 = .ptr H3.next 0 ∧ σ 6 = .sl (H3.next + 1) 1 a.2.2.1 (([.ptr H3.next 1, .ptr H3.next 2, .ptr H3.next 3] : List DV).drop a.2.2.1) ∧ σ 42 = .sl wid 1 (woff + 1) (parts.map DV.str) ∧ σ 43 = .int .i64 parts.length ∧ σ 44 = .int .i64 a.1)
          (fun a => parts.length - a.1) (0, ⟨kd, [], [], [], 0, k.pos, [], []⟩, 0, ts, off + 1) ?_ ?_⟩
        · simp -dsimp (disch := first | omega | (refine DrawYes.mk ?_; decide +kernel) | fail) only [go_sem, ↓reduceIte, reduceCtorEq, Nat.reduceEqDiff, Nat.reduceAdd, Nat.reduceLeDiff, Int.reduceLE, Int.reduceLT, Int.reduceBEq, Int.reduceBNe, Int.reduceEq, Nat.reduceBEq, Int.reduceToNat, Nat.reduceLT, Nat.reduceGT, Nat.reduceSub, Nat.reduceMul, Int.reduceAdd, Int.reduceSub, Int.reduceNeg, Int.reduceGE, Int.reduceGT, hpd]
          refine ⟨Frm.refl, Nat.zero_le _, hm5, hs5, htk, ?_, hW⟩
          rw [if_neg (by omega)] at hpc; show (parts.filter fun p => decide (isText p)).length ≤ 3; omega
        rintro ⟨j, s, to, ts', off'⟩ σ H6 ⟨hF6, hj, hm6, hs6, hsk, hsl, hsm, hsa, htk6, hto, hw6, g0, g5, g6, g42, g43, g44⟩
        simp only at hj hm6 hs6 hsk hsl hsm hsa htk6 hto hw6 g6 g44
        have hle6 := hF6.le
        have hp6 : p < H6.next := by omega
        have hF06 : Frm [p] H H6 := ⟨by omega, fun b hb hs => (hF6.same b (by omega) (by simp at hs ⊢; omega)).trans (hE5'.same b hb hs)⟩
        have hL06 : Low lo H H6 := ⟨hF06.le, fun b hb => hF06.same b (by omega) (by simp; omega)⟩
        by_cases hlt : j < parts.length
        · have k0 : (j : Int) < parts.length := by omega
          have hpj : parts[j]? = some parts[j] := List.getElem?_eq_getElem hlt
          have hpm : (parts.map DV.str)[j]? = some (.str parts[j]) := by rw [List.getElem?_map, hpj]; rfl
          have hdj : parts.drop j = parts[j] :: parts.drop (j + 1) := List.drop_eq_getElem_cons hlt
          generalize parts[j] = part at hpj hpm hdj
          obtain ⟨k', r, rfl⟩ := htk6.ne
          rw [hdj, wordsP] at hw6
          have hlr : r.length < 1000 := by have := htk6.len; simp at this; omega
          simp -dsimp (disch := first | omega | (refine DrawYes.mk ?_; decide +kernel) | fail) only [go_sem, ↓reduceIte, reduceCtorEq, Nat.reduceEqDiff, Nat.reduceAdd, Nat.reduceLeDiff, Int.reduceLE, Int.reduceLT, Int.reduceBEq, Int.reduceBNe, Int.reduceEq, Nat.reduceBEq, Int.reduceToNat, Nat.reduceLT, Nat.reduceGT, Nat.reduceSub, Nat.reduceMul, Int.reduceAdd, Int.reduceSub, Int.reduceNeg, Int.reduceGE, Int.reduceGT, g0, g5, g6, g42, g43, g44, k0, hpm]
          refine ⟨by omega, call (pmust_ok hp6 (by omega) h.opl hm6) ?_⟩
          rintro v H7 ⟨hF7, ⟨he, rfl, hm7⟩ | ⟨he, rfl, hm7⟩⟩
          · rw [if_neg (by omega)] at hw6
            have hle7 := hF7.le
            have hs7 : H7.m H3.next = _ := hF7.get (by omega) (by simp; omega) hs6
            have htk7 : TokOk r := htk6.tail (mustE_kind he)
            have hL07 : Low lo H H7 := hL06.frm hF7 hlop hlo
            have hps : ¬ p = H3.next := by omega
            have hF57 : Frm [p, H3.next] H5 H7 := hF6.trans (hF7.mono (by simp))
            by_cases q1 : isText part
            · have hto2 : to < 3 := by
                rw [hdj, List.filter_cons, if_pos (by simpa using q1)] at hto; simp at hto; omega
              have hto3 : to + 1 + ((parts.drop (j + 1)).filter fun p => decide (isText p)).length ≤ 3 := by
                rw [hdj, List.filter_cons, if_pos (by simpa using q1)] at hto; simp at hto; omega
              have q2 : part ≠ [123] := by rintro rfl; revert q1; decide
              rw [if_neg q2, if_pos q1] at hw6
              have hcases : (part = [110] ∨ part = [119] ∨ part = [116]) ∧ (to = 0 ∨ to = 1 ∨ to = 2) := ⟨q1, by omega⟩
              rcases hcases with ⟨rfl | rfl | rfl, rfl | rfl | rfl⟩
              · -- 110 0
                simp -dsimp (disch := first | omega | (refine DrawYes.mk ?_; decide +kernel) | fail) only [go_sem, ↓reduceIte, reduceCtorEq, Nat.reduceEqDiff, Nat.reduceAdd, Nat.reduceLeDiff, Int.reduceLE, Int.reduceLT, Int.reduceBEq, Int.reduceBNe, Int.reduceEq, Nat.reduceBEq, Int.reduceToNat, Nat.reduceLT, Nat.reduceGT, Nat.reduceSub, Nat.reduceMul, Int.reduceAdd, Int.reduceSub, Int.reduceNeg, Int.reduceGE, Int.reduceGT, g0, g5, g6, g42, g43, g44, hps, hs7]
                exact ⟨(j + 1, putP [110] 0 s k'.text, 1, r, off' + 1), ⟨hF57.set (.inl (by simp)), by simp only; omega, hm7, rfl, hsk, hsl, hsm, hsa, htk7, hto3, hw6, rfl, rfl⟩, by simp only; omega⟩
              · -- 110 1
                simp -dsimp (disch := first | omega | (refine DrawYes.mk ?_; decide +kernel) | fail) only [go_sem, ↓reduceIte, reduceCtorEq, Nat.reduceEqDiff, Nat.reduceAdd, Nat.reduceLeDiff, Int.reduceLE, Int.reduceLT, Int.reduceBEq, Int.reduceBNe, Int.reduceEq, Nat.reduceBEq, Int.reduceToNat, Nat.reduceLT, Nat.reduceGT, Nat.reduceSub, Nat.reduceMul, Int.reduceAdd, Int.reduceSub, Int.reduceNeg, Int.reduceGE, Int.reduceGT, g0, g5, g6, g42, g43, g44, hps, hs7]
                exact ⟨(j + 1, putP [110] 1 s k'.text, 2, r, off' + 1), ⟨hF57.set (.inl (by simp)), by simp only; omega, hm7, rfl, hsk, hsl, hsm, hsa, htk7, hto3, hw6, rfl, rfl⟩, by simp only; omega⟩
              · -- 110 2
                simp -dsimp (disch := first | omega | (refine DrawYes.mk ?_; decide +kernel) | fail) only [go_sem, ↓reduceIte, reduceCtorEq, Nat.reduceEqDiff, Nat.reduceAdd, Nat.reduceLeDiff, Int.reduceLE, Int.reduceLT, Int.reduceBEq, Int.reduceBNe, Int.reduceEq, Nat.reduceBEq, Int.reduceToNat, Nat.reduceLT, Nat.reduceGT, Nat.reduceSub, Nat.reduceMul, Int.reduceAdd, Int.reduceSub, Int.reduceNeg, Int.reduceGE, Int.reduceGT, g0, g5, g6, g42, g43, g44, hps, hs7]
                exact ⟨(j + 1, putP [110] 2 s k'.text, 3, r, off' + 1), ⟨hF57.set (.inl (by simp)), by simp only; omega, hm7, rfl, hsk, hsl, hsm, hsa, htk7, hto3, hw6, rfl, rfl⟩, by simp only; omega⟩
              · -- 119 0
                simp -dsimp (disch := first | omega | (refine DrawYes.mk ?_; decide +kernel) | fail) only [go_sem, ↓reduceIte, reduceCtorEq, Nat.reduceEqDiff, Nat.reduceAdd, Nat.reduceLeDiff, Int.reduceLE, Int.reduceLT, Int.reduceBEq, Int.reduceBNe, Int.reduceEq, Nat.reduceBEq, Int.reduceToNat, Nat.reduceLT, Nat.reduceGT, Nat.reduceSub, Nat.reduceMul, Int.reduceAdd, Int.reduceSub, Int.reduceNeg, Int.reduceGE, Int.reduceGT, g0, g5, g6, g42, g43, g44, hps, hs7, (by decide : ((([119] : List UInt8)) == [110]) = false)]
                exact ⟨(j + 1, putP [119] 0 s k'.text, 1, r, off' + 1), ⟨hF57.set (.inl (by simp)), by simp only; omega, hm7, rfl, hsk, hsl, hsm, hsa, htk7, hto3, hw6, rfl, rfl⟩, by simp only; omega⟩
              · -- 119 1
                simp -dsimp (disch := first | omega | (refine DrawYes.mk ?_; decide +kernel) | fail) only [go_sem, ↓reduceIte, reduceCtorEq, Nat.reduceEqDiff, Nat.reduceAdd, Nat.reduceLeDiff, Int.reduceLE, Int.reduceLT, Int.reduceBEq, Int.reduceBNe, Int.reduceEq, Nat.reduceBEq, Int.reduceToNat, Nat.reduceLT, Nat.reduceGT, Nat.reduceSub, Nat.reduceMul, Int.reduceAdd, Int.reduceSub, Int.reduceNeg, Int.reduceGE, Int.reduceGT, g0, g5, g6, g42, g43, g44, hps, hs7, (by decide : ((([119] : List UInt8)) == [110]) = false)]
                exact ⟨(j + 1, putP [119] 1 s k'.text, 2, r, off' + 1), ⟨hF57.set (.inl (by simp)), by simp only; omega, hm7, rfl, hsk, hsl, hsm, hsa, htk7, hto3, hw6, rfl, rfl⟩, by simp only; omega⟩
              · -- 119 2
                simp -dsimp (disch := first | omega | (refine DrawYes.mk ?_; decide +kernel) | fail) only [go_sem, ↓reduceIte, reduceCtorEq, Nat.reduceEqDiff, Nat.reduceAdd, Nat.reduceLeDiff, Int.reduceLE, Int.reduceLT, Int.reduceBEq, Int.reduceBNe, Int.reduceEq, Nat.reduceBEq, Int.reduceToNat, Nat.reduceLT, Nat.reduceGT, Nat.reduceSub, Nat.reduceMul, Int.reduceAdd, Int.reduceSub, Int.reduceNeg, Int.reduceGE, Int.reduceGT, g0, g5, g6, g42, g43, g44, hps, hs7, (by decide : ((([119] : List UInt8)) == [110]) = false)]
                exact ⟨(j + 1, putP [119] 2 s k'.text, 3, r, off' + 1), ⟨hF57.set (.inl (by simp)), by simp only; omega, hm7, rfl, hsk, hsl, hsm, hsa, htk7, hto3, hw6, rfl, rfl⟩, by simp only; omega⟩
              · -- 116 0
                simp -dsimp (disch := first | omega | (refine DrawYes.mk ?_; decide +kernel) | fail) only [go_sem, ↓reduceIte, reduceCtorEq, Nat.reduceEqDiff, Nat.reduceAdd, Nat.reduceLeDiff, Int.reduceLE, Int.reduceLT, Int.reduceBEq, Int.reduceBNe, Int.reduceEq, Nat.reduceBEq, Int.reduceToNat, Nat.reduceLT, Nat.reduceGT, Nat.reduceSub, Nat.reduceMul, Int.reduceAdd, Int.reduceSub, Int.reduceNeg, Int.reduceGE, Int.reduceGT, g0, g5, g6, g42, g43, g44, hps, hs7, (by decide : ((([116] : List UInt8)) == [110]) = false), (by decide : ((([116] : List UInt8)) == [119]) = false)]
                exact ⟨(j + 1, putP [116] 0 s k'.text, 1, r, off' + 1), ⟨hF57.set (.inl (by simp)), by simp only; omega, hm7, rfl, hsk, hsl, hsm, hsa, htk7, hto3, hw6, rfl, rfl⟩, by simp only; omega⟩
              · -- 116 1
                simp -dsimp (disch := first | omega | (refine DrawYes.mk ?_; decide +kernel) | fail) only [go_sem, ↓reduceIte, reduceCtorEq, Nat.reduceEqDiff, Nat.reduceAdd, Nat.reduceLeDiff, Int.reduceLE, Int.reduceLT, Int.reduceBEq, Int.reduceBNe, Int.reduceEq, Nat.reduceBEq, Int.reduceToNat, Nat.reduceLT, Nat.reduceGT, Nat.reduceSub, Nat.reduceMul, Int.reduceAdd, Int.reduceSub, Int.reduceNeg, Int.reduceGE, Int.reduceGT, g0, g5, g6, g42, g43, g44, hps, hs7, (by decide : ((([116] : List UInt8)) == [110]) = false), (by decide : ((([116] : List UInt8)) == [119]) = false)]
                exact ⟨(j + 1, putP [116] 1 s k'.text, 2, r, off' + 1), ⟨hF57.set (.inl (by simp)), by simp only; omega, hm7, rfl, hsk, hsl, hsm, hsa, htk7, hto3, hw6, rfl, rfl⟩, by simp only; omega⟩
              · -- 116 2
                simp -dsimp (disch := first | omega | (refine DrawYes.mk ?_; decide +kernel) | fail) only [go_sem, ↓reduceIte, reduceCtorEq, Nat.reduceEqDiff, Nat.reduceAdd, Nat.reduceLeDiff, Int.reduceLE, Int.reduceLT, Int.reduceBEq, Int.reduceBNe, Int.reduceEq, Nat.reduceBEq, Int.reduceToNat, Nat.reduceLT, Nat.reduceGT, Nat.reduceSub, Nat.reduceMul, Int.reduceAdd, Int.reduceSub, Int.reduceNeg, Int.reduceGE, Int.reduceGT, g0, g5, g6, g42, g43, g44, hps, hs7, (by decide : ((([116] : List UInt8)) == [110]) = false), (by decide : ((([116] : List UInt8)) == [119]) = false)]
                exact ⟨(j + 1, putP [116] 2 s k'.text, 3, r, off' + 1), ⟨hF57.set (.inl (by simp)), by simp only; omega, hm7, rfl, hsk, hsl, hsm, hsa, htk7, hto3, hw6, rfl, rfl⟩, by simp only; omega⟩
            have q1' : part ≠ [110] ∧ part ≠ [119] ∧ part ≠ [116] := by unfold isText at q1; simpa [not_or] using q1
            have j1 : (part == [110]) = false := beq_eq_false_iff_ne.2 q1'.1
            have j2 : (part == [119]) = false := beq_eq_false_iff_ne.2 q1'.2.1
            have j3 : (part == [116]) = false := beq_eq_false_iff_ne.2 q1'.2.2
            have hto3 : to + ((parts.drop (j + 1)).filter fun p => decide (isText p)).length ≤ 3 := by
              rw [hdj, List.filter_cons, if_neg (by simpa using q1)] at hto; exact hto
            by_cases q3 : part = [105]
            · subst q3
              rw [if_neg (by decide), if_neg (by decide)] at hw6
              have hkn := htk6.ints k' (by simp) (mustE_int he)
              simp -dsimp (disch := first | omega | (refine DrawYes.mk ?_; decide +kernel) | fail) only [go_sem, ↓reduceIte, reduceCtorEq, Nat.reduceEqDiff, Nat.reduceAdd, Nat.reduceLeDiff, Int.reduceLE, Int.reduceLT, Int.reduceBEq, Int.reduceBNe, Int.reduceEq, Nat.reduceBEq, Int.reduceToNat, Nat.reduceLT, Nat.reduceGT, Nat.reduceSub, Nat.reduceMul, Int.reduceAdd, Int.reduceSub, Int.reduceNeg, Int.reduceGE, Int.reduceGT, g0, g5, g6, g42, g43, g44, hps, hs7, j1, j2, j3]
              refine call (number_ok hkn.1 hkn.2.1 hkn.2.2) ?_
              rintro _ H8 ⟨rfl, hE8⟩
              have hs8 := hE8.get (by omega) hs7
              simp -dsimp (disch := first | omega | (refine DrawYes.mk ?_; decide +kernel) | fail) only [go_sem, ↓reduceIte, reduceCtorEq, Nat.reduceEqDiff, Nat.reduceAdd, Nat.reduceLeDiff, Int.reduceLE, Int.reduceLT, Int.reduceBEq, Int.reduceBNe, Int.reduceEq, Nat.reduceBEq, Int.reduceToNat, Nat.reduceLT, Nat.reduceGT, Nat.reduceSub, Nat.reduceMul, Int.reduceAdd, Int.reduceSub, Int.reduceNeg, Int.reduceGE, Int.reduceGT, g0, g5, g6, g42, g43, g44, hps, hs8, j1, j2, j3]
              exact ⟨(j + 1, putP [105] to s k'.text, to, r, off' + 1), ⟨(hF57.trans (Frm.ext hE8)).set (.inl (by simp)), by simp only; omega, hE8.get (by omega) hm7, rfl, hsk, hsl, hsm, hsa, htk7, hto3, hw6, rfl, rfl⟩, by simp only; omega⟩
            have j4 : (part == [105]) = false := beq_eq_false_iff_ne.2 q3
            by_cases q4 : part = [123]
            · subst q4
              rw [if_pos rfl] at hw6
              simp -dsimp (disch := first | omega | (refine DrawYes.mk ?_; decide +kernel) | fail) only [go_sem, ↓reduceIte, reduceCtorEq, Nat.reduceEqDiff, Nat.reduceAdd, Nat.reduceLeDiff, Int.reduceLE, Int.reduceLT, Int.reduceBEq, Int.reduceBNe, Int.reduceEq, Nat.reduceBEq, Int.reduceToNat, Nat.reduceLT, Nat.reduceGT, Nat.reduceSub, Nat.reduceMul, Int.reduceAdd, Int.reduceSub, Int.reduceNeg, Int.reduceGE, Int.reduceGT, g0, g5, g6, g42, g43, g44, hps, hs7, j1, j2, j3, j4]
              refine Y_float [(4, 0, 9)] (by decide +kernel) ?_
              have z0 : ¬ p = H7.next := by omega
              have z1 : ¬ p = H7.next + 1 := by omega
              have h7 := h.keep (hF06.trans hF7) hm7
              simp -dsimp (disch := first | omega | (refine DrawYes.mk ?_; decide +kernel) | fail) only [go_sem, ↓reduceIte, reduceCtorEq, Nat.reduceEqDiff, Nat.reduceAdd, Nat.reduceLeDiff, Int.reduceLE, Int.reduceLT, Int.reduceBEq, Int.reduceBNe, Int.reduceEq, Nat.reduceBEq, Int.reduceToNat, Nat.reduceLT, Nat.reduceGT, Nat.reduceSub, Nat.reduceMul, Int.reduceAdd, Int.reduceSub, Int.reduceNeg, Int.reduceGE, Int.reduceGT, g0, g5, g6, g42, g43, g44, hps, hs7, j1, j2, j3, j4, hm7, z0, z1]
              have hnf : fs.length = os.length := h.fr.len.symm
              have hosl := hb.hl
              rcases h.op with ⟨rfl, rfl⟩ | ⟨rw_, cs, rfl, hr1, hr2, hr3, hr4⟩
              · refine app_hn und_47 size_70 bytes_70 und_47 zero_70 rfl rfl (by decide) rfl (by simp) (by simp) (by simp) ?_
                have z2 : ¬ p = H7.next + 1 + 1 := by omega
                simp -dsimp (disch := first | omega | (refine DrawYes.mk ?_; decide +kernel) | fail) only [go_sem, ↓reduceIte, reduceCtorEq, Nat.reduceEqDiff, Nat.reduceAdd, Nat.reduceLeDiff, Int.reduceLE, Int.reduceLT, Int.reduceBEq, Int.reduceBNe, Int.reduceEq, Nat.reduceBEq, Int.reduceToNat, Nat.reduceLT, Nat.reduceGT, Nat.reduceSub, Nat.reduceMul, Int.reduceAdd, Int.reduceSub, Int.reduceNeg, Int.reduceGE, Int.reduceGT, g0, g5, g6, g42, g43, g44, hps, hs7, j1, j2, j3, j4, hm7, z0, z1, z2]
                have hlow : ∀ o1 o2 o3 o4 i, i < lo → (((((H7.new o1).new o2).new o3).set p o4).m i = H.m i) := by
                  intro o1 o2 o3 o4 i hi
                  rw [set_m, if_neg (by omega)]
                  simp only [new_m, mov_m, new_next, if_neg (by omega : ¬ i = H7.next + 1 + 1), if_neg (by omega : ¬ i = H7.next + 1), if_neg (by omega : ¬ i = H7.next)]
                  exact hL07.same i hi
                rw [← hw6]
                refine ⟨⟨by simp only [set_next, new_next]; omega, fun i hi => hlow _ _ _ _ i hi⟩, rfl, off' + 1, stmv, topv, _, es, _, pi_push h7 (s := s) (b := H7.next) (r' := H7.next + 1 + 1) (cs' := [.ptr H7.next 0]) (by omega) (by simp only [set_next, new_next]; omega) ⟨by omega, by simp only [set_next, new_next]; omega⟩ ⟨by omega, by simp only [set_next, new_next]; omega⟩ ?_ ?_ hsl hsm ?_ rfl ?_⟩
                · rw [set_m, if_pos rfl]; rfl
                · rw [set_m, if_neg (by omega)]
                  simp only [new_m, new_next, if_neg (by omega : ¬ H7.next = H7.next + 1 + 1), if_neg (by omega : ¬ H7.next = H7.next + 1), if_pos]
                  rw [hsk, hsa]
                · rw [set_m, if_neg (by omega)]
                  simp only [new_m, new_next, if_pos]
                  rfl
                · intro i hi hip _
                  rw [set_m, if_neg hip]
                  simp only [new_m, new_next, if_neg (by omega : ¬ i = H7.next + 1 + 1), if_neg (by omega : ¬ i = H7.next + 1), if_neg (by omega : ¬ i = H7.next)]
              · have hr7 : H7.m rw_ = some (.row 70 cs) := (hF06.trans hF7).get hr2 (by simpa using mne hr3 h.obj (by simp)) hr3
                have z3 : ¬ rw_ = H7.next := by have := (hF06.trans hF7).le; omega
                have z4 : ¬ rw_ = H7.next + 1 := by have := (hF06.trans hF7).le; omega
                have z5 : ¬ p = rw_ := mne h.obj hr3 (by simp)
                have hcl : 0 + fs.length * 1 ≤ cs.length := by
                  have := congrArg List.length hr4
                  simp at this; omega
                refine app_hs (cs := cs) und_47 size_70 bytes_70 und_47 zero_70 rfl rfl (by decide) (by simp only [new_m, new_next, if_neg z3, if_neg z4, hr7]) hcl rfl (by simp) (by simp; omega) (by simp; omega) ?_
                have z2 : ¬ p = H7.next + 1 + 1 := by omega
                simp -dsimp (disch := first | omega | (refine DrawYes.mk ?_; decide +kernel) | fail) only [go_sem, ↓reduceIte, reduceCtorEq, Nat.reduceEqDiff, Nat.reduceAdd, Nat.reduceLeDiff, Int.reduceLE, Int.reduceLT, Int.reduceBEq, Int.reduceBNe, Int.reduceEq, Nat.reduceBEq, Int.reduceToNat, Nat.reduceLT, Nat.reduceGT, Nat.reduceSub, Nat.reduceMul, Int.reduceAdd, Int.reduceSub, Int.reduceNeg, Int.reduceGE, Int.reduceGT, g0, g5, g6, g42, g43, g44, hps, hs7, j1, j2, j3, j4, hm7, z0, z1, z2, z5]
                have hlow : ∀ o1 o2 o3 o4 i, i < lo → (((((H7.new o1).new o2).mov rw_ o3).set p o4).m i = H.m i) := by
                  intro o1 o2 o3 o4 i hi
                  rw [set_m, if_neg (by omega)]
                  simp only [new_m, mov_m, new_next, if_neg (by omega : ¬ i = H7.next + 1 + 1), if_neg (by omega : ¬ i = H7.next + 1), if_neg (by omega : ¬ i = H7.next), if_neg (by omega : ¬ i = rw_)]
                  exact hL07.same i hi
                rw [← hw6]
                refine ⟨⟨by simp only [set_next, new_next, mov_next]; omega, fun i hi => hlow _ _ _ _ i hi⟩, rfl, off' + 1, stmv, topv, _, es, _, pi_push h7 (s := s) (b := H7.next) (r' := H7.next + 1 + 1) (cs' := List.take (fs.length * 1) cs ++ flat [.ptr H7.next 0]) (by omega) (by simp only [set_next, new_next, mov_next]; omega) ⟨by omega, by simp only [set_next, new_next, mov_next]; omega⟩ ⟨by omega, by simp only [set_next, new_next, mov_next]; omega⟩ ?_ ?_ hsl hsm ?_ ?_ ?_⟩
                · rw [set_m, if_pos rfl]
                · rw [set_m, if_neg (by omega)]
                  simp only [new_m, mov_m, new_next, if_neg (by omega : ¬ H7.next = H7.next + 1 + 1), if_neg (by omega : ¬ H7.next = H7.next + 1), if_neg (Ne.symm z3 : ¬ H7.next = rw_), if_pos]
                  rw [hsk, hsa]
                · rw [set_m, if_neg (by omega)]
                  simp only [mov_m, new_next, if_pos]
                · rw [Nat.mul_one, hr4]
                  rw [List.take_of_length_le (by simp [flat, DV.cells])]
                  rfl
                · intro i hi hip hnr
                  rw [set_m, if_neg hip]
                  have : ¬ i = rw_ := by rintro rfl; exact hnr _ hr7
                  simp only [new_m, mov_m, new_next, if_neg (by omega : ¬ i = H7.next + 1 + 1), if_neg (by omega : ¬ i = H7.next + 1), if_neg (by omega : ¬ i = H7.next), if_neg this]
            · have j5 : (part == [123]) = false := beq_eq_false_iff_ne.2 q4
              rw [if_neg q4, if_neg q1] at hw6
              simp -dsimp (disch := first | omega | (refine DrawYes.mk ?_; decide +kernel) | fail) only [go_sem, ↓reduceIte, reduceCtorEq, Nat.reduceEqDiff, Nat.reduceAdd, Nat.reduceLeDiff, Int.reduceLE, Int.reduceLT, Int.reduceBEq, Int.reduceBNe, Int.reduceEq, Nat.reduceBEq, Int.reduceToNat, Nat.reduceLT, Nat.reduceGT, Nat.reduceSub, Nat.reduceMul, Int.reduceAdd, Int.reduceSub, Int.reduceNeg, Int.reduceGE, Int.reduceGT, g0, g5, g6, g42, g43, g44, hps, hs7, j1, j2, j3, j4, j5]
              have hput : putP part to s k'.text = s := by unfold putP; rw [if_neg q1, if_neg q3]
              rw [hput] at hw6
              exact ⟨(j + 1, s, to, r, off' + 1), ⟨hF57, by simp only; omega, hm7, rfl, hsk, hsl, hsm, hsa, htk7, hto3, hw6, rfl, rfl⟩, by simp only; omega⟩
          · rw [if_pos he] at hw6
            simp -dsimp (disch := first | omega | (refine DrawYes.mk ?_; decide +kernel) | fail) only [go_sem, ↓reduceIte, reduceCtorEq, Nat.reduceEqDiff, Nat.reduceAdd, Nat.reduceLeDiff, Int.reduceLE, Int.reduceLT, Int.reduceBEq, Int.reduceBNe, Int.reduceEq, Nat.reduceBEq, Int.reduceToNat, Nat.reduceLT, Nat.reduceGT, Nat.reduceSub, Nat.reduceMul, Int.reduceAdd, Int.reduceSub, Int.reduceNeg, Int.reduceGE, Int.reduceGT, g0, g5, g6, g42, g43, g44]
            rw [← hw6]
            exact ⟨hL06.frm hF7 hlop hlo, rfl, _, _, _, _, _, hm7⟩
        · have k0 : ¬ (j : Int) < parts.length := by omega
          have hdj : parts.drop j = [] := List.drop_of_length_le (by omega)
          rw [hdj, wordsP] at hw6
          simp -dsimp (disch := first | omega | (refine DrawYes.mk ?_; decide +kernel) | fail) only [go_sem, ↓reduceIte, reduceCtorEq, Nat.reduceEqDiff, Nat.reduceAdd, Nat.reduceLeDiff, Int.reduceLE, Int.reduceLT, Int.reduceBEq, Int.reduceBNe, Int.reduceEq, Nat.reduceBEq, Int.reduceToNat, Nat.reduceLT, Nat.reduceGT, Nat.reduceSub, Nat.reduceMul, Int.reduceAdd, Int.reduceSub, Int.reduceNeg, Int.reduceGE, Int.reduceGT, g0, g5, g6, g42, g43, g44, k0, hs6]
          refine call (pwhole_ok (s := s) (h.keep hF06 hm6) hb (by omega) ⟨.nils, .nils, by rw [hsk, hsa], .inl ⟨rfl, hsl⟩, .inl ⟨rfl, hsm⟩⟩) ?_
          rintro _ H7 ⟨rfl, hL7, sv, tv, ov, es2, fs2, hpi⟩
          simp -dsimp (disch := first | omega | (refine DrawYes.mk ?_; decide +kernel) | fail) only [go_sem, ↓reduceIte, reduceCtorEq, Nat.reduceEqDiff, Nat.reduceAdd, Nat.reduceLeDiff, Int.reduceLE, Int.reduceLT, Int.reduceBEq, Int.reduceBNe, Int.reduceEq, Nat.reduceBEq, Int.reduceToNat, Nat.reduceLT, Nat.reduceGT, Nat.reduceSub, Nat.reduceMul, Int.reduceAdd, Int.reduceSub, Int.reduceNeg, Int.reduceGE, Int.reduceGT, g0, g5, g6, g42, g43, g44]
          rw [← hw6]
          exact ⟨hL06.trans hL7, rfl, _, _, _, _, _, _, hpi⟩
  · have j1 : ((k.kind : Int) != 1) = true := by simp; omega
    simp -dsimp (disch := first | omega | (refine DrawYes.mk ?_; decide +kernel) | fail) only [go_sem, ↓reduceIte, reduceCtorEq, Nat.reduceEqDiff, Nat.reduceAdd, Nat.reduceLeDiff, Int.reduceLE, Int.reduceLT, Int.reduceBEq, Int.reduceBNe, Int.reduceEq, Nat.reduceBEq, Int.reduceToNat, Nat.reduceLT, Nat.reduceGT, Nat.reduceSub, Nat.reduceMul, Int.reduceAdd, Int.reduceSub, Int.reduceNeg, Int.reduceGE, Int.reduceGT, ht2, j1]
    refine call (pfail_ok (er := 20) (by omega) hm2) ?_
    rintro _ H3 ⟨rfl, hF3, hm3⟩
    simp -dsimp (disch := first | omega | (refine DrawYes.mk ?_; decide +kernel) | fail) only [go_sem, ↓reduceIte, reduceCtorEq, Nat.reduceEqDiff, Nat.reduceAdd, Nat.reduceLeDiff, Int.reduceLE, Int.reduceLT, Int.reduceBEq, Int.reduceBNe, Int.reduceEq, Nat.reduceBEq, Int.reduceToNat, Nat.reduceLT, Nat.reduceGT, Nat.reduceSub, Nat.reduceMul, Int.reduceAdd, Int.reduceSub, Int.reduceNeg, Int.reduceGE, Int.reduceGT]
    have : oneP ⟨k :: ts, R, top, os⟩ k ts = .inr (.bad k.pos 20) := by simp only [oneP, if_neg hk1]
    rw [this]
    exact ⟨(Low.frm ⟨hE12.le, fun b hb => hE12.same b (by omega)⟩ hF3 hlop hlo), rfl, _, _, _, _, _, hm3⟩
end Go.Proofs.YtcknfhhbijlobaaDoor.D
