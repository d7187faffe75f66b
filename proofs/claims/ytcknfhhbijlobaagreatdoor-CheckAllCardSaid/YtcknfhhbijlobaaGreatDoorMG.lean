import Derived.Test.YtcknfhhbijlobaaGreatDoorMF
import Derived.Test.YtcknfhhbijlobaaGreatDoorME
namespace Go.Proofs.YtcknfhhbijlobaaGreatDoor.D
open Go
set_option linter.unusedVariables false
set_option linter.unusedSimpArgs false
set_option maxRecDepth 100000
structure TokOk (ts : List Tok) : Prop where
 last : ∃ e, ts.getLast? = some e ∧ e.kind = 0
 ints : ∀ t ∈ ts, t.kind = 2 → (∀ b ∈ t.text, isDig b) ∧ 0 < t.text.length ∧ t.text.length ≤ 9
 len : ts.length < 1000
theorem TokOk.tail {k : Tok} {ts : List Tok} (h : TokOk (k :: ts)) (hk : k.kind ≠ 0) : TokOk ts := by
 refine ⟨?_, fun t ht => h.ints t (by simp [ht]), by have := h.len; simp at this; omega⟩
 obtain ⟨e, h1, h2⟩ := h.last
 cases ts with
 | nil => simp at h1; subst h1; exact absurd h2 hk
 | cons a l => exact ⟨e, by simpa [List.getLast?_cons_cons] using h1, h2⟩
theorem TokOk.ne {ts : List Tok} (h : TokOk ts) : ∃ k r, ts = k :: r := by
 cases ts with
 | nil => obtain ⟨e, h1, _⟩ := h.last; simp at h1
 | cons a l => exact ⟨a, l, rfl⟩
theorem kindT_lt {tx : List UInt8} {k : Nat} (h : kindT tx = some k) : 0 < k ∧ k < 18 := by
 unfold kindT at h
 obtain ⟨h1, h2, _⟩ := List.findIdx?_eq_some_iff_getElem.1 h
 have h3 : headsL.length = 18 := rfl
 refine ⟨?_, by omega⟩
 rcases Nat.eq_zero_or_pos k with rfl | h
 ·simp [headsL] at h2
 ·exact h
def PX (lo : Nat) (H : DH) (p md id : Nat) (at_ e : DV) (st : PSt) : Prop := ∃ off stmv topv opv es fs, PI lo H p md (.sl id 3 off (st.ts.map Tok.dv)) at_ e st.R st.top st.os stmv topv opv es fs
def OneR (lo : Nat) (H : DH) (p md id : Nat) (at_ e : DV) (v : DV) : PSt ⊕ PRes → Prop
 | .inl st => v = .bool true ∧ PX lo H p md id at_ e st
 | .inr (.bad pos er) => v = .bool false ∧ ∃ a b c d f, H.m p = some (.cells PT [a, b, c, d, f, .int .i64 pos, .int .i64 er])
 | .inr (.ok _ _) => False
theorem PI.opl {lo : Nat} {H : DH} {p md : Nat} {tok at_ e : DV} {R : List Stm} {top : List Nat} {os : List Fr} {stmv topv opv : DV} {es : List DV} {fs : List Fx} (h : PI lo H p md tok at_ e R top os stmv topv opv es fs) (H' : DH) : lenD cfg.T H' 66 opv = some (.int .i64 os.length) := by
 have := h.fr.len
 rcases h.op with ⟨rfl, rfl⟩ | ⟨r, cs, rfl, _⟩
 ·rw [this]; simp -dsimp (disch := first | omega | (apply DrawYes.mk; decide +kernel)) only [go_sem, List.length_nil]
 ·rw [this]; simp -dsimp (disch := first | omega | (apply DrawYes.mk; decide +kernel)) only [go_sem]
theorem Low.frm {lo p : Nat} {A B C : DH} (x : Low lo A B) (y : Frm [p] B C) (hp : lo ≤ p) (hn : lo ≤ A.next) : Low lo A C :=
 ⟨Nat.le_trans x.le y.le, fun b hb => (y.same b (by have := x.le; omega) (by simp; omega)).trans (x.same b hb)⟩
theorem Low.trans {lo : Nat} {A B C : DH} (x : Low lo A B) (y : Low lo B C) : Low lo A C := ⟨Nat.le_trans x.le y.le, fun b hb => (y.same b hb).trans (x.same b hb)⟩
theorem mustE_kind {part : List UInt8} {no : Nat} {k : Tok} (h : mustE part no k = 0) : k.kind ≠ 0 := by
 intro h0
 unfold mustE at h
 rw [h0] at h
 simp at h
theorem mustE_int {no : Nat} {k : Tok} (h : mustE [105] no k = 0) : k.kind = 2 := by
 unfold mustE at h
 simp at h
 exact h
theorem pi_push {lo : Nat} {H H' : DH} {p md : Nat} {tok at_ e : DV} {R : List Stm} {top : List Nat} {os : List Fr} {stmv topv opv : DV} {es : List DV} {fs : List Fx} (h : PI lo H p md tok at_ e R top os stmv topv opv es fs) {s : Stm} {b r' : Nat} {cs' : List DV}
  (hlo : lo ≤ H.next) (q1 : H.next ≤ H'.next) (hb : H.next ≤ b ∧ b < H'.next) (hr : H.next ≤ r' ∧ r' < H'.next) (q2 : H'.m p = some (.cells PT [tok, .int .i64 md, stmv, topv, .hs r' 1 0 (fs.length + 1), at_, e]))
  (q3 : H'.m b = some (.cells FT [.int .i64 s.kind, .str s.s, .str s.t, .str s.u, .int .i64 s.n, .int .i64 s.at_, .nils, .nils, .bool false])) (hsl : s.l = []) (hsm : s.m = [])
  (q4 : H'.m r' = some (.row 112 cs')) (q4' : cs'.take (fs.length + 1) = (fs.map fun x => .ptr x.1 0) ++ [.ptr b 0])
  (q5 : ∀ i, i < H.next → i ≠ p → (∀ cs, H.m i ≠ some (.row 112 cs)) → H'.m i = H.m i) :
  PI lo H' p md tok at_ e R top (os ++ [⟨s, false⟩]) stmv topv (.hs r' 1 0 (fs.length + 1)) es (fs ++ [(b, .nils, .nils)]) where
 hp := Nat.lt_of_lt_of_le h.hp q1
 lop := h.lop
 obj := q2
 stm := h.stm.keep q1 fun id hi => by
  obtain ⟨_, h2, k, h3⟩ := h.stm.tip id hi
  exact q5 id h2 (mne h3 h.obj (by simp)) fun cs hc => by rw [h3] at hc; cases hc
 stmR := h.stmR
 top := h.top.keep q1 fun id hi => by
  obtain ⟨_, h2, k, h3⟩ := h.top.tip id hi
  exact q5 id h2 (mne h3 h.obj (by simp)) fun cs hc => by rw [h3] at hc; cases hc
 op := .inr ⟨r', cs', by simp, by omega, hr.2, q4, by rw [List.length_append, List.map_append]; exact q4'⟩
 fr := (frs_keep h.fr q1 fun y hy => by
  obtain ⟨f, _, hf⟩ := h.fr.mem y hy
  refine ⟨q5 y.1 hf.2.1 (mne hf.2.2.1 h.obj (by simp [PT, FT])) (fun cs hc => by rw [hf.2.2.1] at hc; cases hc), fun id hi => ?_⟩
  obtain ⟨_, h2, k, h3⟩ := hf.ids id hi
  exact q5 id h2 (mne h3 h.obj (by simp)) fun cs hc => by rw [h3] at hc; cases hc).app
   (.cons ⟨by simp only; omega, hb.2, q3, .inl ⟨rfl, by simp [hsl]⟩, .inl ⟨rfl, by simp [hsm]⟩⟩ .nil)
 nodb := by
  rw [List.map_append, List.nodup_append]
  refine ⟨h.nodb, by simp, fun x hx y hy => ?_⟩
  simp only [List.map_cons, List.map_nil, List.mem_singleton] at hy
  subst hy
  rw [List.mem_map] at hx
  obtain ⟨z, hz, rfl⟩ := hx
  obtain ⟨f, _, hf⟩ := h.fr.mem z hz
  have := hf.2.1
  omega
 nodt := by
  rw [List.flatMap_append]
  have : [((b, .nils, .nils) : Fx)].flatMap fids = [] := by simp [fids, slid]
  rw [this, List.append_nil]
  exact h.nodt
def ofW (R : List Stm) (top : List Nat) (os : List Fr) : WRes → PSt ⊕ PRes
 | .bad p e => .inr (.bad p e)
 | .whole s ts' => .inl (wholeP ⟨ts', R, top, os⟩ s)
 | .opens s ts' => .inl ⟨ts', R, top, os ++ [⟨s, false⟩]⟩
theorem oneP_eq {k : Tok} {ts0 ts : List Tok} {R : List Stm} {top : List Nat} {os : List Fr} {kd : Nat} (h1 : k.kind = 1) (h2 : kindT k.text = some kd) :
  oneP ⟨ts0, R, top, os⟩ k ts = ofW R top os (wordsP (partsL.getD kd []) os.length ⟨kd, [], [], [], 0, k.pos, [], []⟩ (if kd = 2 then 1 else 0) ts) := by
 simp only [oneP, if_pos h1, h2]
 cases wordsP (partsL.getD kd []) os.length ⟨kd, [], [], [], 0, k.pos, [], []⟩ (if kd = 2 then 1 else 0) ts <;> rfl
theorem parts_ok : ∀ k, k < 18 → (partsL.getD k []).length ≤ 5 ∧ ((partsL.getD k []).filter fun p => decide (isText p)).length + (if k = 2 then 1 else 0) ≤ 3 := by decide
theorem pone_ok {lo : Nat} {H : DH} {p md id off : Nat} {at_ e : DV} {k : Tok} {ts : List Tok} {R : List Stm} {top : List Nat} {os : List Fr} {stmv topv opv : DV} {es : List DV} {fs : List Fx}
  (h : PI lo H p md (.sl id 3 off ((k :: ts).map Tok.dv)) at_ e R top os stmv topv opv es fs) (hb : Bnd R top os) (hlo : lo ≤ H.next) (hts : TokOk (k :: ts)) :
  WC cfg 45 [.ptr p 0] H fun v H' => Low lo H H' ∧ OneR lo H' p md id at_ e v (oneP ⟨k :: ts, R, top, os⟩ k ts) := by
 refine WC_of (show Has cfg 45 94 [.tmp 2] _ from ⟨by kernel_rfl, Tryz.f45, Tryz.func45, rfl, rfl, rfl, by kernel_rfl⟩) (by simp) ?_
 have hp := h.hp
 have hlop := h.lop
 have hlen : ts.length < 1000 := by have := hts.len; simp at this; omega
 simp -dsimp (disch := first | omega | (apply DrawYes.mk; decide +kernel)) only [go_sem]
 refine call (pnext_ok hp h.obj) ?_
 rintro _ H1 ⟨rfl, hE⟩
 have hm1 := hE.get hp h.obj
 have hle1 := hE.le
 simp -dsimp (disch := first | omega | (apply DrawYes.mk; decide +kernel)) only [go_sem, shapes_eq, Tok.dv]
 refine call (idxFunc_ok (tb := H1.next) (kd := .int .i64 k.kind) (tx := k.text) (pos := .int .i64 k.pos) (by simp only [new_next, set_next]; omega) (by simp only [new_m, set_m, new_next, set_next, if_neg (by omega : ¬ H1.next = H1.next + 1), if_pos])) ?_
 rintro _ H2 ⟨rfl, hE2⟩
 have hle2 := hE2.le
 simp only [new_next, set_next] at hle2
 have ht2 : H2.m H1.next = some (.cells 71 [.int .i64 k.kind, .str k.text, .int .i64 k.pos]) := hE2.get (by simp only [new_next, set_next]; omega) (by simp only [new_m, set_m, new_next, set_next, if_neg (by omega : ¬ H1.next = H1.next + 1), if_pos])
 have hm2 : H2.m p = _ := hE2.get (by simp only [new_next, set_next]; omega) (by simp only [new_m, set_m, new_next, set_next, if_neg (by omega : ¬ p = H1.next), if_neg (by omega : ¬ p = H1.next + 1)]; exact hm1)
 have hE12 : Ext H H2 := hE.trans ((((Ext.refl (H := H1)).new).set (Nat.le_refl _)).new.trans hE2)
 by_cases hk1 : k.kind = 1
 ·have j1 : ((k.kind : Int) != 1) = false := by simp; omega
  cases hkt : kindT k.text with
  | none =>
   have j2 : kindI k.text = -1 := by rw [kindI, hkt]
   simp -dsimp (disch := first | omega | (apply DrawYes.mk; decide +kernel)) only [go_sem, ht2, j1, j2]
   refine call (pfail_ok (er := 20) (by omega) hm2) ?_
   rintro _ H3 ⟨rfl, hF3, hm3⟩
   simp -dsimp (disch := first | omega | (apply DrawYes.mk; decide +kernel)) only [go_sem]
   have : oneP ⟨k :: ts, R, top, os⟩ k ts = .inr (.bad k.pos 20) := by simp only [oneP, if_pos hk1, hkt]
   rw [this]
   exact ⟨(Low.frm ⟨hE12.le, fun b hb => hE12.same b (by omega)⟩ hF3 hlop hlo), rfl, _, _, _, _, _, hm3⟩
  | some kd =>
   have j2 : kindI k.text = kd := by rw [kindI, hkt]
   have j3 : ¬ (kd : Int) < 0 := by omega
   simp -dsimp (disch := first | omega | (apply DrawYes.mk; decide +kernel)) only [go_sem, ht2, j1, j2, j3]
   refine call (pis_ok (ss := []) (by omega) (by omega) (by simp) (.inl ⟨rfl, rfl⟩) hm2) ?_
   rintro _ H3 ⟨rfl, hF3, hm3⟩
   have hle3 := hF3.le
   have ht3 : H3.m H1.next = _ := hF3.get (by omega) (by simp; omega) ht2
   rw [if_pos ⟨hk1, .inl rfl⟩] at hm3
   have hkd := kindT_lt hkt
   simp -dsimp (disch := first | omega | (apply DrawYes.mk; decide +kernel)) only [go_sem, ht3, j1, j2, j3]
   refine ⟨fun hg => ?_, fun hg => ?_⟩
   ·have hk2 : (kd == 2) = true := by simp; omega
    have hpl := (shapes_at kd (by omega)).2
    refine call (shape_ok (by omega)) ?_
    rintro _ H4 ⟨rfl, hE4⟩
    have hle4 := hE4.le
    simp only [new_next, set_next] at hle4
    simp -dsimp (disch := first | omega | (apply DrawYes.mk; decide +kernel)) only [go_sem]
    refine call (words_ok (by have := (shapes_at kd (by omega)).1; omega) hpl.1) ?_
    rintro wv H5 ⟨hE5, hwv⟩
    have hle5 := hE5.le
    rw [shapes_words kd (by omega) (by omega)] at hwv
    rcases hwv with ⟨_, g⟩ | ⟨wid, woff, wk, rfl, _⟩
    ·simp at g
    have hE45 := hE4.trans hE5
    have hs5 : H5.m H3.next = some (.cells 40 [.int .i64 kd, .str [], .str [], .str [], .int .i64 0, .int .i64 k.pos, .nils, .nils]) := hE45.get (by simp only [new_next, set_next]; omega) (by simp only [new_m, set_m, new_next, set_next, if_neg (by omega : ¬ H3.next = H3.next + 1), if_pos])
    have hm5 : H5.m p = _ := hE45.get (by simp only [new_next, set_next]; omega) (by simp only [new_m, set_m, new_next, set_next, if_neg (by omega : ¬ p = H3.next), if_neg (by omega : ¬ p = H3.next + 1)]; exact hm3)
    have hpn : (partsL.getD kd []).length ≤ 5 := (parts_ok kd (by omega)).1
    have hpc := (parts_ok kd (by omega)).2
    have htp : List.take (partsL.getD kd []).length ((partsL.getD kd []).map DV.str) = (partsL.getD kd []).map DV.str := List.take_of_length_le (by simp)
    have hlp : ∀ x : DV, (x :: (partsL.getD kd []).map DV.str).length = (partsL.getD kd []).length + 1 := fun x => by simp
    simp -dsimp (disch := first | omega | (apply DrawYes.mk; decide +kernel)) only [go_sem, List.map_cons, List.length_cons, List.length_map, htp]
    generalize hpd : partsL.getD kd [] = parts at hpn hpc
    have hE5' : Frm [p] H H5 := (Frm.ext hE12).trans (hF3.trans ((((Frm.refl (H := H3)).new).set (.inr (Nat.le_refl _))).new.trans (Frm.ext hE45)))
    obtain ⟨W, hW⟩ : ∃ W, wordsP parts os.length ⟨kd, [], [], [], 0, k.pos, [], []⟩ 1 ts = W := ⟨_, rfl⟩
    have hone : oneP ⟨k :: ts, R, top, os⟩ k ts = ofW R top os W := by
     rw [oneP_eq hk1 hkt, hpd, show (if kd = 2 then 1 else 0) = 1 by rw [if_pos (by omega)], hW]
    rw [hone]
    have htk : TokOk ts := hts.tail (by omega)
    refine ⟨by omega, Y_loop (α := Nat × Stm × Nat × List Tok × Nat) (fun a σ H' => Frm [p, H3.next] H5 H' ∧ a.1 ≤ parts.length ∧ H'.m p = some (.cells PT [.sl id 3 a.2.2.2.2 (a.2.2.2.1.map Tok.dv), .int .i64 md, stmv, topv, opv, at_, e]) ∧
     H'.m H3.next = some (.cells 40 [.int .i64 kd, .str a.2.1.s, .str a.2.1.t, .str a.2.1.u, .int .i64 a.2.1.n, .int .i64 k.pos, .nils, .nils]) ∧ a.2.1.kind = kd ∧ a.2.1.l = [] ∧ a.2.1.m = [] ∧ a.2.1.at_ = k.pos ∧ TokOk a.2.2.2.1 ∧
     a.2.2.1 + ((parts.drop a.1).filter fun p => decide (isText p)).length ≤ 3 ∧ wordsP (parts.drop a.1) os.length a.2.1 a.2.2.1 a.2.2.2.1 = W ∧
     σ 0 = .ptr p 0 ∧ σ 5 = .ptr H3.next 0 ∧ σ 6 = .sl (H3.next + 1) 1 a.2.2.1 (([.ptr H3.next 1, .ptr H3.next 2, .ptr H3.next 3] : List DV).drop a.2.2.1) ∧ σ 42 = .sl wid 1 (woff + 1) (parts.map DV.str) ∧ σ 43 = .int .i64 parts.length ∧ σ 44 = .int .i64 a.1)
     (fun a => parts.length - a.1) (0, ⟨kd, [], [], [], 0, k.pos, [], []⟩, 1, ts, off + 1) ?_ ?_⟩
    ·simp -dsimp (disch := first | omega | (apply DrawYes.mk; decide +kernel)) only [go_sem, hpd]
     refine ⟨Frm.refl, Nat.zero_le _, hm5, hs5, htk, ?_, hW⟩
     rw [if_pos (by omega)] at hpc; show 1 + (parts.filter fun p => decide (isText p)).length ≤ 3; omega
    rintro ⟨j, s, to, ts', off'⟩ σ H6 ⟨hF6, hj, hm6, hs6, hsk, hsl, hsm, hsa, htk6, hto, hw6, g0, g5, g6, g42, g43, g44⟩
    simp only at hj hm6 hs6 hsk hsl hsm hsa htk6 hto hw6 g6 g44
    have hle6 := hF6.le
    have hp6 : p < H6.next := by omega
    have hF06 : Frm [p] H H6 := ⟨by omega, fun b hb hs => (hF6.same b (by omega) (by simp at hs ⊢; omega)).trans (hE5'.same b hb hs)⟩
    have hL06 : Low lo H H6 := ⟨hF06.le, fun b hb => hF06.same b (by omega) (by simp; omega)⟩
    by_cases hlt : j < parts.length
    ·have k0 : (j : Int) < parts.length := by omega
     have hpj : parts[j]? = some parts[j] := List.getElem?_eq_getElem hlt
     have hpm : (parts.map DV.str)[j]? = some (.str parts[j]) := by rw [List.getElem?_map, hpj]; rfl
     have hdj : parts.drop j = parts[j] :: parts.drop (j + 1) := List.drop_eq_getElem_cons hlt
     generalize parts[j] = part at hpj hpm hdj
     obtain ⟨k', r, rfl⟩ := htk6.ne
     rw [hdj, wordsP] at hw6
     have hlr : r.length < 1000 := by have := htk6.len; simp at this; omega
     simp -dsimp (disch := first | omega | (apply DrawYes.mk; decide +kernel)) only [go_sem, g0, g5, g6, g42, g43, g44, k0, hpm]
     refine ⟨by omega, call (pmust_ok hp6 (by omega) h.opl hm6) ?_⟩
     rintro v H7 ⟨hF7, ⟨he, rfl, hm7⟩ | ⟨he, rfl, hm7⟩⟩
     ·rw [if_neg (by omega)] at hw6
      have hle7 := hF7.le
      have hs7 : H7.m H3.next = _ := hF7.get (by omega) (by simp; omega) hs6
      have htk7 : TokOk r := htk6.tail (mustE_kind he)
      have hL07 : Low lo H H7 := hL06.frm hF7 hlop hlo
      have hps : ¬ p = H3.next := by omega
      have hF57 : Frm [p, H3.next] H5 H7 := hF6.trans (hF7.mono (by simp))
      by_cases q1 : isText part
      ·have hto2 : to < 3 := by
        rw [hdj, List.filter_cons, if_pos (by simpa using q1)] at hto; simp at hto; omega
       have hto3 : to + 1 + ((parts.drop (j + 1)).filter fun p => decide (isText p)).length ≤ 3 := by
        rw [hdj, List.filter_cons, if_pos (by simpa using q1)] at hto; simp at hto; omega
       have q2 : part ≠ [123] := by rintro rfl; revert q1; decide
       rw [if_neg q2, if_pos q1] at hw6
       have hcases : (part = [110] ∨ part = [119] ∨ part = [116]) ∧ (to = 0 ∨ to = 1 ∨ to = 2) := ⟨q1, by omega⟩
       rcases hcases with ⟨rfl | rfl | rfl, rfl | rfl | rfl⟩
       ·
        simp -dsimp (disch := first | omega | (apply DrawYes.mk; decide +kernel)) only [go_sem, g0, g5, g6, g42, g43, g44, hps, hs7]
        exact ⟨(j + 1, putP [110] 0 s k'.text, 1, r, off' + 1), ⟨hF57.set (.inl (by simp)), by simp only; omega, hm7, rfl, hsk, hsl, hsm, hsa, htk7, hto3, hw6, rfl, rfl⟩, by simp only; omega⟩
       ·
        simp -dsimp (disch := first | omega | (apply DrawYes.mk; decide +kernel)) only [go_sem, g0, g5, g6, g42, g43, g44, hps, hs7]
        exact ⟨(j + 1, putP [110] 1 s k'.text, 2, r, off' + 1), ⟨hF57.set (.inl (by simp)), by simp only; omega, hm7, rfl, hsk, hsl, hsm, hsa, htk7, hto3, hw6, rfl, rfl⟩, by simp only; omega⟩
       ·
        simp -dsimp (disch := first | omega | (apply DrawYes.mk; decide +kernel)) only [go_sem, g0, g5, g6, g42, g43, g44, hps, hs7]
        exact ⟨(j + 1, putP [110] 2 s k'.text, 3, r, off' + 1), ⟨hF57.set (.inl (by simp)), by simp only; omega, hm7, rfl, hsk, hsl, hsm, hsa, htk7, hto3, hw6, rfl, rfl⟩, by simp only; omega⟩
       ·
        simp -dsimp (disch := first | omega | (apply DrawYes.mk; decide +kernel)) only [go_sem, g0, g5, g6, g42, g43, g44, hps, hs7, (by decide : ((([119] : List UInt8)) == [110]) = false)]
        exact ⟨(j + 1, putP [119] 0 s k'.text, 1, r, off' + 1), ⟨hF57.set (.inl (by simp)), by simp only; omega, hm7, rfl, hsk, hsl, hsm, hsa, htk7, hto3, hw6, rfl, rfl⟩, by simp only; omega⟩
       ·
        simp -dsimp (disch := first | omega | (apply DrawYes.mk; decide +kernel)) only [go_sem, g0, g5, g6, g42, g43, g44, hps, hs7, (by decide : ((([119] : List UInt8)) == [110]) = false)]
        exact ⟨(j + 1, putP [119] 1 s k'.text, 2, r, off' + 1), ⟨hF57.set (.inl (by simp)), by simp only; omega, hm7, rfl, hsk, hsl, hsm, hsa, htk7, hto3, hw6, rfl, rfl⟩, by simp only; omega⟩
       ·
        simp -dsimp (disch := first | omega | (apply DrawYes.mk; decide +kernel)) only [go_sem, g0, g5, g6, g42, g43, g44, hps, hs7, (by decide : ((([119] : List UInt8)) == [110]) = false)]
        exact ⟨(j + 1, putP [119] 2 s k'.text, 3, r, off' + 1), ⟨hF57.set (.inl (by simp)), by simp only; omega, hm7, rfl, hsk, hsl, hsm, hsa, htk7, hto3, hw6, rfl, rfl⟩, by simp only; omega⟩
       ·
        simp -dsimp (disch := first | omega | (apply DrawYes.mk; decide +kernel)) only [go_sem, g0, g5, g6, g42, g43, g44, hps, hs7, (by decide : ((([116] : List UInt8)) == [110]) = false), (by decide : ((([116] : List UInt8)) == [119]) = false)]
        exact ⟨(j + 1, putP [116] 0 s k'.text, 1, r, off' + 1), ⟨hF57.set (.inl (by simp)), by simp only; omega, hm7, rfl, hsk, hsl, hsm, hsa, htk7, hto3, hw6, rfl, rfl⟩, by simp only; omega⟩
       ·
        simp -dsimp (disch := first | omega | (apply DrawYes.mk; decide +kernel)) only [go_sem, g0, g5, g6, g42, g43, g44, hps, hs7, (by decide : ((([116] : List UInt8)) == [110]) = false), (by decide : ((([116] : List UInt8)) == [119]) = false)]
        exact ⟨(j + 1, putP [116] 1 s k'.text, 2, r, off' + 1), ⟨hF57.set (.inl (by simp)), by simp only; omega, hm7, rfl, hsk, hsl, hsm, hsa, htk7, hto3, hw6, rfl, rfl⟩, by simp only; omega⟩
       ·
        simp -dsimp (disch := first | omega | (apply DrawYes.mk; decide +kernel)) only [go_sem, g0, g5, g6, g42, g43, g44, hps, hs7, (by decide : ((([116] : List UInt8)) == [110]) = false), (by decide : ((([116] : List UInt8)) == [119]) = false)]
        exact ⟨(j + 1, putP [116] 2 s k'.text, 3, r, off' + 1), ⟨hF57.set (.inl (by simp)), by simp only; omega, hm7, rfl, hsk, hsl, hsm, hsa, htk7, hto3, hw6, rfl, rfl⟩, by simp only; omega⟩
      have q1' : part ≠ [110] ∧ part ≠ [119] ∧ part ≠ [116] := by unfold isText at q1; simpa [not_or] using q1
      have j1 : (part == [110]) = false := beq_eq_false_iff_ne.2 q1'.1
      have j2 : (part == [119]) = false := beq_eq_false_iff_ne.2 q1'.2.1
      have j3 : (part == [116]) = false := beq_eq_false_iff_ne.2 q1'.2.2
      have hto3 : to + ((parts.drop (j + 1)).filter fun p => decide (isText p)).length ≤ 3 := by
       rw [hdj, List.filter_cons, if_neg (by simpa using q1)] at hto; exact hto
      by_cases q3 : part = [105]
      ·subst q3
       rw [if_neg (by decide), if_neg (by decide)] at hw6
       have hkn := htk6.ints k' (by simp) (mustE_int he)
       simp -dsimp (disch := first | omega | (apply DrawYes.mk; decide +kernel)) only [go_sem, g0, g5, g6, g42, g43, g44, hps, hs7, j1, j2, j3]
       refine call (number_ok hkn.1 hkn.2.1 hkn.2.2) ?_
       rintro _ H8 ⟨rfl, hE8⟩
       have hs8 := hE8.get (by omega) hs7
       simp -dsimp (disch := first | omega | (apply DrawYes.mk; decide +kernel)) only [go_sem, g0, g5, g6, g42, g43, g44, hps, hs8, j1, j2, j3]
       exact ⟨(j + 1, putP [105] to s k'.text, to, r, off' + 1), ⟨(hF57.trans (Frm.ext hE8)).set (.inl (by simp)), by simp only; omega, hE8.get (by omega) hm7, rfl, hsk, hsl, hsm, hsa, htk7, hto3, hw6, rfl, rfl⟩, by simp only; omega⟩
      have j4 : (part == [105]) = false := beq_eq_false_iff_ne.2 q3
      by_cases q4 : part = [123]
      ·subst q4
       rw [if_pos rfl] at hw6
       simp -dsimp (disch := first | omega | (apply DrawYes.mk; decide +kernel)) only [go_sem, g0, g5, g6, g42, g43, g44, hps, hs7, j1, j2, j3, j4]
       refine Y_float [(4, 0, 9)] (by decide +kernel) ?_
       have z0 : ¬ p = H7.next := by omega
       have z1 : ¬ p = H7.next + 1 := by omega
       have h7 := h.keep (hF06.trans hF7) hm7
       simp -dsimp (disch := first | omega | (apply DrawYes.mk; decide +kernel)) only [go_sem, g0, g5, g6, g42, g43, g44, hps, hs7, j1, j2, j3, j4, hm7, z0, z1]
       have hnf : fs.length = os.length := h.fr.len.symm
       have hosl := hb.hl
       rcases h.op with ⟨rfl, rfl⟩ | ⟨rw_, cs, rfl, hr1, hr2, hr3, hr4⟩
       ·refine app_hn und_66 size_112 bytes_112 und_66 zero_112 rfl rfl (by decide) rfl (by simp) (by simp) (by simp) ?_
        have z2 : ¬ p = H7.next + 1 + 1 := by omega
        simp -dsimp (disch := first | omega | (apply DrawYes.mk; decide +kernel)) only [go_sem, g0, g5, g6, g42, g43, g44, hps, hs7, j1, j2, j3, j4, hm7, z0, z1, z2]
        have hlow : ∀ o1 o2 o3 o4 i, i < lo → (((((H7.new o1).new o2).new o3).set p o4).m i = H.m i) := by
         intro o1 o2 o3 o4 i hi
         rw [set_m, if_neg (by omega)]
         simp only [new_m, mov_m, new_next, if_neg (by omega : ¬ i = H7.next + 1 + 1), if_neg (by omega : ¬ i = H7.next + 1), if_neg (by omega : ¬ i = H7.next)]
         exact hL07.same i hi
        rw [← hw6]
        refine ⟨⟨by simp only [set_next, new_next]; omega, fun i hi => hlow _ _ _ _ i hi⟩, rfl, off' + 1, stmv, topv, _, es, _, pi_push h7 (s := s) (b := H7.next) (r' := H7.next + 1 + 1) (cs' := [.ptr H7.next 0]) (by omega) (by simp only [set_next, new_next]; omega) ⟨by omega, by simp only [set_next, new_next]; omega⟩ ⟨by omega, by simp only [set_next, new_next]; omega⟩ ?_ ?_ hsl hsm ?_ rfl ?_⟩
        ·rw [set_m, if_pos rfl]; rfl
        ·rw [set_m, if_neg (by omega)]
         simp only [new_m, new_next, if_neg (by omega : ¬ H7.next = H7.next + 1 + 1), if_neg (by omega : ¬ H7.next = H7.next + 1), if_pos]
         rw [hsk, hsa]
        ·rw [set_m, if_neg (by omega)]
         simp only [new_m, new_next, if_pos]
         rfl
        ·intro i hi hip _
         rw [set_m, if_neg hip]
         simp only [new_m, new_next, if_neg (by omega : ¬ i = H7.next + 1 + 1), if_neg (by omega : ¬ i = H7.next + 1), if_neg (by omega : ¬ i = H7.next)]
       ·have hr7 : H7.m rw_ = some (.row 112 cs) := (hF06.trans hF7).get hr2 (by simpa using mne hr3 h.obj (by simp)) hr3
        have z3 : ¬ rw_ = H7.next := by have := (hF06.trans hF7).le; omega
        have z4 : ¬ rw_ = H7.next + 1 := by have := (hF06.trans hF7).le; omega
        have z5 : ¬ p = rw_ := mne h.obj hr3 (by simp)
        have hcl : 0 + fs.length * 1 ≤ cs.length := by
         have := congrArg List.length hr4
         simp at this; omega
        refine app_hs (cs := cs) und_66 size_112 bytes_112 und_66 zero_112 rfl rfl (by decide) (by simp only [new_m, new_next, if_neg z3, if_neg z4, hr7]) hcl rfl (by simp) (by simp; omega) (by simp; omega) ?_
        have z2 : ¬ p = H7.next + 1 + 1 := by omega
        simp -dsimp (disch := first | omega | (apply DrawYes.mk; decide +kernel)) only [go_sem, g0, g5, g6, g42, g43, g44, hps, hs7, j1, j2, j3, j4, hm7, z0, z1, z2, z5]
        have hlow : ∀ o1 o2 o3 o4 i, i < lo → (((((H7.new o1).new o2).mov rw_ o3).set p o4).m i = H.m i) := by
         intro o1 o2 o3 o4 i hi
         rw [set_m, if_neg (by omega)]
         simp only [new_m, mov_m, new_next, if_neg (by omega : ¬ i = H7.next + 1 + 1), if_neg (by omega : ¬ i = H7.next + 1), if_neg (by omega : ¬ i = H7.next), if_neg (by omega : ¬ i = rw_)]
         exact hL07.same i hi
        rw [← hw6]
        refine ⟨⟨by simp only [set_next, new_next, mov_next]; omega, fun i hi => hlow _ _ _ _ i hi⟩, rfl, off' + 1, stmv, topv, _, es, _, pi_push h7 (s := s) (b := H7.next) (r' := H7.next + 1 + 1) (cs' := List.take (fs.length * 1) cs ++ flat [.ptr H7.next 0]) (by omega) (by simp only [set_next, new_next, mov_next]; omega) ⟨by omega, by simp only [set_next, new_next, mov_next]; omega⟩ ⟨by omega, by simp only [set_next, new_next, mov_next]; omega⟩ ?_ ?_ hsl hsm ?_ ?_ ?_⟩
        ·rw [set_m, if_pos rfl]
        ·rw [set_m, if_neg (by omega)]
         simp only [new_m, mov_m, new_next, if_neg (by omega : ¬ H7.next = H7.next + 1 + 1), if_neg (by omega : ¬ H7.next = H7.next + 1), if_neg (Ne.symm z3 : ¬ H7.next = rw_), if_pos]
         rw [hsk, hsa]
        ·rw [set_m, if_neg (by omega)]
         simp only [mov_m, new_next, if_pos]
        ·rw [Nat.mul_one, hr4]
         rw [List.take_of_length_le (by simp [flat, DV.cells])]
         rfl
        ·intro i hi hip hnr
         rw [set_m, if_neg hip]
         have : ¬ i = rw_ := by rintro rfl; exact hnr _ hr7
         simp only [new_m, mov_m, new_next, if_neg (by omega : ¬ i = H7.next + 1 + 1), if_neg (by omega : ¬ i = H7.next + 1), if_neg (by omega : ¬ i = H7.next), if_neg this]
      ·have j5 : (part == [123]) = false := beq_eq_false_iff_ne.2 q4
       rw [if_neg q4, if_neg q1] at hw6
       simp -dsimp (disch := first | omega | (apply DrawYes.mk; decide +kernel)) only [go_sem, g0, g5, g6, g42, g43, g44, hps, hs7, j1, j2, j3, j4, j5]
       have hput : putP part to s k'.text = s := by unfold putP; rw [if_neg q1, if_neg q3]
       rw [hput] at hw6
       exact ⟨(j + 1, s, to, r, off' + 1), ⟨hF57, by simp only; omega, hm7, rfl, hsk, hsl, hsm, hsa, htk7, hto3, hw6, rfl, rfl⟩, by simp only; omega⟩
     ·rw [if_pos he] at hw6
      simp -dsimp (disch := first | omega | (apply DrawYes.mk; decide +kernel)) only [go_sem, g0, g5, g6, g42, g43, g44]
      rw [← hw6]
      exact ⟨hL06.frm hF7 hlop hlo, rfl, _, _, _, _, _, hm7⟩
    ·have k0 : ¬ (j : Int) < parts.length := by omega
     have hdj : parts.drop j = [] := List.drop_of_length_le (by omega)
     rw [hdj, wordsP] at hw6
     simp -dsimp (disch := first | omega | (apply DrawYes.mk; decide +kernel)) only [go_sem, g0, g5, g6, g42, g43, g44, k0, hs6]
     refine call (pwhole_ok (s := s) (h.keep hF06 hm6) hb (by omega) ⟨.nils, .nils, by rw [hsk, hsa], .inl ⟨rfl, hsl⟩, .inl ⟨rfl, hsm⟩⟩) ?_
     rintro _ H7 ⟨rfl, hL7, sv, tv, ov, es2, fs2, hpi⟩
     simp -dsimp (disch := first | omega | (apply DrawYes.mk; decide +kernel)) only [go_sem, g0, g5, g6, g42, g43, g44]
     rw [← hw6]
     exact ⟨hL06.trans hL7, rfl, _, _, _, _, _, _, hpi⟩
   ·have hk2 : (kd == 2) = false := by simp; omega
    have hpl := (shapes_at kd (by omega)).2
    refine call (shape_ok (by omega)) ?_
    rintro _ H4 ⟨rfl, hE4⟩
    have hle4 := hE4.le
    simp only [new_next, set_next] at hle4
    simp -dsimp (disch := first | omega | (apply DrawYes.mk; decide +kernel)) only [go_sem]
    refine call (words_ok (by have := (shapes_at kd (by omega)).1; omega) hpl.1) ?_
    rintro wv H5 ⟨hE5, hwv⟩
    have hle5 := hE5.le
    rw [shapes_words kd (by omega) (by omega)] at hwv
    rcases hwv with ⟨_, g⟩ | ⟨wid, woff, wk, rfl, _⟩
    ·simp at g
    have hE45 := hE4.trans hE5
    have hs5 : H5.m H3.next = some (.cells 40 [.int .i64 kd, .str [], .str [], .str [], .int .i64 0, .int .i64 k.pos, .nils, .nils]) := hE45.get (by simp only [new_next, set_next]; omega) (by simp only [new_m, set_m, new_next, set_next, if_neg (by omega : ¬ H3.next = H3.next + 1), if_pos])
    have hm5 : H5.m p = _ := hE45.get (by simp only [new_next, set_next]; omega) (by simp only [new_m, set_m, new_next, set_next, if_neg (by omega : ¬ p = H3.next), if_neg (by omega : ¬ p = H3.next + 1)]; exact hm3)
    have hpn : (partsL.getD kd []).length ≤ 5 := (parts_ok kd (by omega)).1
    have hpc := (parts_ok kd (by omega)).2
    have htp : List.take (partsL.getD kd []).length ((partsL.getD kd []).map DV.str) = (partsL.getD kd []).map DV.str := List.take_of_length_le (by simp)
    have hlp : ∀ x : DV, (x :: (partsL.getD kd []).map DV.str).length = (partsL.getD kd []).length + 1 := fun x => by simp
    simp -dsimp (disch := first | omega | (apply DrawYes.mk; decide +kernel)) only [go_sem, List.map_cons, List.length_cons, List.length_map, htp]
    generalize hpd : partsL.getD kd [] = parts at hpn hpc
    have hE5' : Frm [p] H H5 := (Frm.ext hE12).trans (hF3.trans ((((Frm.refl (H := H3)).new).set (.inr (Nat.le_refl _))).new.trans (Frm.ext hE45)))
    obtain ⟨W, hW⟩ : ∃ W, wordsP parts os.length ⟨kd, [], [], [], 0, k.pos, [], []⟩ 0 ts = W := ⟨_, rfl⟩
    have hone : oneP ⟨k :: ts, R, top, os⟩ k ts = ofW R top os W := by
     rw [oneP_eq hk1 hkt, hpd, show (if kd = 2 then 1 else 0) = 0 by rw [if_neg (by omega)], hW]
    rw [hone]
    have htk : TokOk ts := hts.tail (by omega)
    refine ⟨by omega, Y_loop (α := Nat × Stm × Nat × List Tok × Nat) (fun a σ H' => Frm [p, H3.next] H5 H' ∧ a.1 ≤ parts.length ∧ H'.m p = some (.cells PT [.sl id 3 a.2.2.2.2 (a.2.2.2.1.map Tok.dv), .int .i64 md, stmv, topv, opv, at_, e]) ∧
     H'.m H3.next = some (.cells 40 [.int .i64 kd, .str a.2.1.s, .str a.2.1.t, .str a.2.1.u, .int .i64 a.2.1.n, .int .i64 k.pos, .nils, .nils]) ∧ a.2.1.kind = kd ∧ a.2.1.l = [] ∧ a.2.1.m = [] ∧ a.2.1.at_ = k.pos ∧ TokOk a.2.2.2.1 ∧
     a.2.2.1 + ((parts.drop a.1).filter fun p => decide (isText p)).length ≤ 3 ∧ wordsP (parts.drop a.1) os.length a.2.1 a.2.2.1 a.2.2.2.1 = W ∧
     σ 0 = .ptr p 0 ∧ σ 5 = .ptr H3.next 0 ∧ σ 6 = .sl (H3.next + 1) 1 a.2.2.1 (([.ptr H3.next 1, .ptr H3.next 2, .ptr H3.next 3] : List DV).drop a.2.2.1) ∧ σ 42 = .sl wid 1 (woff + 1) (parts.map DV.str) ∧ σ 43 = .int .i64 parts.length ∧ σ 44 = .int .i64 a.1)
     (fun a => parts.length - a.1) (0, ⟨kd, [], [], [], 0, k.pos, [], []⟩, 0, ts, off + 1) ?_ ?_⟩
    ·simp -dsimp (disch := first | omega | (apply DrawYes.mk; decide +kernel)) only [go_sem, hpd]
     refine ⟨Frm.refl, Nat.zero_le _, hm5, hs5, htk, ?_, hW⟩
     rw [if_neg (by omega)] at hpc; show (parts.filter fun p => decide (isText p)).length ≤ 3; omega
    rintro ⟨j, s, to, ts', off'⟩ σ H6 ⟨hF6, hj, hm6, hs6, hsk, hsl, hsm, hsa, htk6, hto, hw6, g0, g5, g6, g42, g43, g44⟩
    simp only at hj hm6 hs6 hsk hsl hsm hsa htk6 hto hw6 g6 g44
    have hle6 := hF6.le
    have hp6 : p < H6.next := by omega
    have hF06 : Frm [p] H H6 := ⟨by omega, fun b hb hs => (hF6.same b (by omega) (by simp at hs ⊢; omega)).trans (hE5'.same b hb hs)⟩
    have hL06 : Low lo H H6 := ⟨hF06.le, fun b hb => hF06.same b (by omega) (by simp; omega)⟩
    by_cases hlt : j < parts.length
    ·have k0 : (j : Int) < parts.length := by omega
     have hpj : parts[j]? = some parts[j] := List.getElem?_eq_getElem hlt
     have hpm : (parts.map DV.str)[j]? = some (.str parts[j]) := by rw [List.getElem?_map, hpj]; rfl
     have hdj : parts.drop j = parts[j] :: parts.drop (j + 1) := List.drop_eq_getElem_cons hlt
     generalize parts[j] = part at hpj hpm hdj
     obtain ⟨k', r, rfl⟩ := htk6.ne
     rw [hdj, wordsP] at hw6
     have hlr : r.length < 1000 := by have := htk6.len; simp at this; omega
     simp -dsimp (disch := first | omega | (apply DrawYes.mk; decide +kernel)) only [go_sem, g0, g5, g6, g42, g43, g44, k0, hpm]
     refine ⟨by omega, call (pmust_ok hp6 (by omega) h.opl hm6) ?_⟩
     rintro v H7 ⟨hF7, ⟨he, rfl, hm7⟩ | ⟨he, rfl, hm7⟩⟩
     ·rw [if_neg (by omega)] at hw6
      have hle7 := hF7.le
      have hs7 : H7.m H3.next = _ := hF7.get (by omega) (by simp; omega) hs6
      have htk7 : TokOk r := htk6.tail (mustE_kind he)
      have hL07 : Low lo H H7 := hL06.frm hF7 hlop hlo
      have hps : ¬ p = H3.next := by omega
      have hF57 : Frm [p, H3.next] H5 H7 := hF6.trans (hF7.mono (by simp))
      by_cases q1 : isText part
      ·have hto2 : to < 3 := by
        rw [hdj, List.filter_cons, if_pos (by simpa using q1)] at hto; simp at hto; omega
       have hto3 : to + 1 + ((parts.drop (j + 1)).filter fun p => decide (isText p)).length ≤ 3 := by
        rw [hdj, List.filter_cons, if_pos (by simpa using q1)] at hto; simp at hto; omega
       have q2 : part ≠ [123] := by rintro rfl; revert q1; decide
       rw [if_neg q2, if_pos q1] at hw6
       have hcases : (part = [110] ∨ part = [119] ∨ part = [116]) ∧ (to = 0 ∨ to = 1 ∨ to = 2) := ⟨q1, by omega⟩
       rcases hcases with ⟨rfl | rfl | rfl, rfl | rfl | rfl⟩
       ·
        simp -dsimp (disch := first | omega | (apply DrawYes.mk; decide +kernel)) only [go_sem, g0, g5, g6, g42, g43, g44, hps, hs7]
        exact ⟨(j + 1, putP [110] 0 s k'.text, 1, r, off' + 1), ⟨hF57.set (.inl (by simp)), by simp only; omega, hm7, rfl, hsk, hsl, hsm, hsa, htk7, hto3, hw6, rfl, rfl⟩, by simp only; omega⟩
       ·
        simp -dsimp (disch := first | omega | (apply DrawYes.mk; decide +kernel)) only [go_sem, g0, g5, g6, g42, g43, g44, hps, hs7]
        exact ⟨(j + 1, putP [110] 1 s k'.text, 2, r, off' + 1), ⟨hF57.set (.inl (by simp)), by simp only; omega, hm7, rfl, hsk, hsl, hsm, hsa, htk7, hto3, hw6, rfl, rfl⟩, by simp only; omega⟩
       ·
        simp -dsimp (disch := first | omega | (apply DrawYes.mk; decide +kernel)) only [go_sem, g0, g5, g6, g42, g43, g44, hps, hs7]
        exact ⟨(j + 1, putP [110] 2 s k'.text, 3, r, off' + 1), ⟨hF57.set (.inl (by simp)), by simp only; omega, hm7, rfl, hsk, hsl, hsm, hsa, htk7, hto3, hw6, rfl, rfl⟩, by simp only; omega⟩
       ·
        simp -dsimp (disch := first | omega | (apply DrawYes.mk; decide +kernel)) only [go_sem, g0, g5, g6, g42, g43, g44, hps, hs7, (by decide : ((([119] : List UInt8)) == [110]) = false)]
        exact ⟨(j + 1, putP [119] 0 s k'.text, 1, r, off' + 1), ⟨hF57.set (.inl (by simp)), by simp only; omega, hm7, rfl, hsk, hsl, hsm, hsa, htk7, hto3, hw6, rfl, rfl⟩, by simp only; omega⟩
       ·
        simp -dsimp (disch := first | omega | (apply DrawYes.mk; decide +kernel)) only [go_sem, g0, g5, g6, g42, g43, g44, hps, hs7, (by decide : ((([119] : List UInt8)) == [110]) = false)]
        exact ⟨(j + 1, putP [119] 1 s k'.text, 2, r, off' + 1), ⟨hF57.set (.inl (by simp)), by simp only; omega, hm7, rfl, hsk, hsl, hsm, hsa, htk7, hto3, hw6, rfl, rfl⟩, by simp only; omega⟩
       ·
        simp -dsimp (disch := first | omega | (apply DrawYes.mk; decide +kernel)) only [go_sem, g0, g5, g6, g42, g43, g44, hps, hs7, (by decide : ((([119] : List UInt8)) == [110]) = false)]
        exact ⟨(j + 1, putP [119] 2 s k'.text, 3, r, off' + 1), ⟨hF57.set (.inl (by simp)), by simp only; omega, hm7, rfl, hsk, hsl, hsm, hsa, htk7, hto3, hw6, rfl, rfl⟩, by simp only; omega⟩
       ·
        simp -dsimp (disch := first | omega | (apply DrawYes.mk; decide +kernel)) only [go_sem, g0, g5, g6, g42, g43, g44, hps, hs7, (by decide : ((([116] : List UInt8)) == [110]) = false), (by decide : ((([116] : List UInt8)) == [119]) = false)]
        exact ⟨(j + 1, putP [116] 0 s k'.text, 1, r, off' + 1), ⟨hF57.set (.inl (by simp)), by simp only; omega, hm7, rfl, hsk, hsl, hsm, hsa, htk7, hto3, hw6, rfl, rfl⟩, by simp only; omega⟩
       ·
        simp -dsimp (disch := first | omega | (apply DrawYes.mk; decide +kernel)) only [go_sem, g0, g5, g6, g42, g43, g44, hps, hs7, (by decide : ((([116] : List UInt8)) == [110]) = false), (by decide : ((([116] : List UInt8)) == [119]) = false)]
        exact ⟨(j + 1, putP [116] 1 s k'.text, 2, r, off' + 1), ⟨hF57.set (.inl (by simp)), by simp only; omega, hm7, rfl, hsk, hsl, hsm, hsa, htk7, hto3, hw6, rfl, rfl⟩, by simp only; omega⟩
       ·
        simp -dsimp (disch := first | omega | (apply DrawYes.mk; decide +kernel)) only [go_sem, g0, g5, g6, g42, g43, g44, hps, hs7, (by decide : ((([116] : List UInt8)) == [110]) = false), (by decide : ((([116] : List UInt8)) == [119]) = false)]
        exact ⟨(j + 1, putP [116] 2 s k'.text, 3, r, off' + 1), ⟨hF57.set (.inl (by simp)), by simp only; omega, hm7, rfl, hsk, hsl, hsm, hsa, htk7, hto3, hw6, rfl, rfl⟩, by simp only; omega⟩
      have q1' : part ≠ [110] ∧ part ≠ [119] ∧ part ≠ [116] := by unfold isText at q1; simpa [not_or] using q1
      have j1 : (part == [110]) = false := beq_eq_false_iff_ne.2 q1'.1
      have j2 : (part == [119]) = false := beq_eq_false_iff_ne.2 q1'.2.1
      have j3 : (part == [116]) = false := beq_eq_false_iff_ne.2 q1'.2.2
      have hto3 : to + ((parts.drop (j + 1)).filter fun p => decide (isText p)).length ≤ 3 := by
       rw [hdj, List.filter_cons, if_neg (by simpa using q1)] at hto; exact hto
      by_cases q3 : part = [105]
      ·subst q3
       rw [if_neg (by decide), if_neg (by decide)] at hw6
       have hkn := htk6.ints k' (by simp) (mustE_int he)
       simp -dsimp (disch := first | omega | (apply DrawYes.mk; decide +kernel)) only [go_sem, g0, g5, g6, g42, g43, g44, hps, hs7, j1, j2, j3]
       refine call (number_ok hkn.1 hkn.2.1 hkn.2.2) ?_
       rintro _ H8 ⟨rfl, hE8⟩
       have hs8 := hE8.get (by omega) hs7
       simp -dsimp (disch := first | omega | (apply DrawYes.mk; decide +kernel)) only [go_sem, g0, g5, g6, g42, g43, g44, hps, hs8, j1, j2, j3]
       exact ⟨(j + 1, putP [105] to s k'.text, to, r, off' + 1), ⟨(hF57.trans (Frm.ext hE8)).set (.inl (by simp)), by simp only; omega, hE8.get (by omega) hm7, rfl, hsk, hsl, hsm, hsa, htk7, hto3, hw6, rfl, rfl⟩, by simp only; omega⟩
      have j4 : (part == [105]) = false := beq_eq_false_iff_ne.2 q3
      by_cases q4 : part = [123]
      ·subst q4
       rw [if_pos rfl] at hw6
       simp -dsimp (disch := first | omega | (apply DrawYes.mk; decide +kernel)) only [go_sem, g0, g5, g6, g42, g43, g44, hps, hs7, j1, j2, j3, j4]
       refine Y_float [(4, 0, 9)] (by decide +kernel) ?_
       have z0 : ¬ p = H7.next := by omega
       have z1 : ¬ p = H7.next + 1 := by omega
       have h7 := h.keep (hF06.trans hF7) hm7
       simp -dsimp (disch := first | omega | (apply DrawYes.mk; decide +kernel)) only [go_sem, g0, g5, g6, g42, g43, g44, hps, hs7, j1, j2, j3, j4, hm7, z0, z1]
       have hnf : fs.length = os.length := h.fr.len.symm
       have hosl := hb.hl
       rcases h.op with ⟨rfl, rfl⟩ | ⟨rw_, cs, rfl, hr1, hr2, hr3, hr4⟩
       ·refine app_hn und_66 size_112 bytes_112 und_66 zero_112 rfl rfl (by decide) rfl (by simp) (by simp) (by simp) ?_
        have z2 : ¬ p = H7.next + 1 + 1 := by omega
        simp -dsimp (disch := first | omega | (apply DrawYes.mk; decide +kernel)) only [go_sem, g0, g5, g6, g42, g43, g44, hps, hs7, j1, j2, j3, j4, hm7, z0, z1, z2]
        have hlow : ∀ o1 o2 o3 o4 i, i < lo → (((((H7.new o1).new o2).new o3).set p o4).m i = H.m i) := by
         intro o1 o2 o3 o4 i hi
         rw [set_m, if_neg (by omega)]
         simp only [new_m, mov_m, new_next, if_neg (by omega : ¬ i = H7.next + 1 + 1), if_neg (by omega : ¬ i = H7.next + 1), if_neg (by omega : ¬ i = H7.next)]
         exact hL07.same i hi
        rw [← hw6]
        refine ⟨⟨by simp only [set_next, new_next]; omega, fun i hi => hlow _ _ _ _ i hi⟩, rfl, off' + 1, stmv, topv, _, es, _, pi_push h7 (s := s) (b := H7.next) (r' := H7.next + 1 + 1) (cs' := [.ptr H7.next 0]) (by omega) (by simp only [set_next, new_next]; omega) ⟨by omega, by simp only [set_next, new_next]; omega⟩ ⟨by omega, by simp only [set_next, new_next]; omega⟩ ?_ ?_ hsl hsm ?_ rfl ?_⟩
        ·rw [set_m, if_pos rfl]; rfl
        ·rw [set_m, if_neg (by omega)]
         simp only [new_m, new_next, if_neg (by omega : ¬ H7.next = H7.next + 1 + 1), if_neg (by omega : ¬ H7.next = H7.next + 1), if_pos]
         rw [hsk, hsa]
        ·rw [set_m, if_neg (by omega)]
         simp only [new_m, new_next, if_pos]
         rfl
        ·intro i hi hip _
         rw [set_m, if_neg hip]
         simp only [new_m, new_next, if_neg (by omega : ¬ i = H7.next + 1 + 1), if_neg (by omega : ¬ i = H7.next + 1), if_neg (by omega : ¬ i = H7.next)]
       ·have hr7 : H7.m rw_ = some (.row 112 cs) := (hF06.trans hF7).get hr2 (by simpa using mne hr3 h.obj (by simp)) hr3
        have z3 : ¬ rw_ = H7.next := by have := (hF06.trans hF7).le; omega
        have z4 : ¬ rw_ = H7.next + 1 := by have := (hF06.trans hF7).le; omega
        have z5 : ¬ p = rw_ := mne h.obj hr3 (by simp)
        have hcl : 0 + fs.length * 1 ≤ cs.length := by
         have := congrArg List.length hr4
         simp at this; omega
        refine app_hs (cs := cs) und_66 size_112 bytes_112 und_66 zero_112 rfl rfl (by decide) (by simp only [new_m, new_next, if_neg z3, if_neg z4, hr7]) hcl rfl (by simp) (by simp; omega) (by simp; omega) ?_
        have z2 : ¬ p = H7.next + 1 + 1 := by omega
        simp -dsimp (disch := first | omega | (apply DrawYes.mk; decide +kernel)) only [go_sem, g0, g5, g6, g42, g43, g44, hps, hs7, j1, j2, j3, j4, hm7, z0, z1, z2, z5]
        have hlow : ∀ o1 o2 o3 o4 i, i < lo → (((((H7.new o1).new o2).mov rw_ o3).set p o4).m i = H.m i) := by
         intro o1 o2 o3 o4 i hi
         rw [set_m, if_neg (by omega)]
         simp only [new_m, mov_m, new_next, if_neg (by omega : ¬ i = H7.next + 1 + 1), if_neg (by omega : ¬ i = H7.next + 1), if_neg (by omega : ¬ i = H7.next), if_neg (by omega : ¬ i = rw_)]
         exact hL07.same i hi
        rw [← hw6]
        refine ⟨⟨by simp only [set_next, new_next, mov_next]; omega, fun i hi => hlow _ _ _ _ i hi⟩, rfl, off' + 1, stmv, topv, _, es, _, pi_push h7 (s := s) (b := H7.next) (r' := H7.next + 1 + 1) (cs' := List.take (fs.length * 1) cs ++ flat [.ptr H7.next 0]) (by omega) (by simp only [set_next, new_next, mov_next]; omega) ⟨by omega, by simp only [set_next, new_next, mov_next]; omega⟩ ⟨by omega, by simp only [set_next, new_next, mov_next]; omega⟩ ?_ ?_ hsl hsm ?_ ?_ ?_⟩
        ·rw [set_m, if_pos rfl]
        ·rw [set_m, if_neg (by omega)]
         simp only [new_m, mov_m, new_next, if_neg (by omega : ¬ H7.next = H7.next + 1 + 1), if_neg (by omega : ¬ H7.next = H7.next + 1), if_neg (Ne.symm z3 : ¬ H7.next = rw_), if_pos]
         rw [hsk, hsa]
        ·rw [set_m, if_neg (by omega)]
         simp only [mov_m, new_next, if_pos]
        ·rw [Nat.mul_one, hr4]
         rw [List.take_of_length_le (by simp [flat, DV.cells])]
         rfl
        ·intro i hi hip hnr
         rw [set_m, if_neg hip]
         have : ¬ i = rw_ := by rintro rfl; exact hnr _ hr7
         simp only [new_m, mov_m, new_next, if_neg (by omega : ¬ i = H7.next + 1 + 1), if_neg (by omega : ¬ i = H7.next + 1), if_neg (by omega : ¬ i = H7.next), if_neg this]
      ·have j5 : (part == [123]) = false := beq_eq_false_iff_ne.2 q4
       rw [if_neg q4, if_neg q1] at hw6
       simp -dsimp (disch := first | omega | (apply DrawYes.mk; decide +kernel)) only [go_sem, g0, g5, g6, g42, g43, g44, hps, hs7, j1, j2, j3, j4, j5]
       have hput : putP part to s k'.text = s := by unfold putP; rw [if_neg q1, if_neg q3]
       rw [hput] at hw6
       exact ⟨(j + 1, s, to, r, off' + 1), ⟨hF57, by simp only; omega, hm7, rfl, hsk, hsl, hsm, hsa, htk7, hto3, hw6, rfl, rfl⟩, by simp only; omega⟩
     ·rw [if_pos he] at hw6
      simp -dsimp (disch := first | omega | (apply DrawYes.mk; decide +kernel)) only [go_sem, g0, g5, g6, g42, g43, g44]
      rw [← hw6]
      exact ⟨hL06.frm hF7 hlop hlo, rfl, _, _, _, _, _, hm7⟩
    ·have k0 : ¬ (j : Int) < parts.length := by omega
     have hdj : parts.drop j = [] := List.drop_of_length_le (by omega)
     rw [hdj, wordsP] at hw6
     simp -dsimp (disch := first | omega | (apply DrawYes.mk; decide +kernel)) only [go_sem, g0, g5, g6, g42, g43, g44, k0, hs6]
     refine call (pwhole_ok (s := s) (h.keep hF06 hm6) hb (by omega) ⟨.nils, .nils, by rw [hsk, hsa], .inl ⟨rfl, hsl⟩, .inl ⟨rfl, hsm⟩⟩) ?_
     rintro _ H7 ⟨rfl, hL7, sv, tv, ov, es2, fs2, hpi⟩
     simp -dsimp (disch := first | omega | (apply DrawYes.mk; decide +kernel)) only [go_sem, g0, g5, g6, g42, g43, g44]
     rw [← hw6]
     exact ⟨hL06.trans hL7, rfl, _, _, _, _, _, _, hpi⟩
 ·have j1 : ((k.kind : Int) != 1) = true := by simp; omega
  simp -dsimp (disch := first | omega | (apply DrawYes.mk; decide +kernel)) only [go_sem, ht2, j1]
  refine call (pfail_ok (er := 20) (by omega) hm2) ?_
  rintro _ H3 ⟨rfl, hF3, hm3⟩
  simp -dsimp (disch := first | omega | (apply DrawYes.mk; decide +kernel)) only [go_sem]
  have : oneP ⟨k :: ts, R, top, os⟩ k ts = .inr (.bad k.pos 20) := by simp only [oneP, if_neg hk1]
  rw [this]
  exact ⟨(Low.frm ⟨hE12.le, fun b hb => hE12.same b (by omega)⟩ hF3 hlop hlo), rfl, _, _, _, _, _, hm3⟩
end Go.Proofs.YtcknfhhbijlobaaGreatDoor.D
namespace Go.Proofs.YtcknfhhbijlobaaGreatDoor.D
open Go
set_option linter.unusedVariables false
set_option linter.unusedSimpArgs false
set_option maxRecDepth 100000
theorem pi_pop {lo : Nat} {H H' : DH} {p md : Nat} {tok at_ e : DV} {R : List Stm} {top : List Nat} {os : List Fr} {f : Fr} {stmv topv opv : DV} {es : List DV} {fs : List Fx} {x : Fx} (h : PI lo H p md tok at_ e R top (os ++ [f]) stmv topv opv es (fs ++ [x])) {r : Nat}
  (hop : opv = .hs r 1 0 (fs.length + 1)) (hF : Frm [p] H H') (hm : H'.m p = some (.cells PT [tok, .int .i64 md, stmv, topv, .hs r 1 0 fs.length, at_, e])) :
  PI lo H' p md tok at_ e R top os stmv topv (.hs r 1 0 fs.length) es fs := by
 obtain ⟨fs0, x0, hx, hfr', hfx⟩ := h.fr.last
 obtain ⟨rfl, hx2⟩ := List.append_inj' hx rfl
 have hnd := h.nodt
 rw [List.flatMap_append, ← List.append_assoc, List.nodup_append] at hnd
 exact {
  hp := Nat.lt_of_lt_of_le h.hp hF.le
  lop := h.lop
  obj := hm
  stm := h.stm.keep hF.le fun id hi => by
   obtain ⟨_, h2, k, h3⟩ := h.stm.tip id hi
   exact hF.same id h2 (by simpa using mne h3 h.obj (by simp))
  stmR := h.stmR
  top := h.top.keep hF.le fun id hi => by
   obtain ⟨_, h2, k, h3⟩ := h.top.tip id hi
   exact hF.same id h2 (by simpa using mne h3 h.obj (by simp))
  op := by
   rcases h.op with ⟨g, _⟩ | ⟨r', cs, g1, g2, g3, g4, g5⟩
   ·rw [hop] at g; cases g
   ·rw [hop] at g1
    obtain rfl : r = r' := (DV.hs.inj g1).1
    refine .inr ⟨r, cs, rfl, g2, Nat.lt_of_lt_of_le g3 hF.le, by rw [hF.same r g3 (by simpa using mne g4 h.obj (by simp))]; exact g4, ?_⟩
    have := congrArg (List.take fs.length) g5
    rw [List.take_take, List.length_append, Nat.min_eq_left (by simp)] at this
    rw [this, List.map_append, List.take_append_of_le_length (by simp), List.take_of_length_le (by simp)]
  fr := frs_keep hfr' hF.le fun y hy => by
   obtain ⟨f, _, hf⟩ := hfr'.mem y hy
   refine ⟨hF.same y.1 hf.2.1 (by simpa using mne hf.2.2.1 h.obj (by simp [PT, FT])), fun id hi => ?_⟩
   obtain ⟨_, h2, k, h3⟩ := hf.ids id hi
   exact hF.same id h2 (by simpa using mne h3 h.obj (by simp))
  nodb := by
   have := h.nodb
   rw [List.map_append, List.nodup_append] at this
   exact this.1
  nodt := hnd.1 }
theorem pi_push2 {lo : Nat} {H H' : DH} {p md : Nat} {tok at_ e : DV} {R : List Stm} {top : List Nat} {os : List Fr} {stmv topv opv : DV} {es : List DV} {fs : List Fx} (h : PI lo H p md tok at_ e R top os stmv topv opv es fs) {f : Fr} {x : Fx} {r' : Nat} {cs' : List DV}
  (hlo : lo ≤ H.next) (q1 : H.next ≤ H'.next) (hr : H.next ≤ r' ∧ r' < H'.next) (q2 : H'.m p = some (.cells PT [tok, .int .i64 md, stmv, topv, .hs r' 1 0 (fs.length + 1), at_, e]))
  (q3 : FrV lo H' f x) (hxb : x.1 ∉ fs.map (·.1)) (hxi : (slid topv ++ fs.flatMap fids ++ fids x).Nodup)
  (q4 : H'.m r' = some (.row 112 cs')) (q4' : cs'.take (fs.length + 1) = (fs.map fun x => .ptr x.1 0) ++ [.ptr x.1 0])
  (q5 : ∀ i, i < H.next → i ≠ p → i ≠ x.1 → (∀ cs, H.m i ≠ some (.row 112 cs)) → H'.m i = H.m i) (hxc : ∃ cs, H.m x.1 = some (.cells FT cs)) :
  PI lo H' p md tok at_ e R top (os ++ [f]) stmv topv (.hs r' 1 0 (fs.length + 1)) es (fs ++ [x]) := by
 obtain ⟨xcs, hxc⟩ := hxc
 exact {
  hp := Nat.lt_of_lt_of_le h.hp q1
  lop := h.lop
  obj := q2
  stm := h.stm.keep q1 fun id hi => by
   obtain ⟨_, h2, k, h3⟩ := h.stm.tip id hi
   exact q5 id h2 (mne h3 h.obj (by simp)) (mne h3 hxc (by simp)) fun cs hc => by rw [h3] at hc; cases hc
  stmR := h.stmR
  top := h.top.keep q1 fun id hi => by
   obtain ⟨_, h2, k, h3⟩ := h.top.tip id hi
   exact q5 id h2 (mne h3 h.obj (by simp)) (mne h3 hxc (by simp)) fun cs hc => by rw [h3] at hc; cases hc
  op := .inr ⟨r', cs', by simp, by omega, hr.2, q4, by rw [List.length_append, List.map_append]; exact q4'⟩
  fr := (frs_keep h.fr q1 fun y hy => by
   obtain ⟨f, _, hf⟩ := h.fr.mem y hy
   refine ⟨q5 y.1 hf.2.1 (mne hf.2.2.1 h.obj (by simp [PT, FT])) (fun e => hxb (List.mem_map.2 ⟨y, hy, e⟩)) (fun cs hc => by rw [hf.2.2.1] at hc; cases hc), fun id hi => ?_⟩
   obtain ⟨_, h2, k, h3⟩ := hf.ids id hi
   exact q5 id h2 (mne h3 h.obj (by simp)) (mne h3 hxc (by simp)) fun cs hc => by rw [h3] at hc; cases hc).app (.cons q3 .nil)
  nodb := by
   rw [List.map_append, List.nodup_append]
   refine ⟨h.nodb, by simp, fun y hy z hz => ?_⟩
   simp only [List.map_cons, List.map_nil, List.mem_singleton] at hz
   subst hz
   rintro rfl
   exact hxb hy
  nodt := by
   rw [List.flatMap_append, ← List.append_assoc]
   simpa using hxi }
theorem Bnd.pop {R : List Stm} {top : List Nat} {os : List Fr} {f : Fr} (h : Bnd R top (os ++ [f])) : Bnd R top os := ⟨h.hR, h.ht, fun g hg => h.ho g (by simp [hg]), by have := h.hl; simp at this; omega⟩
theorem pclose_ok {lo : Nat} {H : DH} {p md id off : Nat} {at_ e : DV} {ts : List Tok} {R : List Stm} {top : List Nat} {os : List Fr} {f : Fr} {stmv topv opv : DV} {es : List DV} {fs : List Fx} {ts0 : List Tok}
  (h : PI lo H p md (.sl id 3 off (ts.map Tok.dv)) at_ e R top (os ++ [f]) stmv topv opv es fs) (hb : Bnd R top (os ++ [f])) (hlo : lo ≤ H.next) (hts : TokOk ts) :
  WC cfg 44 [.ptr p 0] H fun v H' => Low lo H H' ∧ OneR lo H' p md id at_ e v (closeP ⟨ts0, R, top, os ++ [f]⟩ f ts) := by
 refine WC_of (show Has cfg 44 73 [.tmp 2] _ from ⟨by kernel_rfl, Tryz.f44, Tryz.func44, rfl, rfl, rfl, by kernel_rfl⟩) (by simp) ?_
 have hp := h.hp
 have hlop := h.lop
 have hm := h.obj
 have hosl : os.length < 100000 := by have := hb.hl; simp at this; omega
 obtain ⟨k, tr, rfl⟩ := hts.ne
 obtain ⟨fs', x, rfl, hfr', hfx⟩ := h.fr.last
 have hfl : (fs' ++ [x]).length = os.length + 1 := by rw [List.length_append, hfr'.len]; rfl
 obtain ⟨r, cs, rfl, hr1, hr2, hr3, hr4⟩ : ∃ r cs, opv = .hs r 1 0 (os.length + 1) ∧ lo ≤ r ∧ r < H.next ∧ H.m r = some (.row 112 cs) ∧ cs.take (os.length + 1) = (fs' ++ [x]).map fun x => .ptr x.1 0 := by
  rcases h.op with ⟨_, g⟩ | ⟨r, cs, g1, g2, g3, g4, g5⟩
  ·simp at g
  ·rw [hfl] at g1 g5; exact ⟨r, cs, g1, g2, g3, g4, g5⟩
 obtain ⟨b, vl, vm⟩ := x
 have hfx0 := hfx
 obtain ⟨hb1, hb2, hb3, hvl, hvm⟩ := hfx
 simp only at hb1 hb2 hb3 hvl hvm
 have hrp : r ≠ p := mne hr3 hm (by simp)
 have hbp : b ≠ p := mne hb3 hm (by simp [FT, PT])
 have hcd : List.drop os.length cs = .ptr b 0 :: List.drop (os.length + 1) cs := by
  have : cs[os.length]? = some (.ptr b 0) := by
   have hq : (cs.take (os.length + 1))[os.length]? = some (.ptr b 0) := by
    rw [hr4, List.map_append, List.getElem?_append_right (by simp [hfr'.len])]
    simp [hfr'.len]
   rw [List.getElem?_take, if_pos (by omega)] at hq; exact hq
  rw [List.drop_eq_getElem?_toList_append, this]; rfl
 have z2 : (((os.length + 1 : Nat) : Int) - 1).toNat = os.length := by omega
 have z3 : (0 : Int) ≤ ((os.length + 1 : Nat) : Int) - 1 := by omega
 have z4 : ((os.length + 1 : Nat) : Int) - 1 < ((os.length + 1 : Nat) : Int) := by omega
 have z5 : ((os.length + 1 : Nat) : Int) - 1 ≤ ((os.length + 1 : Nat) : Int) := by omega
 have wh : f.s.kind ≠ 5 ∨ f.other = true → closeP ⟨ts0, R, top, os ++ [f]⟩ f (k :: tr) = .inl (wholeP ⟨k :: tr, R, top, os⟩ f.s) := by
  intro hw
  unfold closeP
  cases tr with
  | nil => simp
  | cons k2 t2 =>
   simp only
   rw [if_neg (by rintro ⟨h1, h2, _⟩; rcases hw with h | h; exact h h1; rw [h2] at h; cases h)]
   simp
 have hlf : fs'.length = os.length := hfr'.len.symm
 have hpop : ∀ {H' : DH} {tok' : DV}, Frm [p] H H' → H'.m p = some (.cells PT [tok', .int .i64 md, stmv, topv, .hs r 1 0 os.length, at_, e]) → PI lo H' p md tok' at_ e R top os stmv topv (.hs r 1 0 fs'.length) es fs' := by
  intro H' tok' hF hm'
  have := pi_pop h (r := r) (by rw [hlf]) (H' := H'.set p (.cells PT [.sl id 3 off ((k :: tr).map Tok.dv), .int .i64 md, stmv, topv, .hs r 1 0 os.length, at_, e])) (hF.set (.inl (by simp))) (by rw [set_m, if_pos rfl, hlf])
  refine this.keep ⟨by simp only [set_next]; exact Nat.le_refl _, fun i hi hs => ?_⟩ (by rw [hm', hlf])
  rw [set_m, if_neg (by simpa using hs)]
 have hsv : StmV f.s (.agg [.int .i64 f.s.kind, .str f.s.s, .str f.s.t, .str f.s.u, .int .i64 f.s.n, .int .i64 f.s.at_, vl, vm]) := ⟨vl, vm, rfl, hvl.ints, hvm.ints⟩
 have hFs : ∀ o, Frm [p] H (H.set p o) := fun o => Frm.refl.set (.inl (by simp))
 by_cases hk5 : f.s.kind = 5
 ·have j1 : ((f.s.kind : Int) == 5) = true := by simp; omega
  cases hot : f.other with
  | true =>
   simp -dsimp (disch := first | omega | (apply DrawYes.mk; decide +kernel)) only [go_sem, hm, hrp, hbp, hr3, hb3, hcd, Nat.mul_one, z2, z3, z4, z5, j1, hot, Nat.sub_zero]
   refine call (pwhole_ok (s := f.s) (hpop (hFs _) (by rw [set_m, if_pos rfl])) hb.pop (by simp only [set_next]; omega) hsv) ?_
   rintro _ H2 ⟨rfl, hL2, sv, tv, ov, es2, fs2, hpi⟩
   simp -dsimp (disch := first | omega | (apply DrawYes.mk; decide +kernel)) only [go_sem]
   rw [wh (.inr hot)]
   exact ⟨(Low.frm ⟨Nat.le_refl _, fun _ _ => rfl⟩ (hFs _) hlop hlo).trans hL2, rfl, _, _, _, _, _, _, hpi⟩
  | false =>
   simp -dsimp (disch := first | omega | (apply DrawYes.mk; decide +kernel)) only [go_sem, hm, hrp, hbp, hr3, hb3, hcd, Nat.mul_one, z2, z3, z4, z5, j1, hot, Nat.sub_zero]
   have y1 : ¬ p = H.next := by omega
   have hlr : tr.length < 1000 := by have := hts.len; simp at this; omega
   refine call (pis_ok (id := id) (off := off) (k := k) (ts := tr) (a := .int .i64 md) (b := stmv) (c := topv) (d := .hs r 1 0 os.length) (e := at_) (f := e) (ss := [elseW]) (by simp only [new_next, set_next]; omega) (by omega) (by simp) (.inr ⟨by simp, _, _, rfl⟩) (by simp only [new_m, set_m, set_next, if_neg y1, if_pos])) ?_
   rintro _ H2 ⟨rfl, hF2, hm2⟩
   have hF02 : Frm [p] H H2 := ((hFs _).new).trans hF2
   have hle2 := hF02.le
   have hb2' : H2.m b = _ := hF02.get hb2 (by simpa using hbp) hb3
   by_cases hc : k.kind = 1 ∧ ([elseW] = [] ∨ k.text ∈ [elseW])
   ·rw [if_pos hc] at hm2
    have hcd2 : decide (k.kind = 1 ∧ ([elseW] = [] ∨ k.text ∈ [elseW])) = true := by simpa using hc
    have hcc : k.kind = 1 ∧ k.text = elseW := by simpa using hc
    have htr : TokOk tr := hts.tail (by omega)
    obtain ⟨k2, t2, rfl⟩ := htr.ne
    rw [hcd2]
    simp -dsimp (disch := first | omega | (apply DrawYes.mk; decide +kernel)) only [go_sem, hb2', hbp]
    refine call (pmust_ok (part := [123]) (no := os.length) (by omega) (by simp at hlr; omega) (fun H' => by simp -dsimp (disch := first | omega | (apply DrawYes.mk; decide +kernel)) only [go_sem]) hm2) ?_
    rintro v H3 ⟨hF3, ⟨he, rfl, hm3⟩ | ⟨he, rfl, hm3⟩⟩
    ·have hF03 : Frm [p] H H3 := hF02.trans hF3
     have hle3 := hF03.le
     have hb3' : H3.m b = _ := hF03.get hb2 (by simpa using hbp) hb3
     have hr3' : H3.m r = _ := hF03.get hr2 (by simpa using hrp) hr3
     have hpi3 := hpop hF03 hm3
     have hrb : r ≠ b := mne hr3 hb3 (by simp)
     have y2 : ¬ p = H3.next := by omega
     have y3 : ¬ r = H3.next := by omega
     have hpb : ¬ p = b := Ne.symm hbp
     simp -dsimp (disch := first | omega | (apply DrawYes.mk; decide +kernel)) only [go_sem, hb3', hbp, hm3, hpb, y2]
     have hcl : 0 + os.length * 1 ≤ cs.length := by
      have := congrArg List.length hr4
      simp [hlf] at this; omega
     refine app_hs (cs := cs) und_66 size_112 bytes_112 und_66 zero_112 rfl rfl (by decide) (by simp only [new_m, set_m, set_next, if_neg y3, if_neg hrb, hr3']) hcl rfl (by simp) (by simp; omega) (by simp; omega) ?_
     have y4 : ¬ p = H3.next + 1 := by omega
     have y5 : ¬ p = r := Ne.symm hrp
     simp -dsimp (disch := first | omega | (apply DrawYes.mk; decide +kernel)) only [go_sem, hb3', hbp, hm3, hpb, y2, y4, y5]
     have hcl2 : closeP ⟨ts0, R, top, os ++ [f]⟩ f (k :: k2 :: t2) = .inl ⟨t2, R, top, os ++ [{ f with other := true }]⟩ := by
      unfold closeP
      simp only
      rw [if_pos ⟨hk5, hot, hcc.1, hcc.2⟩]
      simp only [List.length_append, List.length_cons, List.length_nil, Nat.add_sub_cancel]
      rw [if_neg (by simpa using he)]
      simp
     rw [hcl2]
     have hnx := h.nodt
     have hnb := h.nodb
     have hfk : ∀ {H' : DH}, H3.next ≤ H'.next → (∀ id ∈ fids (b, vl, vm), H'.m id = H3.m id) → H'.m b = some (.cells FT [.int .i64 f.s.kind, .str f.s.s, .str f.s.t, .str f.s.u, .int .i64 f.s.n, .int .i64 f.s.at_, vl, vm, .bool true]) → FrV lo H' { f with other := true } (b, vl, vm) := by
      intro H' hn hk hm'
      have hk0 : ∀ id ∈ fids (b, vl, vm), H'.m id = H.m id := fun id hi => by
       obtain ⟨_, g2, kk, g3⟩ := hfx0.ids id hi
       rw [hk id hi]
       exact hF03.same id g2 (by simpa using mne g3 hm (by simp))
      exact ⟨hb1, by simp only; omega, hm', hvl.keep (by omega) fun id hi => hk0 id (by simp [fids, hi]), hvm.keep (by omega) fun id hi => hk0 id (by simp [fids, hi])⟩
     refine ⟨⟨by simp only [set_next, new_next, mov_next]; omega, fun i hi => ?_⟩, rfl, _, stmv, topv, _, es, _, pi_push2 hpi3 (x := (b, vl, vm)) (r' := H3.next + 1) (cs' := List.take (os.length * 1) cs ++ flat [.ptr b 0]) (by omega) (by simp only [set_next, new_next, mov_next]; omega) ⟨by omega, by simp only [set_next, new_next, mov_next]; omega⟩ ?_ (hfk (by simp only [set_next, new_next, mov_next]; omega) ?_ ?_) ?_ ?_ ?_ ?_ ?_ ⟨_, hb3'⟩⟩
     ·rw [set_m, if_neg (by omega)]
      simp only [mov_m, new_m, set_m, new_next, set_next, if_neg (by omega : ¬ i = H3.next + 1), if_neg (by omega : ¬ i = r), if_neg (by omega : ¬ i = H3.next), if_neg (by omega : ¬ i = b)]
      exact hF03.same i (by omega) (by simp; omega)
     ·rw [set_m, if_pos rfl, hlf]
     ·intro i hi
      obtain ⟨_, g2, kk, g3⟩ := hfx0.ids i hi
      rw [set_m, if_neg (mne g3 hm (by simp))]
      simp only [mov_m, new_m, set_m, new_next, set_next, if_neg (by omega : ¬ i = H3.next + 1), if_neg (mne g3 hr3 (by simp)), if_neg (by omega : ¬ i = H3.next), if_neg (mne g3 hb3 (by simp))]
     ·rw [set_m, if_neg hbp]
      simp only [mov_m, new_m, set_m, new_next, set_next, if_neg (by omega : ¬ b = H3.next + 1), if_neg (Ne.symm hrb), if_neg (by omega : ¬ b = H3.next), if_pos]
     ·rw [List.map_append, List.nodup_append] at hnb
      exact fun hmem => hnb.2.2 b hmem b (by simp) rfl
     ·rw [List.flatMap_append, ← List.append_assoc] at hnx
      simpa using hnx
     ·rw [set_m, if_neg (by omega)]
      simp only [mov_m, new_next, set_next, if_pos]
     ·have hr5 : List.take os.length cs = fs'.map fun x => .ptr x.1 0 := by
       have := congrArg (List.take os.length) hr4
       rw [List.take_take, Nat.min_eq_left (by omega)] at this
       rw [this, List.map_append, List.take_append_of_le_length (by simp [hlf]), List.take_of_length_le (by simp [hlf])]
      rw [Nat.mul_one, hr5, List.take_of_length_le (by simp [flat, DV.cells])]
      rfl
     ·intro i hi hip hib hnr
      have : ¬ i = r := by rintro rfl; exact hnr _ hr3'
      rw [set_m, if_neg hip]
      simp only [mov_m, new_m, set_m, new_next, set_next, if_neg (by omega : ¬ i = H3.next + 1), if_neg this, if_neg (by omega : ¬ i = H3.next), if_neg hib]
    ·simp -dsimp (disch := first | omega | (apply DrawYes.mk; decide +kernel)) only [go_sem]
     have hcl2 : closeP ⟨ts0, R, top, os ++ [f]⟩ f (k :: k2 :: t2) = .inr (.bad k2.pos (mustE [123] os.length k2)) := by
      unfold closeP
      simp only
      rw [if_pos ⟨hk5, hot, hcc.1, hcc.2⟩]
      simp only [List.length_append, List.length_cons, List.length_nil, Nat.add_sub_cancel]
      rw [if_pos (by simpa using he)]
     rw [hcl2]
     exact ⟨Low.frm ⟨Nat.le_refl _, fun _ _ => rfl⟩ (hF02.trans hF3) hlop hlo, rfl, _, _, _, _, _, hm3⟩
   ·rw [if_neg hc] at hm2
    have hcd2 : decide (k.kind = 1 ∧ ([elseW] = [] ∨ k.text ∈ [elseW])) = false := by simpa using hc
    have hcc : ¬ (k.kind = 1 ∧ k.text = elseW) := by simpa using hc
    rw [hcd2]
    simp -dsimp (disch := first | omega | (apply DrawYes.mk; decide +kernel)) only [go_sem, hb2', hbp]
    have hcl2 : closeP ⟨ts0, R, top, os ++ [f]⟩ f (k :: tr) = .inl (wholeP ⟨k :: tr, R, top, os⟩ f.s) := by
     unfold closeP
     cases tr with
     | nil => simp
     | cons k2 t2 =>
      simp only
      rw [if_neg (by rintro ⟨_, _, h1, h2⟩; exact hcc ⟨h1, h2⟩)]
      simp
    refine call (pwhole_ok (s := f.s) (hpop hF02 hm2) hb.pop (by omega) hsv) ?_
    rintro _ H3 ⟨rfl, hL3, sv, tv, ov, es2, fs2, hpi⟩
    simp -dsimp (disch := first | omega | (apply DrawYes.mk; decide +kernel)) only [go_sem]
    rw [hcl2]
    exact ⟨(Low.frm ⟨Nat.le_refl _, fun _ _ => rfl⟩ hF02 hlop hlo).trans hL3, rfl, _, _, _, _, _, _, hpi⟩
 ·have j1 : ((f.s.kind : Int) == 5) = false := by simp; omega
  simp -dsimp (disch := first | omega | (apply DrawYes.mk; decide +kernel)) only [go_sem, hm, hrp, hbp, hr3, hb3, hcd, Nat.mul_one, z2, z3, z4, z5, j1, Nat.sub_zero]
  refine call (pwhole_ok (s := f.s) (hpop (hFs _) (by rw [set_m, if_pos rfl])) hb.pop (by simp only [set_next]; omega) hsv) ?_
  rintro _ H2 ⟨rfl, hL2, sv, tv, ov, es2, fs2, hpi⟩
  simp -dsimp (disch := first | omega | (apply DrawYes.mk; decide +kernel)) only [go_sem]
  rw [wh (.inl hk5)]
  exact ⟨(Low.frm ⟨Nat.le_refl _, fun _ _ => rfl⟩ (hFs _) hlop hlo).trans hL2, rfl, _, _, _, _, _, _, hpi⟩
end Go.Proofs.YtcknfhhbijlobaaGreatDoor.D
namespace Go.Proofs.YtcknfhhbijlobaaGreatDoor.D
open Go
set_option linter.unusedVariables false
set_option linter.unusedSimpArgs false
set_option maxRecDepth 100000
theorem runL_take {s set : List UInt8} : s.take (runL s set) = s.takeWhile fun b => set.contains b := by
 have h : s = s.takeWhile (fun b => set.contains b) ++ s.dropWhile (fun b => set.contains b) := (List.takeWhile_append_dropWhile ..).symm
 have hl : runL s set = (s.takeWhile fun b => set.contains b).length := by
  have := congrArg List.length h
  rw [List.length_append] at this
  unfold runL; omega
 rw [hl, take_tw]
theorem tw_mem {α : Type} {p : α → Bool} : ∀ {s : List α} {b : α}, b ∈ s.takeWhile p → p b = true
 | [], b, h => by simp at h
 | a :: s, b, h => by
  rw [List.takeWhile_cons] at h
  split at h
  ·rename_i ha
   rcases List.mem_cons.1 h with h | h
   ·subst h; exact ha
   ·exact tw_mem h
  ·simp at h
instance (b : UInt8) : Decidable (isDig b) := by unfold isDig; exact inferInstance
theorem digits_dig : ∀ b ∈ digitsL, isDig b := by decide
def TG (t : Tok) : Prop := t.kind = 2 → (∀ b ∈ t.text, isDig b) ∧ 0 < t.text.length ∧ t.text.length ≤ 9
theorem nxt_tok {c : UInt8} {r : List UInt8} {k n a : Nat} {t : List UInt8} (h : nxt c r = .tok k t n) : k ≠ 0 ∧ TG ⟨k, t, a⟩ := by
 unfold nxt at h
 split at h
 ·cases h
 ·split at h
  ·cases h
  ·split at h
   ·split at h
    ·cases h
    ·cases h; exact ⟨by decide, fun h => by cases h⟩
   ·split at h
    ·rename_i hd
     split at h
     ·cases h
     ·rename_i h9
      cases h
      refine ⟨by decide, fun _ => ⟨fun b hb => ?_, ?_, ?_⟩⟩
      ·rw [runL_take] at hb
       have := tw_mem hb
       exact digits_dig b (by simpa using this)
      ·have h1 := runL_pos (r := r) hd
       have h2 := runL_le (s := c :: r) (set := digitsL)
       simp only [List.length_take]; omega
      ·simp only [List.length_take]; omega
    ·split at h
     ·split at h
      ·cases h; exact ⟨by decide, fun h => by cases h⟩
      ·cases h
     ·split at h
      ·cases h; exact ⟨by decide, fun h => by cases h⟩
      ·cases h
theorem nxt_err {c : UInt8} {r : List UInt8} {e : Nat} (h : nxt c r = .err e) : e ≠ 0 := by
 unfold nxt at h
 repeat' split at h
 all_goals first | (cases h; done) | (cases h; decide)
theorem scan_tok : ∀ (f : Nat) (s : List UInt8) (a : Nat) (l ts : List Tok) (p : Nat), s.length < f → (∀ t ∈ l, TG t) → l.length ≤ 400 → scan f s a l = (ts, p, 0) → (∀ t ∈ ts, TG t) ∧ ts.length ≤ 401 ∧ p = 0 ∧ ∃ e, ts.getLast? = some e ∧ e.kind = 0
 | 0, s, a, l, ts, p, hf, _, _, _ => by omega
 | f + 1, [], a, l, ts, p, hf, hl, hn, h => by
  rw [scan] at h
  cases h
  refine ⟨fun t ht => ?_, by simp; omega, rfl, _, by simp; rfl, rfl⟩
  rcases List.mem_append.1 ht with ht | ht
  ·exact hl t ht
  ·simp at ht; subst ht; exact fun h => by cases h
 | f + 1, c :: r, a, l, ts, p, hf, hl, hn, h => by
  rw [scan] at h
  have hx := nxt_n (c := c) (r := r)
  simp only [List.length_cons] at hf
  cases hq : nxt c r with
  | skip n =>
   rw [hq] at h hx
   simp only [Nx.n] at h hx
   exact scan_tok f _ _ _ _ _ (by simp; omega) hl hn h
  | err e =>
   rw [hq] at h
   simp only [Prod.mk.injEq] at h
   exact absurd h.2.2 (nxt_err hq)
  | tok k t n =>
   rw [hq] at h hx
   simp only [Nx.n] at h hx
   split at h
   ·simp at h
   ·refine scan_tok f _ _ _ _ _ (by simp; omega) (fun u hu => ?_) (by simp; omega) h
    rcases List.mem_append.1 hu with hu | hu
    ·exact hl u hu
    ·simp at hu; subst hu; exact (nxt_tok hq).2
theorem lex_tok {s : List UInt8} {ts : List Tok} {p : Nat} (h : lexAll s = (ts, p, 0)) : TokOk ts ∧ p = 0 := by
 unfold lexAll at h
 split at h
 ·simp at h
 ·obtain ⟨h1, h2, h3, h4⟩ := scan_tok _ _ _ _ _ _ (Nat.lt_succ_self _) (by simp) (by simp) h
  exact ⟨⟨h4, h1, by omega⟩, h3⟩
theorem scan_bad : ∀ (f : Nat) (s : List UInt8) (a : Nat) (l ts : List Tok) (p e : Nat), scan f s a l = (ts, p, e) → e ≠ 0 → ts = []
 | 0, s, a, l, ts, p, e, h, he => by rw [scan] at h; cases h; rfl
 | f + 1, [], a, l, ts, p, e, h, he => by rw [scan] at h; cases h; exact absurd rfl he
 | f + 1, c :: r, a, l, ts, p, e, h, he => by
  rw [scan] at h
  split at h
  ·exact scan_bad f _ _ _ _ _ _ h he
  ·cases h; rfl
  ·split at h
   ·cases h; rfl
   ·exact scan_bad f _ _ _ _ _ _ h he
def modeWord : List UInt8 := [109, 111, 100, 101]
def headP : List Tok → (Nat × List Tok) ⊕ Nat
 | [] => .inr 0
 | k :: r => if k.kind = 1 ∧ k.text = modeWord then (match r with
   | [] => .inr 0
   | k2 :: r2 => if k2.kind = 1 ∧ k2.text ∈ modeW then (match r2 with
     | [] => .inr 0
     | k3 :: r3 => if k3.kind = 4 ∧ k3.text = [59] then .inl (modeL k2.text, r3) else .inr k3.pos)
    else .inr k2.pos)
  else .inr k.pos
structure PR where
 mode : Nat
 R : List Stm
 top : List Nat
 at_ : Nat
 e : Nat
def finP (md : Nat) : PRes → PR
 | .ok R top => if 100 < R.length then ⟨0, [], [], 0, 4⟩ else ⟨md, R, top, 0, 0⟩
 | .bad p e => ⟨0, [], [], p, e⟩
def parseTs (ts : List Tok) : PR :=
 match headP ts with
 | .inr pos => ⟨0, [], [], pos, 20⟩
 | .inl (md, ts') => finP md (runP ⟨ts', [], [], []⟩)
def parseAll (src : List UInt8) : PR := if (lexAll src).2.2 = 0 then parseTs (lexAll src).1 else ⟨0, [], [], (lexAll src).2.1, (lexAll src).2.2⟩
theorem wordsP_len : ∀ (w : List (List UInt8)) (no : Nat) (s : Stm) (to : Nat) (ts : List Tok), match wordsP w no s to ts with | .bad _ _ => True | .whole _ t => t.length ≤ ts.length | .opens _ t => t.length ≤ ts.length
 | [], no, s, to, ts => by simp [wordsP]
 | p :: w, no, s, to, [] => by simp [wordsP]
 | p :: w, no, s, to, k :: ts => by
  rw [wordsP]
  by_cases h1 : mustE p no k ≠ 0
  ·rw [if_pos h1]; trivial
  ·rw [if_neg h1]
   by_cases h2 : p = [123]
   ·rw [if_pos h2]; simp
   ·rw [if_neg h2]
    have := wordsP_len w no (putP p to s k.text) (if isText p then to + 1 else to) ts
    generalize wordsP w no (putP p to s k.text) (if isText p then to + 1 else to) ts = W at this
    cases W <;> simp at this ⊢ <;> omega
theorem stepP_len {st st' : PSt} (h : stepP st = .inl st') : st'.ts.length < st.ts.length := by
 unfold stepP at h
 obtain ⟨ts, R, top, os⟩ := st
 cases ts with
 | nil => cases h
 | cons k ts =>
  simp only at h
  have one : oneP ⟨k :: ts, R, top, os⟩ k ts = .inl st' → st'.ts.length < (k :: ts).length := by
   intro h
   unfold oneP at h
   split at h
   ·cases h
   ·rename_i kd hk
    have := wordsP_len (partsL.getD kd []) os.length ⟨kd, [], [], [], 0, k.pos, [], []⟩ (if kd = 2 then 1 else 0) ts
    simp only at h
    split at h
    ·cases h
    ·rename_i s ts' hw
     rw [hw] at this
     cases h
     simp [wholeP] at this ⊢; omega
    ·rename_i s ts' hw
     rw [hw] at this
     cases h
     simp at this ⊢; omega
  have cl : ∀ f, closeP ⟨k :: ts, R, top, os⟩ f ts = .inl st' → st'.ts.length < (k :: ts).length := by
   intro f h
   unfold closeP at h
   split at h
   ·split at h
    ·split at h
     ·cases h
     ·cases h; simp; omega
    ·cases h; simp [wholeP]
   ·cases h; simp [wholeP]
  split at h
  ·split at h
   ·cases h
   ·exact one h
  ·split at h
   ·exact cl _ h
   ·exact one h
theorem goP_fuel : ∀ (n m : Nat) (st : PSt), st.ts.length < n → st.ts.length < m → goP n st = goP m st
 | 0, m, st, h, _ => by omega
 | n + 1, 0, st, _, h => by omega
 | n + 1, m + 1, st, h1, h2 => by
  rw [goP, goP]
  cases hs : stepP st with
  | inl st' =>
   have := stepP_len hs
   exact goP_fuel n m st' (by omega) (by omega)
  | inr r => rfl
theorem runP_step {st : PSt} : runP st = match stepP st with | .inl st' => runP st' | .inr r => r := by
 unfold runP
 rw [goP]
 cases hs : stepP st with
 | inl st' =>
  have := stepP_len hs
  exact goP_fuel _ _ _ (by omega) (by omega)
 | inr r => rfl
structure StOk (st : PSt) : Prop where
 tok : TokOk st.ts
 rl : st.R.length + st.ts.length ≤ 1000
 ol : st.os.length + st.ts.length ≤ 1000
 top : st.top.length ≤ st.R.length
 os : ∀ f ∈ st.os, f.s.l.length ≤ st.R.length ∧ f.s.m.length ≤ st.R.length
theorem StOk.bnd {st : PSt} (h : StOk st) : Bnd st.R st.top st.os := ⟨by have := h.rl; omega, h.top, h.os, by have := h.ol; omega⟩
theorem wordsP_ok : ∀ (w : List (List UInt8)) (no : Nat) (s : Stm) (to : Nat) (ts : List Tok), TokOk ts → match wordsP w no s to ts with | .bad _ _ => True | .whole u t => TokOk t ∧ t.length ≤ ts.length ∧ u.l = s.l ∧ u.m = s.m | .opens u t => TokOk t ∧ t.length ≤ ts.length ∧ u.l = s.l ∧ u.m = s.m
 | [], no, s, to, ts, h => by simp [wordsP, h]
 | p :: w, no, s, to, [], h => by simp [wordsP]
 | p :: w, no, s, to, k :: ts, h => by
  rw [wordsP]
  by_cases h1 : mustE p no k ≠ 0
  ·rw [if_pos h1]; trivial
  ·rw [if_neg h1]
   have ht := h.tail (mustE_kind (by simpa using h1))
   by_cases h2 : p = [123]
   ·rw [if_pos h2]; exact ⟨ht, by simp, rfl, rfl⟩
   ·rw [if_neg h2]
    have hlm : (putP p to s k.text).l = s.l ∧ (putP p to s k.text).m = s.m := by
     unfold putP
     split
     ·split <;> exact ⟨rfl, rfl⟩
     ·split <;> exact ⟨rfl, rfl⟩
    have := wordsP_ok w no (putP p to s k.text) (if isText p then to + 1 else to) ts ht
    rw [hlm.1, hlm.2] at this
    generalize wordsP w no (putP p to s k.text) (if isText p then to + 1 else to) ts = W at this
    cases W
    ·trivial
    ·exact ⟨this.1, by simp; omega, this.2.2⟩
    ·exact ⟨this.1, by simp; omega, this.2.2⟩
theorem addOs_len (n : Nat) : ∀ os : List Fr, (addOs n os).length = os.length
 | [] => rfl
 | [f] => by simp only [addOs]; split <;> rfl
 | f :: g :: r => by simp only [addOs, List.length_cons]; rw [addOs_len n (g :: r)]; rfl
theorem addOs_bnd (n m : Nat) : ∀ os : List Fr, (∀ f ∈ os, f.s.l.length ≤ m ∧ f.s.m.length ≤ m) → ∀ f ∈ addOs n os, f.s.l.length ≤ m + 1 ∧ f.s.m.length ≤ m + 1
 | [], h, f, hf => by simp [addOs] at hf
 | [g], h, f, hf => by
  have := h g (by simp)
  simp only [addOs, List.mem_singleton] at hf
  subst hf
  split <;> simp <;> omega
 | g :: g2 :: r, h, f, hf => by
  simp only [addOs, List.mem_cons] at hf
  rcases hf with hf | hf
  ·subst hf; have := h f (by simp); omega
  ·exact addOs_bnd n m (g2 :: r) (fun x hx => h x (by simp at hx ⊢; exact .inr hx)) f hf
theorem whole_ok {st : PSt} {s : Stm} (h : TokOk st.ts) (rl : st.R.length + st.ts.length + 1 ≤ 1000) (ol : st.os.length + st.ts.length ≤ 1000) (top : st.top.length ≤ st.R.length) (os : ∀ f ∈ st.os, f.s.l.length ≤ st.R.length ∧ f.s.m.length ≤ st.R.length) : StOk (wholeP st s) where
 tok := h
 rl := by simp [wholeP]; omega
 ol := by simp only [wholeP, addOs_len]; exact ol
 top := by simp only [wholeP, List.length_append, List.length_cons, List.length_nil]; split <;> simp <;> omega
 os := fun f hf => by simp only [wholeP, List.length_append, List.length_cons, List.length_nil] at hf ⊢; exact addOs_bnd _ _ _ os f hf
theorem stepP_ok {st st' : PSt} (h : StOk st) (hs : stepP st = .inl st') : StOk st' := by
 obtain ⟨ts, R, top, os⟩ := st
 obtain ⟨h1, h2, h3, h4, h5⟩ := h
 simp only at h1 h2 h3 h4 h5
 unfold stepP at hs
 cases ts with
 | nil => cases hs
 | cons k ts =>
  simp only at hs
  simp only [List.length_cons] at h2 h3
  have one : oneP ⟨k :: ts, R, top, os⟩ k ts = .inl st' → StOk st' := by
   intro h
   by_cases hk1 : k.kind = 1
   ·cases hkt : kindT k.text with
    | none => simp only [oneP, if_pos hk1, hkt] at h; cases h
    | some kd =>
     rw [oneP_eq hk1 hkt] at h
     have := wordsP_ok (partsL.getD kd []) os.length ⟨kd, [], [], [], 0, k.pos, [], []⟩ (if kd = 2 then 1 else 0) ts (h1.tail (by omega))
     generalize wordsP (partsL.getD kd []) os.length ⟨kd, [], [], [], 0, k.pos, [], []⟩ (if kd = 2 then 1 else 0) ts = W at this h
     cases W with
     | bad p e => cases h
     | whole s t =>
      cases h
      exact whole_ok this.1 (by simp only; omega) (by simp only; omega) h4 h5
     | opens s t =>
      cases h
      refine ⟨this.1, by simp only; omega, by simp; omega, h4, fun f hf => ?_⟩
      rcases List.mem_append.1 hf with hf | hf
      ·exact h5 f hf
      ·simp at hf; subst hf; simp [this.2.2.1, this.2.2.2]
   ·simp only [oneP, if_neg hk1] at h; cases h
  split at hs
  ·split at hs
   ·cases hs
   ·exact one hs
  ·rename_i f hf
   split at hs
   ·rename_i hcl
    have htk := h1.tail (by omega)
    have hdl : ∀ g ∈ os.dropLast, g ∈ os := fun g hg => List.dropLast_subset os hg
    have hfm : f ∈ os := List.mem_of_getLast? hf
    unfold closeP at hs
    split at hs
    ·rename_i k1 k2 ts2
     split at hs
     ·rename_i hc
      split at hs
      ·cases hs
      ·rename_i hm
       cases hs
       have ht2 := htk.tail (by rw [hc.2.2.1]; decide)
       have ht3 := ht2.tail (mustE_kind (by simpa using hm))
       have hc2 : (k1 :: k2 :: ts2).length = ts2.length + 2 := rfl
       have hol : 0 < os.length := by
        cases os with
        | nil => cases hfm
        | cons a l => simp
       refine ⟨ht3, by simp only; omega, by simp; omega, h4, fun g hg => ?_⟩
       rcases List.mem_append.1 hg with hg | hg
       ·exact h5 g (hdl g hg)
       ·simp at hg; subst hg; exact h5 f hfm
     ·cases hs
      have hc2 : (k1 :: k2 :: ts2).length = ts2.length + 2 := rfl
      exact whole_ok htk (by simp only; omega) (by simp; omega) h4 fun g hg => h5 g (hdl g hg)
    ·cases hs
     exact whole_ok htk (by simp only; omega) (by simp; omega) h4 fun g hg => h5 g (hdl g hg)
   ·exact one hs
theorem wordsP_bad : ∀ (w : List (List UInt8)) (no : Nat) (s : Stm) (to : Nat) (ts : List Tok) (p e : Nat), TokOk ts → wordsP w no s to ts = .bad p e → e ≠ 0
 | [], no, s, to, ts, p, e, h, hw => by simp [wordsP] at hw
 | q :: w, no, s, to, [], p, e, h, hw => by obtain ⟨_, h1, _⟩ := h.last; simp at h1
 | q :: w, no, s, to, k :: ts, p, e, h, hw => by
  rw [wordsP] at hw
  by_cases h1 : mustE q no k ≠ 0
  ·rw [if_pos h1] at hw; cases hw; exact h1
  ·rw [if_neg h1] at hw
   by_cases h2 : q = [123]
   ·rw [if_pos h2] at hw; cases hw
   ·rw [if_neg h2] at hw
    exact wordsP_bad w no _ _ ts p e (h.tail (mustE_kind (by simpa using h1))) hw
theorem oneP_bad {st : PSt} {k : Tok} {ts : List Tok} {p e : Nat} (h : TokOk (k :: ts)) (ho : oneP st k ts = .inr (.bad p e)) : e ≠ 0 := by
 obtain ⟨ts0, R, top, os⟩ := st
 by_cases hk1 : k.kind = 1
 ·cases hkt : kindT k.text with
  | none => simp only [oneP, if_pos hk1, hkt] at ho; cases ho; decide
  | some kd =>
   rw [oneP_eq hk1 hkt] at ho
   cases hw : wordsP (partsL.getD kd []) os.length ⟨kd, [], [], [], 0, k.pos, [], []⟩ (if kd = 2 then 1 else 0) ts with
   | bad p' e' =>
    rw [hw] at ho
    cases ho
    exact wordsP_bad _ _ _ _ _ _ _ (h.tail (by omega)) hw
   | whole s t => rw [hw] at ho; cases ho
   | opens s t => rw [hw] at ho; cases ho
 ·simp only [oneP, if_neg hk1] at ho; cases ho; decide
theorem closeP_bad {st : PSt} {f : Fr} {ts : List Tok} {p e : Nat} (ho : closeP st f ts = .inr (.bad p e)) : e ≠ 0 := by
 unfold closeP at ho
 split at ho
 ·split at ho
  ·split at ho
   ·rename_i h; cases ho; exact h
   ·cases ho
  ·cases ho
 ·cases ho
theorem oneP_nok {st : PSt} {k : Tok} {ts : List Tok} {R : List Stm} {top : List Nat} : oneP st k ts ≠ .inr (.ok R top) := by
 intro h
 unfold oneP at h
 split at h
 ·cases h
 ·split at h <;> cases h
end Go.Proofs.YtcknfhhbijlobaaGreatDoor.D
namespace Go.Proofs.YtcknfhhbijlobaaGreatDoor.D
open Go
set_option linter.unusedVariables false
set_option linter.unusedSimpArgs false
set_option maxRecDepth 100000
theorem PrgV.nil : PrgV [] [] .nils .nils := ⟨⟨[], .inl ⟨rfl, rfl⟩, .nil⟩, .inl ⟨rfl, rfl⟩⟩
theorem PI.prg {lo : Nat} {H : DH} {p md : Nat} {tok at_ e : DV} {R : List Stm} {top : List Nat} {os : List Fr} {stmv topv opv : DV} {es : List DV} {fs : List Fx} (h : PI lo H p md tok at_ e R top os stmv topv opv es fs) : PrgV R top stmv topv := by
 refine ⟨⟨es, ?_, h.stmR⟩, h.top.ints⟩
 rcases h.stm with ⟨h1, h2⟩ | ⟨id, off, k, h1, _⟩
 ·exact .inl ⟨h1, h2⟩
 ·exact .inr ⟨id, off, h1⟩
theorem parse_ok {s : List UInt8} {H : DH} (hs : s.length < 1000000) : WC cfg 16 [.str s] H fun v H' => Ext H H' ∧
  ∃ stmv topv, v = .tup [.agg [.int .i64 (parseAll s).mode, stmv, topv], .int .i64 (parseAll s).at_, .int .i64 (parseAll s).e] ∧ PrgV (parseAll s).R (parseAll s).top stmv topv := by
 refine WC_of (show Has cfg 16 106 [.cell 2 27, .tmp 3, .tmp 4] _ from ⟨by kernel_rfl, Tryz.f16, Tryz.func16, rfl, rfl, rfl, by kernel_rfl⟩) (by simp) ?_
 simp -dsimp (disch := first | omega | (apply DrawYes.mk; decide +kernel)) only [go_sem]
 refine call (all_ok hs) ?_
 rintro _ H1 ⟨hE, v', rfl, hsl⟩
 have hle1 := hE.le
 simp only [new_next] at hle1
 have hr1 : H1.m H.next = some (.cells 27 [.int .i64 0, .nils, .nils]) := hE.get (by simp only [new_next]; omega) (by rw [new_m, if_pos rfl])
 have hE1 : Ext H H1 := (Ext.refl.new).trans hE
 by_cases he : (lexAll s).2.2 = 0
 ·have j0 : (((lexAll s).2.2 : Int) != 0) = false := by simp; omega
  obtain ⟨⟨ts, at0, e0⟩, hq⟩ : ∃ q, lexAll s = q := ⟨_, rfl⟩
  rw [hq] at hsl he j0
  simp only at hsl he j0
  subst he
  obtain ⟨htk, rfl⟩ := lex_tok hq
  have hpa : parseAll s = parseTs ts := by unfold parseAll; rw [hq]; rfl
  rw [hpa, hq]
  obtain ⟨k, tr, rfl⟩ := htk.ne
  rcases hsl with ⟨_, g⟩ | ⟨id, off, kk, rfl, _⟩
  ·simp at g
  simp only
  have hlt := htk.len
  simp only [List.length_cons] at hlt
  simp -dsimp (disch := first | omega | (apply DrawYes.mk; decide +kernel)) only [go_sem, j0, ↓Y_at]
  obtain ⟨p, hp⟩ : ∃ p, p = H1.next := ⟨_, rfl⟩
  refine call (pis_ok (id := id) (off := off) (k := k) (ts := tr) (a := .int .i64 0) (b := .nils) (c := .nils) (d := .nils) (e := .int .i64 0) (f := .int .i64 0) (ss := [modeWord]) (by simp only [new_next]; omega) (by omega) (by simp) (.inr ⟨by simp, _, _, rfl⟩) (by simp only [new_m, new_next, if_neg (by omega : ¬ H1.next = H1.next + 1), if_pos])) ?_
  rintro _ H2 ⟨rfl, hF2, hm2⟩
  have hle2 := hF2.le
  simp only [new_next] at hle2
  have hL2 : Low H1.next H1 H2 := ⟨by omega, fun b hb => by
   rw [hF2.same b (by simp only [new_next]; omega) (by simp; omega)]
   simp only [new_m, new_next, if_neg (by omega : ¬ b = H1.next + 1), if_neg (by omega : ¬ b = H1.next)]⟩
  by_cases hc1 : k.kind = 1 ∧ ([modeWord] = [] ∨ k.text ∈ [modeWord])
  ·rw [if_pos hc1] at hm2
   have hcd1 : decide (k.kind = 1 ∧ ([modeWord] = [] ∨ k.text ∈ [modeWord])) = true := by simpa using hc1
   rw [hcd1]
   have hcc1 : k.kind = 1 ∧ k.text = modeWord := by simpa using hc1
   have htk1 := htk.tail (by omega)
   obtain ⟨k2, r2, rfl⟩ := htk1.ne
   simp only [List.length_cons] at hlt
   simp -dsimp (disch := first | omega | (apply DrawYes.mk; decide +kernel)) only [go_sem, ↓Y_at]
   refine call (pnext_ok (by omega) hm2) ?_
   rintro _ H3 ⟨rfl, hE3⟩
   have hle3 := hE3.le
   have hm3 := hE3.get (by omega) hm2
   have hL3 : Low H1.next H1 H3 := hL2.trans ⟨hE3.le, fun b hb => hE3.same b (by omega)⟩
   simp -dsimp (disch := first | omega | (apply DrawYes.mk; decide +kernel)) only [go_sem, ↓Y_at, Tok.dv]
   refine call mode_ok ?_
   rintro _ H4 ⟨rfl, hE4⟩
   have hle4 := hE4.le
   have hm4 := hE4.get (by omega) hm3
   have hL4 : Low H1.next H1 H4 := hL3.trans ⟨hE4.le, fun b hb => hE4.same b (by omega)⟩
   simp -dsimp (disch := first | omega | (apply DrawYes.mk; decide +kernel)) only [go_sem, ↓Y_at, hm4]
   refine call (pis_ok (id := id) (off := off + 1) (k := k2) (ts := r2) (a := .int .i64 (modeL k2.text)) (b := .nils) (c := .nils) (d := .nils) (e := .int .i64 0) (f := .int .i64 0) (ss := modeW) (by simp only [new_next, set_next]; omega) (by omega) (by decide) (.inr ⟨by decide, _, _, rfl⟩) (by simp only [new_m, set_m, new_next, set_next, if_neg (by omega : ¬ H1.next = H4.next), if_pos])) ?_
   rintro _ H5 ⟨rfl, hF5, hm5⟩
   have hle5 := hF5.le
   simp only [new_next, set_next] at hle5
   have hL5 : Low H1.next H1 H5 := hL4.trans ⟨by omega, fun b hb => by
    rw [hF5.same b (by simp only [new_next, set_next]; omega) (by simp; omega)]
    simp only [new_m, set_m, new_next, set_next, if_neg (by omega : ¬ b = H4.next), if_neg (by omega : ¬ b = H1.next)]⟩
   by_cases hc2 : k2.kind = 1 ∧ (modeW = [] ∨ k2.text ∈ modeW)
   ·rw [if_pos hc2] at hm5
    have hcd2 : decide (k2.kind = 1 ∧ (modeW = [] ∨ k2.text ∈ modeW)) = true := by simpa using hc2
    have hcc2 : k2.kind = 1 ∧ k2.text ∈ modeW := by simpa [modeW] using hc2
    rw [hcd2]
    have htk2 := htk1.tail (by omega)
    obtain ⟨k3, r3, rfl⟩ := htk2.ne
    simp only [List.length_cons] at hlt
    simp -dsimp (disch := first | omega | (apply DrawYes.mk; decide +kernel)) only [go_sem, ↓Y_at]
    refine call (pis_ok (id := id) (off := off + 1 + 1) (k := k3) (ts := r3) (a := .int .i64 (modeL k2.text)) (b := .nils) (c := .nils) (d := .nils) (e := .int .i64 0) (f := .int .i64 0) (ss := [[59]]) (by simp only [new_next]; omega) (by omega) (by decide) (.inr ⟨by decide, _, _, rfl⟩) (by simp only [new_m, new_next, if_neg (by omega : ¬ H1.next = H5.next), hm5])) ?_
    rintro _ H6 ⟨rfl, hF6, hm6⟩
    have hle6 := hF6.le
    simp only [new_next, set_next] at hle6
    have hL6 : Low H1.next H1 H6 := hL5.trans ⟨by omega, fun b hb => by
     rw [hF6.same b (by simp only [new_next, set_next]; omega) (by simp; omega)]
     simp only [new_m, new_next, if_neg (by omega : ¬ b = H5.next)]⟩
    by_cases hc3 : k3.kind = 4 ∧ (([[59]] : List (List UInt8)) = [] ∨ k3.text ∈ ([[59]] : List (List UInt8)))
    ·rw [if_pos hc3] at hm6
     have hcd3 : decide (k3.kind = 4 ∧ (([[59]] : List (List UInt8)) = [] ∨ k3.text ∈ ([[59]] : List (List UInt8)))) = true := by simpa using hc3
     have hcc3 : k3.kind = 4 ∧ k3.text = [59] := by simpa using hc3
     rw [hcd3]
     have htk3 := htk2.tail (by omega)
     simp -dsimp (disch := first | omega | (apply DrawYes.mk; decide +kernel)) only [go_sem, ↓Y_at]
     have hpt : parseTs (k :: k2 :: k3 :: r3) = finP (modeL k2.text) (runP ⟨r3, [], [], []⟩) := by
      unfold parseTs headP
      simp only [if_pos hcc1, if_pos hcc2, if_pos hcc3]
     refine YAt_loop (α := PSt) (fun st σ H' => PX H1.next H' H1.next (modeL k2.text) id (.int .i64 0) (.int .i64 0) st ∧ StOk st ∧ Low H1.next H1 H' ∧ runP st = runP ⟨r3, [], [], []⟩ ∧ σ 8 = .ptr H1.next 0 ∧ σ 2 = .ptr H.next 0) (fun st => st.ts.length) ⟨r3, [], [], []⟩ ⟨_, rfl, .inl rfl⟩ ?_ ?_
     ·simp -dsimp (disch := first | omega | (apply DrawYes.mk; decide +kernel)) only [go_sem]
      refine ⟨⟨_, _, _, _, [], [], ⟨by omega, Nat.le_refl _, hm6, .inl ⟨rfl, rfl⟩, .nil, .inl ⟨rfl, rfl⟩, .inl ⟨rfl, rfl⟩, .nil, by simp, by simp [slid]⟩⟩, ⟨htk3, by simp; omega, by simp; omega, by simp, by simp⟩, hL6⟩
     rintro ⟨ts4, R, top, os⟩ σ Hs ⟨⟨off4, stmv, topv, opv, es, fs, hpi⟩, hok, hLs, hrun, g8, g2⟩
     simp only at hpi hrun
     have hlos : H1.next ≤ Hs.next := hLs.le
     obtain ⟨k4, r4, rfl⟩ := hok.tok.ne
     have hl4 : r4.length < 1000 := by have := hok.tok.len; simp at this; omega
     have hms := hpi.obj
     have hps := hpi.hp
     have hol := hpi.opl
     rcases nil_or_last os with rfl | ⟨os', f, rfl⟩
     ·have hol0 : ∀ H', lenD cfg.T H' 66 opv = some (.int .i64 0) := hol
      simp -dsimp (disch := first | omega | (apply DrawYes.mk; decide +kernel)) only [go_sem, ↓Y_at, g2, g8, hms, hol0]
      refine call (pnext_ok hps hms) ?_
      rintro _ H7 ⟨rfl, hE7⟩
      have hL7 : Low H1.next H1 H7 := hLs.trans ⟨hE7.le, fun b hb => hE7.same b (by omega)⟩
      have hm7 := hE7.get hps hms
      by_cases hk0 : k4.kind = 0
      ·have q0 : ((k4.kind : Int) == 0) = true := by simp; omega
       have hstep : stepP ⟨k4 :: r4, R, top, []⟩ = .inr (.ok R top) := by simp [stepP, hk0]
       simp -dsimp (disch := first | omega | (apply DrawYes.mk; decide +kernel)) only [go_sem, ↓Y_at, g2, g8, hms, hol0, Tok.dv, q0]
       refine Hd_goto rfl ?_
       have hrb : H7.m H.next = some (.cells 27 [.int .i64 0, .nils, .nils]) := (hL7.same H.next (by omega)).trans hr1
       have hExt : ∀ o, Ext H (H7.set H.next o) := fun o => ⟨by have := hL7.le; simp only [set_next]; omega, fun b hb => by rw [set_m, if_neg (by omega)]; exact (hL7.same b (by omega)).trans (hE1.same b hb)⟩
       have y1 : ¬ H1.next = H.next := by omega
       have y2 : ¬ H.next = H1.next := by omega
       have hstl : ∀ H', lenD cfg.T H' 24 stmv = some (.int .i64 R.length) := fun H' => by rw [hpi.stm.len und_24, ← hpi.stmR.len]
       obtain ⟨c1, c2⟩ := hpi.stm.one
       obtain ⟨c3, c4⟩ := hpi.top.one
       have hres : parseTs (k :: k2 :: k3 :: r3) = finP (modeL k2.text) (.ok R top) := by
        rw [hpt, ← hrun, runP_step (st := ⟨k4 :: r4, R, top, []⟩), hstep]
       rw [hres]
       by_cases hbig : 100 < R.length
       ·have q1 : (100 : Int) < R.length := by omega
        simp -dsimp (disch := first | omega | (apply DrawYes.mk; decide +kernel)) only [go_sem, ↓Y_at, g2, g8, hm7, hstl, q1, hrb, y1, y2]
        simp only [finP, if_pos hbig]
        exact ⟨hExt _, _, _, rfl, PrgV.nil⟩
       ·have q1 : ¬ (100 : Int) < R.length := by omega
        simp -dsimp (disch := first | omega | (apply DrawYes.mk; decide +kernel)) only [go_sem, ↓Y_at, g2, g8, hm7, hstl, q1, hrb, y1, y2, c1, c2, c3, c4]
        simp only [finP, if_neg hbig]
        exact ⟨hExt _, _, _, rfl, hpi.prg⟩
      ·have q0 : ((k4.kind : Int) == 0) = false := by simp; omega
       have hstep : stepP ⟨k4 :: r4, R, top, []⟩ = oneP ⟨k4 :: r4, R, top, []⟩ k4 r4 := by simp [stepP, hk0]
       simp -dsimp (disch := first | omega | (apply DrawYes.mk; decide +kernel)) only [go_sem, ↓Y_at, g2, g8, hms, hm7, hol0, Tok.dv, q0]
       have hpi7 := hpi.keep (Frm.ext hE7) hm7
       refine call (pone_ok hpi7 hok.bnd (by have := hE7.le; omega) hok.tok) ?_
       rintro v H8 ⟨hL8, hR8⟩
       cases hst : oneP ⟨k4 :: r4, R, top, []⟩ k4 r4 with
       | inl st' =>
        rw [hst] at hR8
        obtain ⟨rfl, hpx⟩ := hR8
        simp -dsimp (disch := first | omega | (apply DrawYes.mk; decide +kernel)) only [go_sem, ↓Y_at, g2, g8]
        have hstep2 := hstep.trans hst
        exact ⟨st', ⟨hpx, stepP_ok hok hstep2, hL7.trans hL8, by rw [← hrun, runP_step (st := ⟨k4 :: r4, R, top, []⟩), hstep2]⟩, stepP_len hstep2⟩
       | inr r =>
        rw [hst] at hR8
        cases r with
        | ok R' top' => exact hR8.elim
        | bad pos er =>
         obtain ⟨rfl, b1, b2, b3, b4, b5, hm8⟩ := hR8
         have hne : er ≠ 0 := oneP_bad hok.tok hst
         have hL9 := hL7.trans hL8
         simp -dsimp (disch := first | omega | (apply DrawYes.mk; decide +kernel)) only [go_sem, ↓Y_at, g2, g8]
         have hres : parseTs (k :: k2 :: k3 :: r3) = ⟨0, [], [], pos, er⟩ := by
          rw [hpt, ← hrun, runP_step (st := ⟨k4 :: r4, R, top, []⟩), hstep.trans hst]
          rfl
         have hrb : H8.m H.next = some (.cells 27 [.int .i64 0, .nils, .nils]) := (hL9.same H.next (by omega)).trans hr1
         have hErr : ((er : Nat) : Int) ≠ 0 := by omega
         have hEb : ((((er : Nat) : Int) != 0)) = true := by simpa using hErr
         have hExt : ∀ o, Ext H (H8.set H.next o) := fun o => ⟨by have := hL9.le; simp only [set_next]; omega, fun b hb => by rw [set_m, if_neg (by omega)]; exact (hL9.same b (by omega)).trans (hE1.same b hb)⟩
         have y1 : ¬ H1.next = H.next := by omega
         have y2 : ¬ H.next = H1.next := by omega
         rw [YAt_eq]
         simp -dsimp (disch := first | omega | (apply DrawYes.mk; decide +kernel)) only [go_sem, ↓Y_at, hm8, hEb, g2, g8]
         refine Y_float [(4, 0, 12), (8, 0, 12)] (by decide +kernel) ?_
         simp -dsimp (disch := first | omega | (apply DrawYes.mk; decide +kernel)) only [go_sem, ↓Y_at, hm8, hEb, hrb, y1, y2, g2, g8]
         rw [hres]
         exact ⟨hExt _, _, _, rfl, PrgV.nil⟩
     ·have z1 : (((os' ++ [f]).length : Nat) : Int) = ((os'.length + 1 : Nat) : Int) := by simp
      have hol1 : ∀ H', lenD cfg.T H' 66 opv = some (.int .i64 (os'.length + 1 : Nat)) := fun H' => by rw [hol H', z1]
      have z2 : (((os'.length + 1 : Nat) : Int) == 0) = false := by simp; omega
      have z3 : (0 : Int) < ((os'.length + 1 : Nat) : Int) := by omega
      simp -dsimp (disch := first | omega | (apply DrawYes.mk; decide +kernel)) only [go_sem, ↓Y_at, g2, g8, hms, hol1, z2, z3]
      refine call (pis_ok (id := id) (off := off4) (k := k4) (ts := r4) (a := .int .i64 (modeL k2.text)) (b := stmv) (c := topv) (d := opv) (e := .int .i64 0) (f := .int .i64 0) (ss := [[125]]) (by simp only [new_next]; omega) (by omega) (by decide) (.inr ⟨by decide, _, _, rfl⟩) (by simp only [new_m, if_neg (by omega : ¬ H1.next = Hs.next), hms])) ?_
      rintro _ H7 ⟨rfl, hF7, hm7⟩
      have hle7 := hF7.le
      simp only [new_next] at hle7
      have hF07 : Frm [H1.next] Hs H7 := ((Frm.refl (H := Hs)).new).trans hF7
      have hL7 : Low H1.next H1 H7 := hLs.frm hF07 (Nat.le_refl _) (Nat.le_refl _)
      have hgl : (os' ++ [f]).getLast? = some f := by simp
      by_cases hc4 : k4.kind = 4 ∧ (([[125]] : List (List UInt8)) = [] ∨ k4.text ∈ ([[125]] : List (List UInt8)))
      ·rw [if_pos hc4] at hm7
       have hcd4 : decide (k4.kind = 4 ∧ (([[125]] : List (List UInt8)) = [] ∨ k4.text ∈ ([[125]] : List (List UInt8)))) = true := by simpa using hc4
       have hcc4 : k4.kind = 4 ∧ k4.text = [125] := by simpa using hc4
       rw [hcd4]
       have hpi7 := hpi.keep hF07 hm7
       have hstep : stepP ⟨k4 :: r4, R, top, os' ++ [f]⟩ = closeP ⟨k4 :: r4, R, top, os' ++ [f]⟩ f r4 := by simp only [stepP, hgl, if_pos hcc4]
       simp -dsimp (disch := first | omega | (apply DrawYes.mk; decide +kernel)) only [go_sem, ↓Y_at, g2, g8]
       refine call (pclose_ok (ts0 := k4 :: r4) hpi7 hok.bnd (by omega) (hok.tok.tail (by omega))) ?_
       rintro v H8 ⟨hL8, hR8⟩
       cases hst : closeP ⟨k4 :: r4, R, top, os' ++ [f]⟩ f r4 with
       | inl st' =>
        rw [hst] at hR8
        obtain ⟨rfl, hpx⟩ := hR8
        simp -dsimp (disch := first | omega | (apply DrawYes.mk; decide +kernel)) only [go_sem, ↓Y_at, g2, g8]
        have hstep2 := hstep.trans hst
        exact ⟨st', ⟨hpx, stepP_ok hok hstep2, hL7.trans hL8, by rw [← hrun, runP_step (st := ⟨k4 :: r4, R, top, os' ++ [f]⟩), hstep2]⟩, stepP_len hstep2⟩
       | inr r =>
        rw [hst] at hR8
        cases r with
        | ok R' top' => exact hR8.elim
        | bad pos er =>
         obtain ⟨rfl, b1, b2, b3, b4, b5, hm8⟩ := hR8
         have hne : er ≠ 0 := closeP_bad hst
         have hL9 := hL7.trans hL8
         simp -dsimp (disch := first | omega | (apply DrawYes.mk; decide +kernel)) only [go_sem, ↓Y_at, g2, g8]
         have hres : parseTs (k :: k2 :: k3 :: r3) = ⟨0, [], [], pos, er⟩ := by
          rw [hpt, ← hrun, runP_step (st := ⟨k4 :: r4, R, top, os' ++ [f]⟩), hstep.trans hst]
          rfl
         have hrb : H8.m H.next = some (.cells 27 [.int .i64 0, .nils, .nils]) := (hL9.same H.next (by omega)).trans hr1
         have hErr : ((er : Nat) : Int) ≠ 0 := by omega
         have hEb : ((((er : Nat) : Int) != 0)) = true := by simpa using hErr
         have hExt : ∀ o, Ext H (H8.set H.next o) := fun o => ⟨by have := hL9.le; simp only [set_next]; omega, fun b hb => by rw [set_m, if_neg (by omega)]; exact (hL9.same b (by omega)).trans (hE1.same b hb)⟩
         have y1 : ¬ H1.next = H.next := by omega
         have y2 : ¬ H.next = H1.next := by omega
         rw [YAt_eq]
         simp -dsimp (disch := first | omega | (apply DrawYes.mk; decide +kernel)) only [go_sem, ↓Y_at, hm8, hEb, g2, g8]
         refine Y_float [(4, 0, 12), (8, 0, 12)] (by decide +kernel) ?_
         simp -dsimp (disch := first | omega | (apply DrawYes.mk; decide +kernel)) only [go_sem, ↓Y_at, hm8, hEb, hrb, y1, y2, g2, g8]
         rw [hres]
         exact ⟨hExt _, _, _, rfl, PrgV.nil⟩
      ·rw [if_neg hc4] at hm7
       have hcd4 : decide (k4.kind = 4 ∧ (([[125]] : List (List UInt8)) = [] ∨ k4.text ∈ ([[125]] : List (List UInt8)))) = false := by simpa using hc4
       have hcc4 : ¬ (k4.kind = 4 ∧ k4.text = [125]) := by simpa using hc4
       rw [hcd4]
       have hpi7 := hpi.keep hF07 hm7
       have hstep : stepP ⟨k4 :: r4, R, top, os' ++ [f]⟩ = oneP ⟨k4 :: r4, R, top, os' ++ [f]⟩ k4 r4 := by simp only [stepP, hgl, if_neg hcc4]
       simp -dsimp (disch := first | omega | (apply DrawYes.mk; decide +kernel)) only [go_sem, ↓Y_at, g2, g8]
       refine call (pone_ok hpi7 hok.bnd (by omega) hok.tok) ?_
       rintro v H8 ⟨hL8, hR8⟩
       cases hst : oneP ⟨k4 :: r4, R, top, os' ++ [f]⟩ k4 r4 with
       | inl st' =>
        rw [hst] at hR8
        obtain ⟨rfl, hpx⟩ := hR8
        simp -dsimp (disch := first | omega | (apply DrawYes.mk; decide +kernel)) only [go_sem, ↓Y_at, g2, g8]
        have hstep2 := hstep.trans hst
        exact ⟨st', ⟨hpx, stepP_ok hok hstep2, hL7.trans hL8, by rw [← hrun, runP_step (st := ⟨k4 :: r4, R, top, os' ++ [f]⟩), hstep2]⟩, stepP_len hstep2⟩
       | inr r =>
        rw [hst] at hR8
        cases r with
        | ok R' top' => exact hR8.elim
        | bad pos er =>
         obtain ⟨rfl, b1, b2, b3, b4, b5, hm8⟩ := hR8
         have hne : er ≠ 0 := oneP_bad hok.tok hst
         have hL9 := hL7.trans hL8
         simp -dsimp (disch := first | omega | (apply DrawYes.mk; decide +kernel)) only [go_sem, ↓Y_at, g2, g8]
         have hres : parseTs (k :: k2 :: k3 :: r3) = ⟨0, [], [], pos, er⟩ := by
          rw [hpt, ← hrun, runP_step (st := ⟨k4 :: r4, R, top, os' ++ [f]⟩), hstep.trans hst]
          rfl
         have hrb : H8.m H.next = some (.cells 27 [.int .i64 0, .nils, .nils]) := (hL9.same H.next (by omega)).trans hr1
         have hErr : ((er : Nat) : Int) ≠ 0 := by omega
         have hEb : ((((er : Nat) : Int) != 0)) = true := by simpa using hErr
         have hExt : ∀ o, Ext H (H8.set H.next o) := fun o => ⟨by have := hL9.le; simp only [set_next]; omega, fun b hb => by rw [set_m, if_neg (by omega)]; exact (hL9.same b (by omega)).trans (hE1.same b hb)⟩
         have y1 : ¬ H1.next = H.next := by omega
         have y2 : ¬ H.next = H1.next := by omega
         rw [YAt_eq]
         simp -dsimp (disch := first | omega | (apply DrawYes.mk; decide +kernel)) only [go_sem, ↓Y_at, hm8, hEb, g2, g8]
         refine Y_float [(4, 0, 12), (8, 0, 12)] (by decide +kernel) ?_
         simp -dsimp (disch := first | omega | (apply DrawYes.mk; decide +kernel)) only [go_sem, ↓Y_at, hm8, hEb, hrb, y1, y2, g2, g8]
         rw [hres]
         exact ⟨hExt _, _, _, rfl, PrgV.nil⟩
    ·rw [if_neg hc3] at hm6
     have hcd3 : decide (k3.kind = 4 ∧ (([[59]] : List (List UInt8)) = [] ∨ k3.text ∈ ([[59]] : List (List UInt8)))) = false := by simpa using hc3
     rw [hcd3]
     simp -dsimp (disch := first | omega | (apply DrawYes.mk; decide +kernel)) only [go_sem, ↓Y_at]
     refine call (pfail_ok (er := 20) (by omega) hm6) ?_
     rintro _ H7 ⟨rfl, hF7, hm7⟩
     simp -dsimp (disch := first | omega | (apply DrawYes.mk; decide +kernel)) only [go_sem, ↓Y_at]
     have hL7 : Low H1.next H1 H7 := hL6.frm hF7 (Nat.le_refl _) (by omega)
     have hres : parseTs (k :: k2 :: k3 :: r3) = ⟨0, [], [], k3.pos, 20⟩ := by
      unfold parseTs headP
      simp only [if_pos hcc1, if_pos hcc2]
      rw [if_neg (by simpa using hc3)]
     have hrb : H7.m H.next = some (.cells 27 [.int .i64 0, .nils, .nils]) := (hL7.same H.next (by omega)).trans hr1
     have hErr : ((20 : Nat) : Int) ≠ 0 := by omega
     have hEb : ((((20 : Nat) : Int) != 0)) = true := rfl
     have hExt : ∀ o, Ext H (H7.set H.next o) := fun o => ⟨by have := hL7.le; simp only [set_next]; omega, fun b hb => by rw [set_m, if_neg (by omega)]; exact (hL7.same b (by omega)).trans (hE1.same b hb)⟩
     have y1 : ¬ H1.next = H.next := by omega
     have y2 : ¬ H.next = H1.next := by omega
     refine Hd_goto rfl ?_
     simp -dsimp (disch := first | omega | (apply DrawYes.mk; decide +kernel)) only [go_sem, ↓Y_at, hm7, hEb]
     refine Y_float [(4, 0, 12), (8, 0, 12)] (by decide +kernel) ?_
     simp -dsimp (disch := first | omega | (apply DrawYes.mk; decide +kernel)) only [go_sem, ↓Y_at, hm7, hEb, hrb, y1, y2]
     rw [hres]
     exact ⟨hExt _, _, _, rfl, PrgV.nil⟩
   ·rw [if_neg hc2] at hm5
    have hcd2 : decide (k2.kind = 1 ∧ (modeW = [] ∨ k2.text ∈ modeW)) = false := by simpa using hc2
    rw [hcd2]
    simp -dsimp (disch := first | omega | (apply DrawYes.mk; decide +kernel)) only [go_sem, ↓Y_at]
    refine call (pfail_ok (er := 20) (by omega) hm5) ?_
    rintro _ H7 ⟨rfl, hF7, hm7⟩
    simp -dsimp (disch := first | omega | (apply DrawYes.mk; decide +kernel)) only [go_sem, ↓Y_at]
    have hL7 : Low H1.next H1 H7 := hL5.frm hF7 (Nat.le_refl _) (by omega)
    have hres : parseTs (k :: k2 :: r2) = ⟨0, [], [], k2.pos, 20⟩ := by
     unfold parseTs headP
     simp only [if_pos hcc1]
     rw [if_neg (by simpa [modeW] using hc2)]
    have hrb : H7.m H.next = some (.cells 27 [.int .i64 0, .nils, .nils]) := (hL7.same H.next (by omega)).trans hr1
    have hErr : ((20 : Nat) : Int) ≠ 0 := by omega
    have hEb : ((((20 : Nat) : Int) != 0)) = true := rfl
    have hExt : ∀ o, Ext H (H7.set H.next o) := fun o => ⟨by have := hL7.le; simp only [set_next]; omega, fun b hb => by rw [set_m, if_neg (by omega)]; exact (hL7.same b (by omega)).trans (hE1.same b hb)⟩
    have y1 : ¬ H1.next = H.next := by omega
    have y2 : ¬ H.next = H1.next := by omega
    refine Hd_goto rfl ?_
    simp -dsimp (disch := first | omega | (apply DrawYes.mk; decide +kernel)) only [go_sem, ↓Y_at, hm7, hEb]
    refine Y_float [(4, 0, 12), (8, 0, 12)] (by decide +kernel) ?_
    simp -dsimp (disch := first | omega | (apply DrawYes.mk; decide +kernel)) only [go_sem, ↓Y_at, hm7, hEb, hrb, y1, y2]
    rw [hres]
    exact ⟨hExt _, _, _, rfl, PrgV.nil⟩
  ·rw [if_neg hc1] at hm2
   have hcd1 : decide (k.kind = 1 ∧ ([modeWord] = [] ∨ k.text ∈ [modeWord])) = false := by simpa using hc1
   rw [hcd1]
   simp -dsimp (disch := first | omega | (apply DrawYes.mk; decide +kernel)) only [go_sem, ↓Y_at]
   refine call (pfail_ok (er := 20) (by omega) hm2) ?_
   rintro _ H3 ⟨rfl, hF3, hm3⟩
   simp -dsimp (disch := first | omega | (apply DrawYes.mk; decide +kernel)) only [go_sem, ↓Y_at]
   have hL3 : Low H1.next H1 H3 := hL2.frm hF3 (Nat.le_refl _) (Nat.le_refl _)
   have hres : parseTs (k :: tr) = ⟨0, [], [], k.pos, 20⟩ := by
    unfold parseTs headP
    simp only [if_neg (show ¬ (k.kind = 1 ∧ k.text = modeWord) by simpa using hc1)]
   have hrb : H3.m H.next = some (.cells 27 [.int .i64 0, .nils, .nils]) := (hL3.same H.next (by omega)).trans hr1
   have hErr : ((20 : Nat) : Int) ≠ 0 := by omega
   have hEb : ((((20 : Nat) : Int) != 0)) = true := rfl
   have hExt : ∀ o, Ext H (H3.set H.next o) := fun o => ⟨by have := hL3.le; simp only [set_next]; omega, fun b hb => by rw [set_m, if_neg (by omega)]; exact (hL3.same b (by omega)).trans (hE1.same b hb)⟩
   have y1 : ¬ H1.next = H.next := by omega
   have y2 : ¬ H.next = H1.next := by omega
   refine Hd_goto rfl ?_
   simp -dsimp (disch := first | omega | (apply DrawYes.mk; decide +kernel)) only [go_sem, ↓Y_at, hm3, hEb]
   refine Y_float [(4, 0, 12), (8, 0, 12)] (by decide +kernel) ?_
   simp -dsimp (disch := first | omega | (apply DrawYes.mk; decide +kernel)) only [go_sem, ↓Y_at, hm3, hEb, hrb, y1, y2]
   rw [hres]
   exact ⟨hExt _, _, _, rfl, PrgV.nil⟩
 ·have j0 : (((lexAll s).2.2 : Int) != 0) = true := by simp; omega
  have hnil : lexAll s = ([], (lexAll s).2.1, (lexAll s).2.2) := by
   have : (lexAll s).1 = [] := by
    unfold lexAll at he ⊢
    split
    ·rfl
    ·rename_i h2
     rw [if_neg h2] at he
     exact scan_bad _ _ _ _ _ _ _ rfl he
   rw [← this]
  have hpa : parseAll s = ⟨0, [], [], (lexAll s).2.1, (lexAll s).2.2⟩ := by unfold parseAll; rw [if_neg he]
  rw [hpa]
  simp -dsimp (disch := first | omega | (apply DrawYes.mk; decide +kernel)) only [go_sem, j0, hr1]
  exact ⟨hE1.set (Nat.le_refl _), _, _, rfl, PrgV.nil⟩
end Go.Proofs.YtcknfhhbijlobaaGreatDoor.D
namespace Go.Proofs.YtcknfhhbijlobaaGreatDoor.D
open Go
set_option linter.unusedVariables false
set_option linter.unusedSimpArgs false
set_option maxRecDepth 100000
end Go.Proofs.YtcknfhhbijlobaaGreatDoor.D
namespace Go.Proofs.YtcknfhhbijlobaaGreatDoor.D
open Go
set_option linter.unusedVariables false
set_option linter.unusedSimpArgs false
theorem drop_run {s set : List UInt8} : s.drop (runL s set) = s.dropWhile fun b => set.contains b := by
 unfold runL
 have h := List.takeWhile_append_dropWhile (p := fun b => set.contains b) (l := s)
 have hl := congrArg List.length h
 rw [List.length_append] at hl
 have : s.length - (s.dropWhile fun b => set.contains b).length = (s.takeWhile fun b => set.contains b).length := by omega
 rw [this]
 have d := List.drop_left' (l₁ := s.takeWhile fun b => set.contains b) (l₂ := s.dropWhile fun b => set.contains b) rfl
 rw [h] at d
 exact d
end Go.Proofs.YtcknfhhbijlobaaGreatDoor.D
namespace Go.Proofs.YtcknfhhbijlobaaGreatDoor.D
open Go
set_option linter.unusedVariables false
set_option linter.unusedSimpArgs false
def unF : Nat → List UInt8 → Nat → List Tok × Option (Nat × Nat)
 | 0, _, _ => ([], none)
 | f + 1, [], _ => ([], none)
 | f + 1, c :: r, a => match nxt c r with
  | .skip n => unF f ((c :: r).drop n) (a + n)
  | .err e => ([], some (a, e))
  | .tok k t n => (⟨k, t, a⟩ :: (unF f ((c :: r).drop n) (a + n)).1, (unF f ((c :: r).drop n) (a + n)).2)
def un (s : List UInt8) (a : Nat) : List Tok × Option (Nat × Nat) := unF (s.length + 1) s a
theorem unF_fuel : ∀ (f g : Nat) (s : List UInt8) (a : Nat), s.length < f → s.length < g → unF f s a = unF g s a := by
 intro f
 induction f with
 | zero => intro g s a h; omega
 | succ f ih =>
  intro g s a h hg
  cases g with
  | zero => omega
  | succ g =>
   cases s with
   | nil => rfl
   | cons c r =>
    have hn := nxt_n (c := c) (r := r)
    simp only [List.length_cons] at h hg
    rw [unF, unF]
    cases hx : nxt c r with
    | err e => rfl
    | skip n =>
     simp only [hx, Nx.n] at hn ⊢
     exact ih _ _ _ (by simp; omega) (by simp; omega)
    | tok k t n =>
     simp only [hx, Nx.n] at hn ⊢
     rw [ih g ((c :: r).drop n) (a + n) (by simp; omega) (by simp; omega)]
theorem un_nil {a : Nat} : un [] a = ([], none) := rfl
theorem un_cons {c : UInt8} {r : List UInt8} {a : Nat} : un (c :: r) a = match nxt c r with
  | .skip n => un ((c :: r).drop n) (a + n)
  | .err e => ([], some (a, e))
  | .tok k t n => (⟨k, t, a⟩ :: (un ((c :: r).drop n) (a + n)).1, (un ((c :: r).drop n) (a + n)).2) := by
 have hn := nxt_n (c := c) (r := r)
 unfold un
 rw [List.length_cons, unF]
 cases hx : nxt c r with
 | err e => rfl
 | skip n =>
  simp only [hx, Nx.n] at hn ⊢
  exact unF_fuel _ _ _ _ (by simp; omega) (by omega)
 | tok k t n =>
  simp only [hx, Nx.n] at hn ⊢
  rw [unF_fuel (r.length + 1) (((c :: r).drop n).length + 1) _ _ (by simp; omega) (by omega)]
def capped (l : List Tok) (z : Nat) (u : List Tok × Option (Nat × Nat)) : List Tok × Nat × Nat :=
 if 400 < l.length + u.1.length then ([], 0, 4) else match u.2 with
  | none => (l ++ u.1 ++ [⟨0, [], z⟩], 0, 0)
  | some (p, e) => ([], p, e)
theorem scan_un : ∀ (m : Nat) (s : List UInt8) (a : Nat) (l : List Tok), s.length ≤ m → l.length ≤ 400 → scanT s a l = capped l (a + s.length) (un s a)
 | m, [], a, l, _, hl => by
  rw [scanT_nil, un_nil]
  simp only [capped, List.length_nil, Nat.add_zero]
  rw [if_neg (by omega)]
  simp
 | 0, c :: r, a, l, h, _ => by simp at h
 | m + 1, c :: r, a, l, h, hl => by
  have hn := nxt_n (c := c) (r := r)
  simp only [List.length_cons] at h
  rw [scanT_cons, un_cons]
  cases hx : nxt c r with
  | err e =>
   simp only [capped, List.length_nil, Nat.add_zero]
   rw [if_neg (by omega)]
  | skip n =>
   simp only [hx, Nx.n] at hn ⊢
   rw [scan_un m _ _ _ (by simp; omega) hl]
   congr 1
   simp; omega
  | tok k t n =>
   simp only [hx, Nx.n] at hn ⊢
   by_cases h4 : 400 ≤ l.length
   ·rw [if_pos h4]
    unfold capped
    rw [if_pos (by simp; omega)]
   ·rw [if_neg h4, scan_un m _ _ _ (by simp; omega) (by simp; omega)]
    unfold capped
    have e1 : (l ++ [(⟨k, t, a⟩ : Tok)]).length = l.length + 1 := by simp
    simp only [List.length_cons, List.length_drop]
    rw [e1]
    have e2 : a + n + (r.length + 1 - n) = a + (r.length + 1) := by omega
    rw [e2]
    have e3 : l.length + 1 + (un (List.drop n (c :: r)) (a + n)).1.length = l.length + ((un (List.drop n (c :: r)) (a + n)).1.length + 1) := by omega
    rw [e3]
    simp
theorem lexAll_un {s : List UInt8} (h : s.length ≤ 2000) : lexAll s = capped [] s.length (un s 0) := by
 rw [lexAll_eq (by omega), scan_un s.length s 0 [] (Nat.le_refl _) (by simp), Nat.zero_add]
theorem runL_tw {s set : List UInt8} : runL s set = (s.takeWhile fun b => set.contains b).length := by
 have h := congrArg List.length (List.takeWhile_append_dropWhile (p := fun b => set.contains b) (l := s))
 rw [List.length_append] at h
 unfold runL; omega
theorem un_dw : ∀ (s : List UInt8) (a : Nat), un (s.dropWhile fun b => blanksL.contains b) (a + runL s blanksL) = un s a
 | [], a => rfl
 | c :: r, a => by
  by_cases hc : c ∈ blanksL
  ·have hn : nxt c r = .skip (runL (c :: r) blanksL) := by unfold nxt; rw [if_pos hc]
   rw [un_cons (c := c) (r := r), hn]
   simp only
   rw [drop_run]
  ·have h1 : blanksL.contains c = false := by simpa using hc
   have e1 : (c :: r).dropWhile (fun b => blanksL.contains b) = c :: r := by rw [List.dropWhile_cons, if_neg (by rw [h1]; simp)]
   have e2 : runL (c :: r) blanksL = 0 := by rw [runL_tw, List.takeWhile_cons, if_neg (by rw [h1]; simp)]; rfl
   rw [e1, e2]; rfl
theorem un_blank {c : UInt8} {r : List UInt8} {a : Nat} (hc : c ∈ blanksL) : un (c :: r) a = un r (a + 1) := by
 have h1 : blanksL.contains c = true := by simpa using hc
 rw [← un_dw (c :: r) a, ← un_dw r (a + 1)]
 have e1 : (c :: r).dropWhile (fun b => blanksL.contains b) = r.dropWhile (fun b => blanksL.contains b) := by rw [List.dropWhile_cons, if_pos h1]
 have e2 : runL (c :: r) blanksL = runL r blanksL + 1 := by rw [runL_tw, runL_tw, List.takeWhile_cons, if_pos h1]; rfl
 rw [e1, e2]
 congr 1
 omega
end Go.Proofs.YtcknfhhbijlobaaGreatDoor.D
namespace Go.Proofs.YtcknfhhbijlobaaGreatDoor.D
open Go
set_option linter.unusedVariables false
set_option linter.unusedSimpArgs false
def push (t : Tok) (u : List Tok × Option (Nat × Nat)) : List Tok × Option (Nat × Nat) := (t :: u.1, u.2)
end Go.Proofs.YtcknfhhbijlobaaGreatDoor.D
