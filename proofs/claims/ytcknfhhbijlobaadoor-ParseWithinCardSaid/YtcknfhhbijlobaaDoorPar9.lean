import Derived.Test.YtcknfhhbijlobaaDoorPar8
namespace Go.Proofs.YtcknfhhbijlobaaDoor.D
open Go
set_option linter.unusedVariables false
set_option linter.unusedSimpArgs false
set_option maxRecDepth 100000

theorem pi_pop {lo : Nat} {H H' : DH} {p md : Nat} {tok at_ e : DV} {R : List Stm} {top : List Nat} {os : List Fr} {f : Fr} {stmv topv opv : DV} {es : List DV} {fs : List Fx} {x : Fx} (h : PI lo H p md tok at_ e R top (os ++ [f]) stmv topv opv es (fs ++ [x])) {r : Nat}
    (hop : opv = .hs r 1 0 (fs.length + 1)) (hF : Frm [p] H H') (hm : H'.m p = some (.cells PT [tok, .int .i64 md, stmv, topv, .hs r 1 0 fs.length, at_, e])) :
    PI lo H' p md tok at_ e R top os stmv topv (.hs r 1 0 fs.length) es fs := by
  obtain ⟨fs0, x0, hx, hfr', hfx⟩ := h.fr.last
  obtain ⟨rfl, hx2⟩ := List.append_inj' hx rfl
  have hnd := h.nodt
  rw [List.flatMap_append, ← List.append_assoc, List.nodup_append] at hnd
  exact {
    hp := Nat.lt_of_lt_of_le h.hp hF.le
    lop := h.lop
    obj := hm
    stm := h.stm.keep hF.le fun id hi => by
      obtain ⟨_, h2, k, h3⟩ := h.stm.tip id hi
      exact hF.same id h2 (by simpa using mne h3 h.obj (by simp))
    stmR := h.stmR
    top := h.top.keep hF.le fun id hi => by
      obtain ⟨_, h2, k, h3⟩ := h.top.tip id hi
      exact hF.same id h2 (by simpa using mne h3 h.obj (by simp))
    op := by
      rcases h.op with ⟨g, _⟩ | ⟨r', cs, g1, g2, g3, g4, g5⟩
      · rw [hop] at g; cases g
      · rw [hop] at g1
        obtain rfl : r = r' := (DV.hs.inj g1).1
        refine .inr ⟨r, cs, rfl, g2, Nat.lt_of_lt_of_le g3 hF.le, by rw [hF.same r g3 (by simpa using mne g4 h.obj (by simp))]; exact g4, ?_⟩
        have := congrArg (List.take fs.length) g5
        rw [List.take_take, List.length_append, Nat.min_eq_left (by simp)] at this
        rw [this, List.map_append, List.take_append_of_le_length (by simp), List.take_of_length_le (by simp)]
    fr := frs_keep hfr' hF.le fun y hy => by
      obtain ⟨f, _, hf⟩ := hfr'.mem y hy
      refine ⟨hF.same y.1 hf.2.1 (by simpa using mne hf.2.2.1 h.obj (by simp [PT, FT])), fun id hi => ?_⟩
      obtain ⟨_, h2, k, h3⟩ := hf.ids id hi
      exact hF.same id h2 (by simpa using mne h3 h.obj (by simp))
    nodb := by
      have := h.nodb
      rw [List.map_append, List.nodup_append] at this
      exact this.1
    nodt := hnd.1 }
theorem pi_push2 {lo : Nat} {H H' : DH} {p md : Nat} {tok at_ e : DV} {R : List Stm} {top : List Nat} {os : List Fr} {stmv topv opv : DV} {es : List DV} {fs : List Fx} (h : PI lo H p md tok at_ e R top os stmv topv opv es fs) {f : Fr} {x : Fx} {r' : Nat} {cs' : List DV}
    (hlo : lo ≤ H.next) (q1 : H.next ≤ H'.next) (hr : H.next ≤ r' ∧ r' < H'.next) (q2 : H'.m p = some (.cells PT [tok, .int .i64 md, stmv, topv, .hs r' 1 0 (fs.length + 1), at_, e]))
    (q3 : FrV lo H' f x) (hxb : x.1 ∉ fs.map (·.1)) (hxi : (slid topv ++ fs.flatMap fids ++ fids x).Nodup)
    (q4 : H'.m r' = some (.row 70 cs')) (q4' : cs'.take (fs.length + 1) = (fs.map fun x => .ptr x.1 0) ++ [.ptr x.1 0])
    (q5 : ∀ i, i < H.next → i ≠ p → i ≠ x.1 → (∀ cs, H.m i ≠ some (.row 70 cs)) → H'.m i = H.m i) (hxc : ∃ cs, H.m x.1 = some (.cells FT cs)) :
    PI lo H' p md tok at_ e R top (os ++ [f]) stmv topv (.hs r' 1 0 (fs.length + 1)) es (fs ++ [x]) := by
  obtain ⟨xcs, hxc⟩ := hxc
  exact {
    hp := Nat.lt_of_lt_of_le h.hp q1
    lop := h.lop
    obj := q2
    stm := h.stm.keep q1 fun id hi => by
      obtain ⟨_, h2, k, h3⟩ := h.stm.tip id hi
      exact q5 id h2 (mne h3 h.obj (by simp)) (mne h3 hxc (by simp)) fun cs hc => by rw [h3] at hc; cases hc
    stmR := h.stmR
    top := h.top.keep q1 fun id hi => by
      obtain ⟨_, h2, k, h3⟩ := h.top.tip id hi
      exact q5 id h2 (mne h3 h.obj (by simp)) (mne h3 hxc (by simp)) fun cs hc => by rw [h3] at hc; cases hc
    op := .inr ⟨r', cs', by simp, by omega, hr.2, q4, by rw [List.length_append, List.map_append]; exact q4'⟩
    fr := (frs_keep h.fr q1 fun y hy => by
      obtain ⟨f, _, hf⟩ := h.fr.mem y hy
      refine ⟨q5 y.1 hf.2.1 (mne hf.2.2.1 h.obj (by simp [PT, FT])) (fun e => hxb (List.mem_map.2 ⟨y, hy, e⟩)) (fun cs hc => by rw [hf.2.2.1] at hc; cases hc), fun id hi => ?_⟩
      obtain ⟨_, h2, k, h3⟩ := hf.ids id hi
      exact q5 id h2 (mne h3 h.obj (by simp)) (mne h3 hxc (by simp)) fun cs hc => by rw [h3] at hc; cases hc).app (.cons q3 .nil)
    nodb := by
      rw [List.map_append, List.nodup_append]
      refine ⟨h.nodb, by simp, fun y hy z hz => ?_⟩
      simp only [List.map_cons, List.map_nil, List.mem_singleton] at hz
      subst hz
      rintro rfl
      exact hxb hy
    nodt := by
      rw [List.flatMap_append, ← List.append_assoc]
      simpa using hxi }

theorem Bnd.pop {R : List Stm} {top : List Nat} {os : List Fr} {f : Fr} (h : Bnd R top (os ++ [f])) : Bnd R top os := ⟨h.hR, h.ht, fun g hg => h.ho g (by simp [hg]), by have := h.hl; simp at this; omega⟩
theorem pclose_ok {lo : Nat} {H : DH} {p md id off : Nat} {at_ e : DV} {ts : List Tok} {R : List Stm} {top : List Nat} {os : List Fr} {f : Fr} {stmv topv opv : DV} {es : List DV} {fs : List Fx} {ts0 : List Tok}
    (h : PI lo H p md (.sl id 3 off (ts.map Tok.dv)) at_ e R top (os ++ [f]) stmv topv opv es fs) (hb : Bnd R top (os ++ [f])) (hlo : lo ≤ H.next) (hts : TokOk ts) :
    WC cfg 22 [.ptr p 0] H fun v H' => Low lo H H' ∧ OneR lo H' p md id at_ e v (closeP ⟨ts0, R, top, os ++ [f]⟩ f ts) := by
  refine WC_of (show Has cfg 22 73 [.tmp 2] _ from ⟨by kernel_rfl, Tryd.f22, Tryd.func22, rfl, rfl, rfl, by kernel_rfl⟩) (by simp) ?_
  have hp := h.hp
  have hlop := h.lop
  have hm := h.obj
  have hosl : os.length < 100000 := by have := hb.hl; simp at this; omega
  obtain ⟨k, tr, rfl⟩ := hts.ne
  obtain ⟨fs', x, rfl, hfr', hfx⟩ := h.fr.last
  have hfl : (fs' ++ [x]).length = os.length + 1 := by rw [List.length_append, hfr'.len]; rfl
  obtain ⟨r, cs, rfl, hr1, hr2, hr3, hr4⟩ : ∃ r cs, opv = .hs r 1 0 (os.length + 1) ∧ lo ≤ r ∧ r < H.next ∧ H.m r = some (.row 70 cs) ∧ cs.take (os.length + 1) = (fs' ++ [x]).map fun x => .ptr x.1 0 := by
    rcases h.op with ⟨_, g⟩ | ⟨r, cs, g1, g2, g3, g4, g5⟩
    · simp at g
    · rw [hfl] at g1 g5; exact ⟨r, cs, g1, g2, g3, g4, g5⟩
  obtain ⟨b, vl, vm⟩ := x
  have hfx0 := hfx
  obtain ⟨hb1, hb2, hb3, hvl, hvm⟩ := hfx
  simp only at hb1 hb2 hb3 hvl hvm
  have hrp : r ≠ p := mne hr3 hm (by simp)
  have hbp : b ≠ p := mne hb3 hm (by simp [FT, PT])
  have hcd : List.drop os.length cs = .ptr b 0 :: List.drop (os.length + 1) cs := by
    have : cs[os.length]? = some (.ptr b 0) := by
      have hq : (cs.take (os.length + 1))[os.length]? = some (.ptr b 0) := by
        rw [hr4, List.map_append, List.getElem?_append_right (by simp [hfr'.len])]
        simp [hfr'.len]
      rw [List.getElem?_take, if_pos (by omega)] at hq; exact hq
    rw [List.drop_eq_getElem?_toList_append, this]; rfl
  have z2 : (((os.length + 1 : Nat) : Int) - 1).toNat = os.length := by omega
  have z3 : (0 : Int) ≤ ((os.length + 1 : Nat) : Int) - 1 := by omega
  have z4 : ((os.length + 1 : Nat) : Int) - 1 < ((os.length + 1 : Nat) : Int) := by omega
  have z5 : ((os.length + 1 : Nat) : Int) - 1 ≤ ((os.length + 1 : Nat) : Int) := by omega
  have wh : f.s.kind ≠ 5 ∨ f.other = true → closeP ⟨ts0, R, top, os ++ [f]⟩ f (k :: tr) = .inl (wholeP ⟨k :: tr, R, top, os⟩ f.s) := by
    intro hw
    unfold closeP
    cases tr with
    | nil => simp
    | cons k2 t2 =>
      simp only
      rw [if_neg (by rintro ⟨h1, h2, _⟩; rcases hw with h | h; exact h h1; rw [h2] at h; cases h)]
      simp
  have hlf : fs'.length = os.length := hfr'.len.symm
  have hpop : ∀ {H' : DH} {tok' : DV}, Frm [p] H H' → H'.m p = some (.cells PT [tok', .int .i64 md, stmv, topv, .hs r 1 0 os.length, at_, e]) → PI lo H' p md tok' at_ e R top os stmv topv (.hs r 1 0 fs'.length) es fs' := by
    intro H' tok' hF hm'
    have := pi_pop h (r := r) (by rw [hlf]) (H' := H'.set p (.cells PT [.sl id 3 off ((k :: tr).map Tok.dv), .int .i64 md, stmv, topv, .hs r 1 0 os.length, at_, e])) (hF.set (.inl (by simp))) (by rw [set_m, if_pos rfl, hlf])
    refine this.keep ⟨by simp only [set_next]; exact Nat.le_refl _, fun i hi hs => ?_⟩ (by rw [hm', hlf])
    rw [set_m, if_neg (by simpa using hs)]
  have hsv : StmV f.s (.agg [.int .i64 f.s.kind, .str f.s.s, .str f.s.t, .str f.s.u, .int .i64 f.s.n, .int .i64 f.s.at_, vl, vm]) := ⟨vl, vm, rfl, hvl.ints, hvm.ints⟩
  have hFs : ∀ o, Frm [p] H (H.set p o) := fun o => Frm.refl.set (.inl (by simp))
  by_cases hk5 : f.s.kind = 5
  · have j1 : ((f.s.kind : Int) == 5) = true := by simp; omega
    cases hot : f.other with
    | true =>
      simp -dsimp (disch := first | omega | (refine DrawYes.mk ?_; decide +kernel) | fail) only [go_sem, ↓reduceIte, reduceCtorEq, Nat.reduceEqDiff, Nat.reduceAdd, Nat.reduceLeDiff, Int.reduceLE, Int.reduceLT, Int.reduceBEq, Int.reduceBNe, Int.reduceEq, Nat.reduceBEq, Int.reduceToNat, Nat.reduceLT, Nat.reduceGT, Nat.reduceSub, Nat.reduceMul, Int.reduceAdd, Int.reduceSub, Int.reduceNeg, Int.reduceGE, Int.reduceGT, hm, hrp, hbp, hr3, hb3, hcd, Nat.mul_one, z2, z3, z4, z5, j1, hot, Nat.sub_zero]
      refine call (pwhole_ok (s := f.s) (hpop (hFs _) (by rw [set_m, if_pos rfl])) hb.pop (by simp only [set_next]; omega) hsv) ?_
      rintro _ H2 ⟨rfl, hL2, sv, tv, ov, es2, fs2, hpi⟩
      simp -dsimp (disch := first | omega | (refine DrawYes.mk ?_; decide +kernel) | fail) only [go_sem, ↓reduceIte, reduceCtorEq, Nat.reduceEqDiff, Nat.reduceAdd, Nat.reduceLeDiff, Int.reduceLE, Int.reduceLT, Int.reduceBEq, Int.reduceBNe, Int.reduceEq, Nat.reduceBEq, Int.reduceToNat, Nat.reduceLT, Nat.reduceGT, Nat.reduceSub, Nat.reduceMul, Int.reduceAdd, Int.reduceSub, Int.reduceNeg, Int.reduceGE, Int.reduceGT]
      rw [wh (.inr hot)]
      exact ⟨(Low.frm ⟨Nat.le_refl _, fun _ _ => rfl⟩ (hFs _) hlop hlo).trans hL2, rfl, _, _, _, _, _, _, hpi⟩
    | false =>
      simp -dsimp (disch := first | omega | (refine DrawYes.mk ?_; decide +kernel) | fail) only [go_sem, ↓reduceIte, reduceCtorEq, Nat.reduceEqDiff, Nat.reduceAdd, Nat.reduceLeDiff, Int.reduceLE, Int.reduceLT, Int.reduceBEq, Int.reduceBNe, Int.reduceEq, Nat.reduceBEq, Int.reduceToNat, Nat.reduceLT, Nat.reduceGT, Nat.reduceSub, Nat.reduceMul, Int.reduceAdd, Int.reduceSub, Int.reduceNeg, Int.reduceGE, Int.reduceGT, hm, hrp, hbp, hr3, hb3, hcd, Nat.mul_one, z2, z3, z4, z5, j1, hot, Nat.sub_zero]
      have y1 : ¬ p = H.next := by omega
      have hlr : tr.length < 1000 := by have := hts.len; simp at this; omega
      refine call (pis_ok (id := id) (off := off) (k := k) (ts := tr) (a := .int .i64 md) (b := stmv) (c := topv) (d := .hs r 1 0 os.length) (e := at_) (f := e) (ss := [elseW]) (by simp only [new_next, set_next]; omega) (by omega) (by simp) (.inr ⟨by simp, _, _, rfl⟩) (by simp only [new_m, set_m, set_next, if_neg y1, if_pos])) ?_
      rintro _ H2 ⟨rfl, hF2, hm2⟩
      have hF02 : Frm [p] H H2 := ((hFs _).new).trans hF2
      have hle2 := hF02.le
      have hb2' : H2.m b = _ := hF02.get hb2 (by simpa using hbp) hb3
      by_cases hc : k.kind = 1 ∧ ([elseW] = [] ∨ k.text ∈ [elseW])
      · rw [if_pos hc] at hm2
        have hcd2 : decide (k.kind = 1 ∧ ([elseW] = [] ∨ k.text ∈ [elseW])) = true := by simpa using hc
        have hcc : k.kind = 1 ∧ k.text = elseW := by simpa using hc
        have htr : TokOk tr := hts.tail (by omega)
        obtain ⟨k2, t2, rfl⟩ := htr.ne
        rw [hcd2]
        simp -dsimp (disch := first | omega | (refine DrawYes.mk ?_; decide +kernel) | fail) only [go_sem, ↓reduceIte, reduceCtorEq, Nat.reduceEqDiff, Nat.reduceAdd, Nat.reduceLeDiff, Int.reduceLE, Int.reduceLT, Int.reduceBEq, Int.reduceBNe, Int.reduceEq, Nat.reduceBEq, Int.reduceToNat, Nat.reduceLT, Nat.reduceGT, Nat.reduceSub, Nat.reduceMul, Int.reduceAdd, Int.reduceSub, Int.reduceNeg, Int.reduceGE, Int.reduceGT, hb2', hbp]
        refine call (pmust_ok (part := [123]) (no := os.length) (by omega) (by simp at hlr; omega) (fun H' => by simp -dsimp (disch := first | omega | (refine DrawYes.mk ?_; decide +kernel) | fail) only [go_sem, ↓reduceIte, reduceCtorEq, Nat.reduceEqDiff, Nat.reduceAdd, Nat.reduceLeDiff, Int.reduceLE, Int.reduceLT, Int.reduceBEq, Int.reduceBNe, Int.reduceEq, Nat.reduceBEq, Int.reduceToNat, Nat.reduceLT, Nat.reduceGT, Nat.reduceSub, Nat.reduceMul, Int.reduceAdd, Int.reduceSub, Int.reduceNeg, Int.reduceGE, Int.reduceGT]) hm2) ?_
        rintro v H3 ⟨hF3, ⟨he, rfl, hm3⟩ | ⟨he, rfl, hm3⟩⟩
        · have hF03 : Frm [p] H H3 := hF02.trans hF3
          have hle3 := hF03.le
          have hb3' : H3.m b = _ := hF03.get hb2 (by simpa using hbp) hb3
          have hr3' : H3.m r = _ := hF03.get hr2 (by simpa using hrp) hr3
          have hpi3 := hpop hF03 hm3
          have hrb : r ≠ b := mne hr3 hb3 (by simp)
          have y2 : ¬ p = H3.next := by omega
          have y3 : ¬ r = H3.next := by omega
          have hpb : ¬ p = b := Ne.symm hbp
          simp -dsimp (disch := first | omega | (refine DrawYes.mk ?_; decide +kernel) | fail) only [go_sem, ↓reduceIte, reduceCtorEq, Nat.reduceEqDiff, Nat.reduceAdd, Nat.reduceLeDiff, Int.reduceLE, Int.reduceLT, Int.reduceBEq, Int.reduceBNe, Int.reduceEq, Nat.reduceBEq, Int.reduceToNat, Nat.reduceLT, Nat.reduceGT, Nat.reduceSub, Nat.reduceMul, Int.reduceAdd, Int.reduceSub, Int.reduceNeg, Int.reduceGE, Int.reduceGT, hb3', hbp, hm3, hpb, y2]
          have hcl : 0 + os.length * 1 ≤ cs.length := by
            have := congrArg List.length hr4
            simp [hlf] at this; omega
          refine app_hs (cs := cs) und_47 size_70 bytes_70 und_47 zero_70 rfl rfl (by decide) (by simp only [new_m, set_m, set_next, if_neg y3, if_neg hrb, hr3']) hcl rfl (by simp) (by simp; omega) (by simp; omega) ?_
          have y4 : ¬ p = H3.next + 1 := by omega
          have y5 : ¬ p = r := Ne.symm hrp
          simp -dsimp (disch := first | omega | (refine DrawYes.mk ?_; decide +kernel) | fail) only [go_sem, ↓reduceIte, reduceCtorEq, Nat.reduceEqDiff, Nat.reduceAdd, Nat.reduceLeDiff, Int.reduceLE, Int.reduceLT, Int.reduceBEq, Int.reduceBNe, Int.reduceEq, Nat.reduceBEq, Int.reduceToNat, Nat.reduceLT, Nat.reduceGT, Nat.reduceSub, Nat.reduceMul, Int.reduceAdd, Int.reduceSub, Int.reduceNeg, Int.reduceGE, Int.reduceGT, hb3', hbp, hm3, hpb, y2, y4, y5]
          have hcl2 : closeP ⟨ts0, R, top, os ++ [f]⟩ f (k :: k2 :: t2) = .inl ⟨t2, R, top, os ++ [{ f with other := true }]⟩ := by
            unfold closeP
            simp only
            rw [if_pos ⟨hk5, hot, hcc.1, hcc.2⟩]
            simp only [List.length_append, List.length_cons, List.length_nil, Nat.add_sub_cancel]
            rw [if_neg (by simpa using he)]
            simp
          rw [hcl2]
          have hnx := h.nodt
          have hnb := h.nodb
          have hfk : ∀ {H' : DH}, H3.next ≤ H'.next → (∀ id ∈ fids (b, vl, vm), H'.m id = H3.m id) → H'.m b = some (.cells FT [.int .i64 f.s.kind, .str f.s.s, .str f.s.t, .str f.s.u, .int .i64 f.s.n, .int .i64 f.s.at_, vl, vm, .bool true]) → FrV lo H' { f with other := true } (b, vl, vm) := by
            intro H' hn hk hm'
            have hk0 : ∀ id ∈ fids (b, vl, vm), H'.m id = H.m id := fun id hi => by
              obtain ⟨_, g2, kk, g3⟩ := hfx0.ids id hi
              rw [hk id hi]
              exact hF03.same id g2 (by simpa using mne g3 hm (by simp))
            exact ⟨hb1, by simp only; omega, hm', hvl.keep (by omega) fun id hi => hk0 id (by simp [fids, hi]), hvm.keep (by omega) fun id hi => hk0 id (by simp [fids, hi])⟩
          refine ⟨⟨by simp only [set_next, new_next, mov_next]; omega, fun i hi => ?_⟩, rfl, _, stmv, topv, _, es, _, pi_push2 hpi3 (x := (b, vl, vm)) (r' := H3.next + 1) (cs' := List.take (os.length * 1) cs ++ flat [.ptr b 0]) (by omega) (by simp only [set_next, new_next, mov_next]; omega) ⟨by omega, by simp only [set_next, new_next, mov_next]; omega⟩ ?_ (hfk (by simp only [set_next, new_next, mov_next]; omega) ?_ ?_) ?_ ?_ ?_ ?_ ?_ ⟨_, hb3'⟩⟩
          · rw [set_m, if_neg (by omega)]
            simp only [mov_m, new_m, set_m, new_next, set_next, if_neg (by omega : ¬ i = H3.next + 1), if_neg (by omega : ¬ i = r), if_neg (by omega : ¬ i = H3.next), if_neg (by omega : ¬ i = b)]
            exact hF03.same i (by omega) (by simp; omega)
          · rw [set_m, if_pos rfl, hlf]
          · intro i hi
            obtain ⟨_, g2, kk, g3⟩ := hfx0.ids i hi
            rw [set_m, if_neg (mne g3 hm (by simp))]
            simp only [mov_m, new_m, set_m, new_next, set_next, if_neg (by omega : ¬ i = H3.next + 1), if_neg (mne g3 hr3 (by simp)), if_neg (by omega : ¬ i = H3.next), if_neg (mne g3 hb3 (by simp))]
          · rw [set_m, if_neg hbp]
            simp only [mov_m, new_m, set_m, new_next, set_next, if_neg (by omega : ¬ b = H3.next + 1), if_neg (Ne.symm hrb), if_neg (by omega : ¬ b = H3.next), if_pos]
          · rw [List.map_append, List.nodup_append] at hnb
            exact fun hmem => hnb.2.2 b hmem b (by simp) rfl
          · rw [List.flatMap_append, ← List.append_assoc] at hnx
            simpa using hnx
          · rw [set_m, if_neg (by omega)]
            simp only [mov_m, new_next, set_next, if_pos]
          · have hr5 : List.take os.length cs = fs'.map fun x => .ptr x.1 0 := by
              have := congrArg (List.take os.length) hr4
              rw [List.take_take, Nat.min_eq_left (by omega)] at this
              rw [this, List.map_append, List.take_append_of_le_length (by simp [hlf]), List.take_of_length_le (by simp [hlf])]
            rw [Nat.mul_one, hr5, List.take_of_length_le (by simp [flat, DV.cells])]
            rfl
          · intro i hi hip hib hnr
            have : ¬ i = r := by rintro rfl; exact hnr _ hr3'
            rw [set_m, if_neg hip]
            simp only [mov_m, new_m, set_m, new_next, set_next, if_neg (by omega : ¬ i = H3.next + 1), if_neg this, if_neg (by omega : ¬ i = H3.next), if_neg hib]
        · simp -dsimp (disch := first | omega | (refine DrawYes.mk ?_; decide +kernel) | fail) only [go_sem, ↓reduceIte, reduceCtorEq, Nat.reduceEqDiff, Nat.reduceAdd, Nat.reduceLeDiff, Int.reduceLE, Int.reduceLT, Int.reduceBEq, Int.reduceBNe, Int.reduceEq, Nat.reduceBEq, Int.reduceToNat, Nat.reduceLT, Nat.reduceGT, Nat.reduceSub, Nat.reduceMul, Int.reduceAdd, Int.reduceSub, Int.reduceNeg, Int.reduceGE, Int.reduceGT]
          have hcl2 : closeP ⟨ts0, R, top, os ++ [f]⟩ f (k :: k2 :: t2) = .inr (.bad k2.pos (mustE [123] os.length k2)) := by
            unfold closeP
            simp only
            rw [if_pos ⟨hk5, hot, hcc.1, hcc.2⟩]
            simp only [List.length_append, List.length_cons, List.length_nil, Nat.add_sub_cancel]
            rw [if_pos (by simpa using he)]
          rw [hcl2]
          exact ⟨Low.frm ⟨Nat.le_refl _, fun _ _ => rfl⟩ (hF02.trans hF3) hlop hlo, rfl, _, _, _, _, _, hm3⟩
      · rw [if_neg hc] at hm2
        have hcd2 : decide (k.kind = 1 ∧ ([elseW] = [] ∨ k.text ∈ [elseW])) = false := by simpa using hc
        have hcc : ¬ (k.kind = 1 ∧ k.text = elseW) := by simpa using hc
        rw [hcd2]
        simp -dsimp (disch := first | omega | (refine DrawYes.mk ?_; decide +kernel) | fail) only [go_sem, ↓reduceIte, reduceCtorEq, Nat.reduceEqDiff, Nat.reduceAdd, Nat.reduceLeDiff, Int.reduceLE, Int.reduceLT, Int.reduceBEq, Int.reduceBNe, Int.reduceEq, Nat.reduceBEq, Int.reduceToNat, Nat.reduceLT, Nat.reduceGT, Nat.reduceSub, Nat.reduceMul, Int.reduceAdd, Int.reduceSub, Int.reduceNeg, Int.reduceGE, Int.reduceGT, hb2', hbp]
        have hcl2 : closeP ⟨ts0, R, top, os ++ [f]⟩ f (k :: tr) = .inl (wholeP ⟨k :: tr, R, top, os⟩ f.s) := by
          unfold closeP
          cases tr with
          | nil => simp
          | cons k2 t2 =>
            simp only
            rw [if_neg (by rintro ⟨_, _, h1, h2⟩; exact hcc ⟨h1, h2⟩)]
            simp
        refine call (pwhole_ok (s := f.s) (hpop hF02 hm2) hb.pop (by omega) hsv) ?_
        rintro _ H3 ⟨rfl, hL3, sv, tv, ov, es2, fs2, hpi⟩
        simp -dsimp (disch := first | omega | (refine DrawYes.mk ?_; decide +kernel) | fail) only [go_sem, ↓reduceIte, reduceCtorEq, Nat.reduceEqDiff, Nat.reduceAdd, Nat.reduceLeDiff, Int.reduceLE, Int.reduceLT, Int.reduceBEq, Int.reduceBNe, Int.reduceEq, Nat.reduceBEq, Int.reduceToNat, Nat.reduceLT, Nat.reduceGT, Nat.reduceSub, Nat.reduceMul, Int.reduceAdd, Int.reduceSub, Int.reduceNeg, Int.reduceGE, Int.reduceGT]
        rw [hcl2]
        exact ⟨(Low.frm ⟨Nat.le_refl _, fun _ _ => rfl⟩ hF02 hlop hlo).trans hL3, rfl, _, _, _, _, _, _, hpi⟩
  · have j1 : ((f.s.kind : Int) == 5) = false := by simp; omega
    simp -dsimp (disch := first | omega | (refine DrawYes.mk ?_; decide +kernel) | fail) only [go_sem, ↓reduceIte, reduceCtorEq, Nat.reduceEqDiff, Nat.reduceAdd, Nat.reduceLeDiff, Int.reduceLE, Int.reduceLT, Int.reduceBEq, Int.reduceBNe, Int.reduceEq, Nat.reduceBEq, Int.reduceToNat, Nat.reduceLT, Nat.reduceGT, Nat.reduceSub, Nat.reduceMul, Int.reduceAdd, Int.reduceSub, Int.reduceNeg, Int.reduceGE, Int.reduceGT, hm, hrp, hbp, hr3, hb3, hcd, Nat.mul_one, z2, z3, z4, z5, j1, Nat.sub_zero]
    refine call (pwhole_ok (s := f.s) (hpop (hFs _) (by rw [set_m, if_pos rfl])) hb.pop (by simp only [set_next]; omega) hsv) ?_
    rintro _ H2 ⟨rfl, hL2, sv, tv, ov, es2, fs2, hpi⟩
    simp -dsimp (disch := first | omega | (refine DrawYes.mk ?_; decide +kernel) | fail) only [go_sem, ↓reduceIte, reduceCtorEq, Nat.reduceEqDiff, Nat.reduceAdd, Nat.reduceLeDiff, Int.reduceLE, Int.reduceLT, Int.reduceBEq, Int.reduceBNe, Int.reduceEq, Nat.reduceBEq, Int.reduceToNat, Nat.reduceLT, Nat.reduceGT, Nat.reduceSub, Nat.reduceMul, Int.reduceAdd, Int.reduceSub, Int.reduceNeg, Int.reduceGE, Int.reduceGT]
    rw [wh (.inl hk5)]
    exact ⟨(Low.frm ⟨Nat.le_refl _, fun _ _ => rfl⟩ (hFs _) hlop hlo).trans hL2, rfl, _, _, _, _, _, _, hpi⟩
end Go.Proofs.YtcknfhhbijlobaaDoor.D
