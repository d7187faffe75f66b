import Derived.Test.YtcknfhhbijlobaaDoorPar5
namespace Go.Proofs.YtcknfhhbijlobaaDoor.D
open Go
set_option linter.unusedVariables false
set_option linter.unusedSimpArgs false
set_option maxRecDepth 100000

/-- What is not the parser's stays: 'lo' is below all that it owns. -/
structure Low (lo : Nat) (H H' : DH) : Prop where
  le : H.next ≤ H'.next
  same : ∀ b, b < lo → H'.m b = H.m b
theorem nil_or_last {α : Type} (l : List α) : l = [] ∨ ∃ L b, l = L ++ [b] := by
  rcases List.eq_nil_or_concat l with h | ⟨L, b, h⟩
  · exact .inl h
  · exact .inr ⟨L, b, by rw [h, List.concat_eq_append]⟩
theorem pi_last {lo : Nat} {H H' : DH} {p md : Nat} {tok at_ e : DV} {R R2 : List Stm} {top : List Nat} {os' : List Fr} {f f' : Fr} {stmv stmv2 topv opv : DV} {es es2 : List DV} {fs' : List Fx} {b : Nat} {vl vm vl' vm' : DV}
    (h : PI lo H p md tok at_ e R top (os' ++ [f]) stmv topv opv es (fs' ++ [(b, vl, vm)])) (q1 : H.next ≤ H'.next) (q2 : H'.m p = some (.cells PT [tok, .int .i64 md, stmv2, topv, opv, at_, e]))
    (q3 : IsSl lo H' 33 8 stmv2 es2) (q3' : All2 StmV R2 es2) (q4 : FrV lo H' f' (b, vl', vm'))
    (q5 : ∀ i, i < H.next → i ∉ slid stmv → i ≠ p → i ≠ b → i ∉ fids (b, vl, vm) → H'.m i = H.m i)
    (q6 : ∀ id ∈ fids (b, vl', vm'), id ∈ fids (b, vl, vm) ∨ H.next ≤ id) (q7 : (fids (b, vl', vm')).Nodup) :
    PI lo H' p md tok at_ e R2 top (os' ++ [f']) stmv2 topv opv es2 (fs' ++ [(b, vl', vm')]) := by
  obtain ⟨fs0, x, hx, hfr', hfx⟩ := h.fr.last
  obtain ⟨rfl, hx2⟩ := List.append_inj' hx rfl
  obtain rfl : (b, vl, vm) = x := by simpa using hx2
  have hfb := hfx
  have nst : ∀ b o, H.m b = some o → (∀ k, o ≠ .tip 33 k true) → b ∉ slid stmv := by
    intro b o hb hne hc
    obtain ⟨_, _, k, g⟩ := h.stm.tip b hc
    rw [hb] at g; cases g; exact hne k rfl
  have nfx : ∀ b' o, H.m b' = some o → (∀ k, o ≠ .tip 3 k true) → b' ∉ fids (b, vl, vm) := by
    intro b' o hb hne hc
    obtain ⟨_, _, k, g⟩ := hfx.ids b' hc
    rw [hb] at g; cases g; exact hne k rfl
  have hnd := h.nodt
  rw [List.flatMap_append, ← List.append_assoc, List.nodup_append] at hnd
  obtain ⟨hnd1, hnd2, hnd3⟩ := hnd
  have htip : ∀ id, (∃ k, H.m id = some (.tip 3 k true)) → id < H.next → id ∈ slid topv ++ fs'.flatMap fids → H'.m id = H.m id := by
    rintro id ⟨k, g⟩ hlt hmem
    refine q5 id hlt (nst id _ g (by simp)) (mne g h.obj (by simp)) (mne g hfx.2.2.1 (by simp)) fun hc => ?_
    exact hnd3 id hmem id (by simpa using hc) rfl
  exact {
    hp := Nat.lt_of_lt_of_le h.hp q1
    lop := h.lop
    obj := q2
    stm := q3
    stmR := q3'
    top := h.top.keep q1 fun id hi => by
      obtain ⟨_, g2, k, g3⟩ := h.top.tip id hi
      exact htip id ⟨k, g3⟩ g2 (by simp [hi])
    op := by
      rcases h.op with ⟨_, g⟩ | ⟨r, cs, g1, g2, g3, g4, g5⟩
      · simp at g
      · refine .inr ⟨r, cs, by simpa using g1, g2, Nat.lt_of_lt_of_le g3 q1, ?_, by simpa using g5⟩
        rw [q5 r g3 (nst r _ g4 (by simp)) (mne g4 h.obj (by simp)) (mne g4 hfx.2.2.1 (by simp)) (nfx r _ g4 (by simp))]
        exact g4
    fr := (frs_keep hfr' q1 fun y hy => by
      obtain ⟨f0, _, hf0⟩ := hfr'.mem y hy
      have hyb : y.1 ≠ b := by
        have := h.nodb
        rw [List.map_append, List.nodup_append] at this
        exact fun e => this.2.2 y.1 (List.mem_map.2 ⟨y, hy, rfl⟩) b (by simp) e
      refine ⟨q5 y.1 hf0.2.1 (nst _ _ hf0.2.2.1 (by simp)) (mne hf0.2.2.1 h.obj (by simp [FT, PT])) hyb (nfx _ _ hf0.2.2.1 (by simp)), fun id hi => ?_⟩
      obtain ⟨_, g2, k, g3⟩ := hf0.ids id hi
      exact htip id ⟨k, g3⟩ g2 (by simp only [List.mem_append, List.mem_flatMap]; exact .inr ⟨y, hy, hi⟩)).app (.cons q4 .nil)
    nodb := by have := h.nodb; simpa using this
    nodt := by
      rw [List.flatMap_append, ← List.append_assoc, List.nodup_append]
      refine ⟨hnd1, by simpa using q7, fun i hi j hj => ?_⟩
      have hj' : j ∈ fids (b, vl', vm') := by simpa using hj
      rcases q6 j hj' with g | g
      · exact hnd3 i hi j (by simpa using g)
      · have : i < H.next := by
          rcases List.mem_append.1 hi with hi | hi
          · exact (h.top.tip i hi).2.1
          · rw [List.mem_flatMap] at hi
            obtain ⟨y, hy, hi⟩ := hi
            obtain ⟨f0, _, hf0⟩ := hfr'.mem y hy
            exact (hf0.ids i hi).2.1
        omega }
theorem addOs_last (n : Nat) : ∀ (os : List Fr) (f : Fr), addOs n (os ++ [f]) = os ++ [if f.other then { f with s := { f.s with m := f.s.m ++ [n] } } else { f with s := { f.s with l := f.s.l ++ [n] } }]
  | [], f => rfl
  | [a], f => rfl
  | a :: b :: os, f => by
    have := addOs_last n (b :: os) f
    simp only [List.cons_append] at this ⊢
    rw [addOs]
    rw [this]
    simp
theorem pwhole_ok {lo : Nat} {H : DH} {p md : Nat} {tok at_ e : DV} {R : List Stm} {top : List Nat} {os : List Fr} {stmv topv opv : DV} {es : List DV} {fs : List Fx} (h : PI lo H p md tok at_ e R top os stmv topv opv es fs) (hb : Bnd R top os) (hlo : lo ≤ H.next)
    {s : Stm} {d : DV} (hd : StmV s d) :
    WC cfg 35 [.ptr p 0, d] H fun v H' => v = .tup [] ∧ Low lo H H' ∧ ∃ stmv topv opv es fs, PI lo H' p md tok at_ e (R ++ [s]) (if os.isEmpty then top ++ [R.length] else top) (addOs R.length os) stmv topv opv es fs := by
  refine WC_of (show Has cfg 35 82 [] _ from ⟨by kernel_rfl, Tryd.f35, Tryd.func35, rfl, rfl, rfl, by kernel_rfl⟩) (by simp) ?_
  obtain ⟨d1, d2, d3, d4, d5, d6, d7, d8, rfl, o1, o2, o3, o4, o5, o6, o7, o8⟩ := hd.ones
  have hp := h.hp
  have hm := h.obj
  have h0 : ¬ p = H.next := by omega
  have h1 : ¬ p = H.next + 1 := by omega
  have hel : es.length = R.length := h.stmR.len.symm
  have hRb := hb.hR
  have hn1 : ∀ H', lenD cfg.T H' 23 stmv = some (.int .i64 R.length) := fun H' => by rw [h.stm.len und_23, hel]
  simp -dsimp (disch := first | omega | (refine DrawYes.mk ?_; decide +kernel) | fail) only [go_sem, ↓reduceIte, reduceCtorEq, Nat.reduceEqDiff, Nat.reduceAdd, Nat.reduceLeDiff, Int.reduceLE, Int.reduceLT, Int.reduceBEq, Int.reduceBNe, Int.reduceEq, Nat.reduceBEq, Int.reduceToNat, Nat.reduceLT, Nat.reduceGT, Nat.reduceSub, Nat.reduceMul, Int.reduceAdd, Int.reduceSub, Int.reduceNeg, Int.reduceGE, Int.reduceGT, hm, h0, hn1, o1, o2, o3, o4, o5, o6, o7, o8]
  refine Y_float [(5, 0, 8)] (by decide +kernel) ?_
  simp -dsimp (disch := first | omega | (refine DrawYes.mk ?_; decide +kernel) | fail) only [go_sem, ↓reduceIte, reduceCtorEq, Nat.reduceEqDiff, Nat.reduceAdd, Nat.reduceLeDiff, Int.reduceLE, Int.reduceLT, Int.reduceBEq, Int.reduceBNe, Int.reduceEq, Nat.reduceBEq, Int.reduceToNat, Nat.reduceLT, Nat.reduceGT, Nat.reduceSub, Nat.reduceMul, Int.reduceAdd, Int.reduceSub, Int.reduceNeg, Int.reduceGE, Int.reduceGT, hm, h0, h1, hn1, o1, o2, o3, o4, o5, o6, o7, o8]
  have hst := (h.stm.new (o := .cells 33 [d1, d2, d3, d4, d5, d6, d7, d8])).new (o := .tip 33 1 true)
  refine app2 (lo := lo) (es := es) (new := [.agg [d1, d2, d3, d4, d5, d6, d7, d8]]) und_23 size_33 bytes_33 und_23 zero_33 rfl rfl (by decide) hst rfl (by simp) (by simp only [new_next]; omega) (by simp; omega) (by simp; omega) ?_
  intro stmv2 H2 i2 hs2 hn2 hf2 hi2 ho2
  have hp2 : p ≠ i2 := by
    rcases ho2 with g | g
    · obtain ⟨_, _, k, g2⟩ := h.stm.tip i2 (by rw [g]; simp)
      exact mne hm g2 (by simp)
    · rw [g]; simp only [new_next]; omega
  have hm2 : H2.m p = some (.cells PT [tok, .int .i64 md, stmv, topv, opv, at_, e]) := by rw [hf2 p hp2]; simp only [new_m, new_next, if_neg h0, if_neg h1, hm]
  simp only [new_next] at hn2
  have o9 : stmv2.cells = [stmv2] ∧ stmv2.one = true := hs2.one
  obtain ⟨o9, o10⟩ := o9
  have hk2 : ∀ b, b < H.next → b ∉ slid stmv → H2.m b = H.m b := by
    intro b hb hns
    have hbi : b ≠ i2 := by
      rintro rfl
      rcases ho2 with g | g
      · exact hns (by rw [g]; simp)
      · rw [g] at hb; simp only [new_next] at hb; omega
    rw [hf2 b hbi]; simp only [new_m, new_next, if_neg (by omega : ¬ b = H.next), if_neg (by omega : ¬ b = H.next + 1)]
  have nst : ∀ b o, H.m b = some o → (∀ k, o ≠ .tip 33 k true) → b ∉ slid stmv := by
    intro b o hb hne hc
    obtain ⟨_, _, k, g⟩ := h.stm.tip b hc
    rw [hb] at g; cases g; exact hne k rfl
  obtain ⟨_, hi2n, k2, hi2t⟩ := hs2.tip i2 (by rw [hi2]; simp)
  have hR2 : All2 StmV (R ++ [s]) (es ++ [.agg [d1, d2, d3, d4, d5, d6, d7, d8]]) := h.stmR.app (.cons hd .nil)
  have htl := hb.ht
  rcases nil_or_last os with rfl | ⟨os', f, rfl⟩
  · have hfs : fs = [] := by have := h.fr; cases this; rfl
    subst hfs
    have hlen0 : ∀ H', lenD cfg.T H' 47 opv = some (.int .i64 0) := by
      intro H'
      rcases h.op with ⟨rfl, _⟩ | ⟨r, cs, rfl, _⟩ <;> simp -dsimp (disch := first | omega | (refine DrawYes.mk ?_; decide +kernel) | fail) only [go_sem, ↓reduceIte, reduceCtorEq, Nat.reduceEqDiff, Nat.reduceAdd, Nat.reduceLeDiff, Int.reduceLE, Int.reduceLT, Int.reduceBEq, Int.reduceBNe, Int.reduceEq, Nat.reduceBEq, Int.reduceToNat, Nat.reduceLT, Nat.reduceGT, Nat.reduceSub, Nat.reduceMul, Int.reduceAdd, Int.reduceSub, Int.reduceNeg, Int.reduceGE, Int.reduceGT, List.length_nil]
    simp -dsimp (disch := first | omega | (refine DrawYes.mk ?_; decide +kernel) | fail) only [go_sem, ↓reduceIte, reduceCtorEq, Nat.reduceEqDiff, Nat.reduceAdd, Nat.reduceLeDiff, Int.reduceLE, Int.reduceLT, Int.reduceBEq, Int.reduceBNe, Int.reduceEq, Nat.reduceBEq, Int.reduceToNat, Nat.reduceLT, Nat.reduceGT, Nat.reduceSub, Nat.reduceMul, Int.reduceAdd, Int.reduceSub, Int.reduceNeg, Int.reduceGE, Int.reduceGT, hm2, h0, h1, o9, o10, hlen0]
    have ktop : ∀ id ∈ slid topv, id < H.next ∧ H2.m id = H.m id ∧ id ≠ p ∧ ∃ k, H.m id = some (.tip 3 k true) := by
      intro id hi
      obtain ⟨_, g2, k, g3⟩ := h.top.tip id hi
      exact ⟨g2, hk2 id g2 (nst id _ g3 (by simp)), mne g3 hm (by simp), k, g3⟩
    have htop : IsSl lo ((H2.set p (.cells PT [tok, .int .i64 md, stmv2, topv, opv, at_, e])).new (.tip 3 1 true)) 3 1 topv (top.map intV) := by
      refine h.top.keep (by simp only [new_next, set_next]; omega) fun id hi => ?_
      obtain ⟨g1, g2, g3, _⟩ := ktop id hi
      simp only [new_m, set_m, new_next, set_next, if_neg g3, if_neg (by omega : ¬ id = H2.next), g2]
    refine app2 (lo := lo) (es := top.map intV) (new := [.int .i64 R.length]) und_24 size_3 bytes_3 und_24 zero_3 rfl rfl (by decide) htop rfl (by simp) (by simp only [new_next, set_next]; omega) (by simp; omega) (by simp; omega) ?_
    intro topv2 H4 i4 hs4 hn4 hf4 hi4 ho4
    simp only [new_next, set_next] at hn4
    obtain ⟨o11, o12⟩ := hs4.one
    have hp4 : p ≠ i4 := by
      rcases ho4 with g | g
      · exact (ktop i4 (by rw [g]; simp)).2.2.1.symm
      · rw [g]; simp only [new_next, set_next]; omega
    have h24 : i2 ≠ i4 := by
      rcases ho4 with g | g
      · obtain ⟨_, g2, _, k, g4⟩ := ktop i4 (by rw [g]; simp)
        exact mne hi2t (g2.trans g4) (by simp)
      · rw [g]; simp only [new_next, set_next]; omega
    have h2n : ¬ p = H2.next := by omega
    have hm4 : H4.m p = some (.cells PT [tok, .int .i64 md, stmv2, topv, opv, at_, e]) := by rw [hf4 p hp4]; simp only [new_m, set_m, new_next, set_next, if_neg h2n, if_pos]
    simp -dsimp (disch := first | omega | (refine DrawYes.mk ?_; decide +kernel) | fail) only [go_sem, ↓reduceIte, reduceCtorEq, Nat.reduceEqDiff, Nat.reduceAdd, Nat.reduceLeDiff, Int.reduceLE, Int.reduceLT, Int.reduceBEq, Int.reduceBNe, Int.reduceEq, Nat.reduceBEq, Int.reduceToNat, Nat.reduceLT, Nat.reduceGT, Nat.reduceSub, Nat.reduceMul, Int.reduceAdd, Int.reduceSub, Int.reduceNeg, Int.reduceGE, Int.reduceGT, hm4, o11, o12]
    obtain ⟨hlo4, hi4n, k4, hi4t⟩ := hs4.tip i4 (by rw [hi4]; simp)
    have hk4 : ∀ o b, b < H.next → b ∉ slid stmv → b ∉ slid topv → b ≠ p → (H4.set p o).m b = H.m b := by
      intro o b g1 g2 g3 g4
      have hb4 : b ≠ i4 := by
        rintro rfl
        rcases ho4 with g | g
        · exact g3 (by rw [g]; simp)
        · rw [g] at g1; simp only [new_next, set_next] at g1; omega
      rw [set_m, if_neg g4, hf4 b hb4]
      simp only [new_m, set_m, new_next, set_next, if_neg g4, if_neg (by omega : ¬ b = H2.next)]
      exact hk2 b g1 g2
    have hlop := h.lop
    refine ⟨⟨by simp only [set_next]; omega, fun b hb => hk4 _ b (by omega) (fun hc => by have := (h.stm.tip b hc).1; omega) (fun hc => by have := (h.top.tip b hc).1; omega) (by omega)⟩, stmv2, topv2, opv, es ++ [.agg [d1, d2, d3, d4, d5, d6, d7, d8]], [], ?_⟩
    exact {
      hp := by simp only [set_next]; omega
      lop := h.lop
      obj := by rw [set_m, if_pos rfl]
      stm := hs2.keep (by simp only [set_next]; omega) fun id hi => by
        rw [hi2] at hi
        simp only [List.mem_singleton] at hi
        subst hi
        rw [set_m, if_neg (Ne.symm hp2), hf4 id h24]
        simp only [new_m, set_m, new_next, set_next, if_neg (Ne.symm hp2), if_neg (by omega : ¬ id = H2.next)]
      stmR := hR2
      top := by
        have := hs4.keep (H' := H4.set p (.cells PT [tok, .int .i64 md, stmv2, topv2, opv, at_, e])) (Nat.le_refl _) fun id hi => by
          rw [hi4] at hi
          simp only [List.mem_singleton] at hi
          subst hi
          rw [set_m, if_neg (Ne.symm hp4)]
        simpa [intV] using this
      op := h.op.imp id fun ⟨r, cs, q1, q2, q3, q4, q5⟩ => ⟨r, cs, q1, q2, by simp only [set_next]; omega, by
        rw [hk4 _ r q3 (nst r _ q4 (by simp)) (fun hc => by obtain ⟨_, _, k, g⟩ := h.top.tip r hc; rw [q4] at g; cases g) (mne q4 hm (by simp))]
        exact q4, q5⟩
      fr := .nil
      nodb := by simp
      nodt := by simp [hi4] }
  · obtain ⟨fs', x, rfl, hfr', hfx⟩ := h.fr.last
    have hfl : (fs' ++ [x]).length = os'.length + 1 := by rw [List.length_append, hfr'.len]; rfl
    obtain ⟨r, cs, rfl, hr1, hr2, hr3, hr4⟩ : ∃ r cs, opv = .hs r 1 0 (os'.length + 1) ∧ lo ≤ r ∧ r < H.next ∧ H.m r = some (.row 70 cs) ∧ cs.take (os'.length + 1) = (fs' ++ [x]).map fun x => .ptr x.1 0 := by
      rcases h.op with ⟨_, g⟩ | ⟨r, cs, g1, g2, g3, g4, g5⟩
      · simp at g
      · rw [hfl] at g1 g5; exact ⟨r, cs, g1, g2, g3, g4, g5⟩
    obtain ⟨b, vl, vm⟩ := x
    obtain ⟨hb1, hb2, hb3, hvl, hvm⟩ := hfx
    simp only at hb1 hb2 hb3 hvl hvm
    have hrow : H2.m r = some (.row 70 cs) := (hk2 r hr2 (nst r _ hr3 (by simp))).trans hr3
    have hbm : H2.m b = _ := (hk2 b hb2 (nst b _ hb3 (by simp))).trans hb3
    have hrp : r ≠ p := mne hr3 hm (by simp)
    have hbp : b ≠ p := mne hb3 hm (by simp [FT, PT])
    have hcd : List.drop os'.length cs = .ptr b 0 :: List.drop (os'.length + 1) cs := by
      have : cs[os'.length]? = some (.ptr b 0) := by
        have hq : (cs.take (os'.length + 1))[os'.length]? = some (.ptr b 0) := by
          rw [hr4, List.map_append, List.getElem?_append_right (by simp [hfr'.len])]
          simp [hfr'.len]
        rw [List.getElem?_take, if_pos (by omega)] at hq; exact hq
      rw [List.drop_eq_getElem?_toList_append, this]; rfl
    have hosl : os'.length < 100000 := by have := hb.hl; simp at this; omega
    have z1 : (((os'.length + 1 : Nat) : Int) == 0) = false := by simp; omega
    have z2 : (((os'.length + 1 : Nat) : Int) - 1).toNat = os'.length := by omega
    have z3 : (0 : Int) ≤ ((os'.length + 1 : Nat) : Int) - 1 := by omega
    have z4 : ((os'.length + 1 : Nat) : Int) - 1 < ((os'.length + 1 : Nat) : Int) := by omega
    cases hot : f.other with
    | true =>
      simp -dsimp (disch := first | omega | (refine DrawYes.mk ?_; decide +kernel) | fail) only [go_sem, ↓reduceIte, reduceCtorEq, Nat.reduceEqDiff, Nat.reduceAdd, Nat.reduceLeDiff, Int.reduceLE, Int.reduceLT, Int.reduceBEq, Int.reduceBNe, Int.reduceEq, Nat.reduceBEq, Int.reduceToNat, Nat.reduceLT, Nat.reduceGT, Nat.reduceSub, Nat.reduceMul, Int.reduceAdd, Int.reduceSub, Int.reduceNeg, Int.reduceGE, Int.reduceGT, hm2, h0, h1, o9, o10, hrow, hbm, hrp, hbp, hcd, Nat.mul_one, hot, z1, z2, z3, z4]
      have kv : ∀ id ∈ slid vm, id < H.next ∧ H2.m id = H.m id ∧ id ≠ p ∧ id ≠ b ∧ ∃ k, H.m id = some (.tip 3 k true) := by
        intro id hi
        obtain ⟨_, g2, k, g3⟩ := hvm.tip id hi
        exact ⟨g2, hk2 id g2 (nst id _ g3 (by simp)), mne g3 hm (by simp), mne g3 hb3 (by simp), k, g3⟩
      have kw : ∀ id ∈ slid vl, id < H.next ∧ H2.m id = H.m id ∧ id ≠ p ∧ id ≠ b ∧ ∃ k, H.m id = some (.tip 3 k true) := by
        intro id hi
        obtain ⟨_, g2, k, g3⟩ := hvl.tip id hi
        exact ⟨g2, hk2 id g2 (nst id _ g3 (by simp)), mne g3 hm (by simp), mne g3 hb3 (by simp), k, g3⟩
      have hvv : IsSl lo ((H2.set p (.cells PT [tok, .int .i64 md, stmv2, topv, .hs r 1 0 (os'.length + 1), at_, e])).new (.tip 3 1 true)) 3 1 vm (f.s.m.map intV) := by
        refine hvm.keep (by simp only [new_next, set_next]; omega) fun id hi => ?_
        obtain ⟨g1, g2, g3, _⟩ := kv id hi
        simp only [new_m, set_m, new_next, set_next, if_neg g3, if_neg (by omega : ¬ id = H2.next), g2]
      have hfb := hb.ho f (by simp)
      refine app2 (lo := lo) (es := f.s.m.map intV) (new := [.int .i64 R.length]) und_24 size_3 bytes_3 und_24 zero_3 rfl rfl (by decide) hvv rfl (by simp) (by simp only [new_next, set_next]; omega) (by simp; omega) (by simp; omega) ?_
      intro v2 H4 i4 hs4 hn4 hf4 hi4 ho4
      simp only [new_next, set_next] at hn4
      obtain ⟨o11, o12⟩ := hs4.one
      obtain ⟨hlo4, hi4n, k4, hi4t⟩ := hs4.tip i4 (by rw [hi4]; simp)
      have hx4 : ∀ i, i < H2.next → i ∉ slid vm → i ≠ i4 := by
        rintro i g1 g2 rfl
        rcases ho4 with g | g
        · exact g2 (by rw [g]; simp)
        · rw [g] at g1; simp only [new_next, set_next] at g1; omega
      have hp4 : p ≠ i4 := hx4 p (by omega) fun hc => (kv p hc).2.2.1 rfl
      have hb4 : b ≠ i4 := hx4 b (by omega) fun hc => (kv b hc).2.2.2.1 rfl
      have h24 : i2 ≠ i4 := hx4 i2 hi2n fun hc => by
        obtain ⟨_, g2, _, _, k, g4⟩ := kv i2 hc
        exact mne hi2t (g2.trans g4) (by simp) rfl
      have h2p : ¬ p = H2.next := by omega
      have h2b : ¬ b = H2.next := by omega
      have hbm4 : H4.m b = some (.cells FT [.int .i64 f.s.kind, .str f.s.s, .str f.s.t, .str f.s.u, .int .i64 f.s.n, .int .i64 f.s.at_, vl, vm, .bool f.other]) := by
        rw [hf4 b hb4]; simp only [new_m, set_m, new_next, set_next, if_neg h2b, if_neg hbp, hbm]
      have hpm4 : H4.m p = some (.cells PT [tok, .int .i64 md, stmv2, topv, .hs r 1 0 (os'.length + 1), at_, e]) := by
        rw [hf4 p hp4]; simp only [new_m, set_m, new_next, set_next, if_neg h2p, if_pos]
      have hk4 : ∀ o i, i < H.next → i ∉ slid stmv → i ≠ p → i ≠ b → i ∉ slid vm → (H4.set b o).m i = H.m i := by
        intro o i g1 g2 g3 g4 g5
        rw [set_m, if_neg g4, hf4 i (hx4 i (by omega) g5)]
        simp only [new_m, set_m, new_next, set_next, if_neg g3, if_neg (by omega : ¬ i = H2.next)]
        exact hk2 i g1 g2
      have hlop := h.lop
      simp -dsimp (disch := first | omega | (refine DrawYes.mk ?_; decide +kernel) | fail) only [go_sem, ↓reduceIte, reduceCtorEq, Nat.reduceEqDiff, Nat.reduceAdd, Nat.reduceLeDiff, Int.reduceLE, Int.reduceLT, Int.reduceBEq, Int.reduceBNe, Int.reduceEq, Nat.reduceBEq, Int.reduceToNat, Nat.reduceLT, Nat.reduceGT, Nat.reduceSub, Nat.reduceMul, Int.reduceAdd, Int.reduceSub, Int.reduceNeg, Int.reduceGE, Int.reduceGT, hbm4, o11, o12, hot]
      refine ⟨⟨by simp only [set_next]; omega, fun i hi => hk4 _ i (by omega) (fun hc => by have := (h.stm.tip i hc).1; omega) (by omega) (by omega) (fun hc => by have := (hvm.tip i hc).1; omega)⟩, stmv2, topv, .hs r 1 0 (os'.length + 1), es ++ [.agg [d1, d2, d3, d4, d5, d6, d7, d8]], fs' ++ [(b, vl, v2)], ?_⟩
      rw [addOs_last, hot]
      have hnv := h.nodt
      rw [List.flatMap_append, ← List.append_assoc, List.nodup_append] at hnv
      have hnx : (slid vl ++ slid vm).Nodup := by simpa [fids] using hnv.2.1
      rw [List.nodup_append] at hnx
      have hemp : (os' ++ [f]).isEmpty = false := by simp
      simp only [hemp, Bool.false_eq_true, if_false, if_true]
      refine pi_last h (by simp only [set_next]; omega) (by rw [set_m, if_neg (Ne.symm hbp), hpm4]) (hs2.keep (by simp only [set_next]; omega) fun id hi => ?_) hR2 ⟨hb1, by simp only [set_next]; omega, by rw [set_m, if_pos rfl], ?_, ?_⟩ (fun i g1 g2 g3 g4 g5 => hk4 _ i g1 g2 g3 g4 fun hc => g5 (by simp [fids, hc])) ?_ ?_
      · rw [hi2] at hi
        simp only [List.mem_singleton] at hi
        subst hi
        have e1 : id ≠ b := by
          rintro rfl
          rw [hbm] at hi2t; cases hi2t
        rw [set_m, if_neg e1, hf4 id h24]
        simp only [new_m, set_m, new_next, set_next, if_neg (Ne.symm hp2), if_neg (by omega : ¬ id = H2.next)]
      · exact hvl.keep (by simp only [set_next]; omega) fun id hi => by
          obtain ⟨g1, g2, g3, g4, _⟩ := kw id hi
          rw [set_m, if_neg g4, hf4 id (hx4 id (by omega) fun hc => hnx.2.2 id hi id hc rfl)]
          simp only [new_m, set_m, new_next, set_next, if_neg g3, if_neg (by omega : ¬ id = H2.next), g2]
      · simpa [intV] using hs4.keep (H' := H4.set b _) (Nat.le_refl _) fun id hi => by
          rw [hi4] at hi
          simp only [List.mem_singleton] at hi
          subst hi
          rw [set_m, if_neg (Ne.symm hb4)]
      · intro id hi
        simp only [fids, List.mem_append] at hi ⊢
        have hmv : id ∈ slid v2 → (id ∈ slid vl ∨ id ∈ slid vm) ∨ H.next ≤ id := by
          intro hi
          rw [hi4] at hi
          simp only [List.mem_singleton] at hi
          subst hi
          rcases ho4 with g | g
          · exact .inl (by rw [g]; simp)
          · right; rw [g]; simp only [new_next, set_next]; omega
        rcases hi with hi | hi
        · exact .inl (.inl hi)
        · exact hmv hi
      · simp only [fids, List.nodup_append]
        refine ⟨hnx.1, by rw [hi4]; simp, fun i hi j hj => ?_⟩
        rw [hi4] at hj
        simp only [List.mem_singleton] at hj
        subst hj
        have := kw i hi
        rcases ho4 with g | g
        · exact hnx.2.2 i hi j (by rw [g]; simp)
        · rw [g]; simp only [new_next, set_next]; omega
    | false =>
      simp -dsimp (disch := first | omega | (refine DrawYes.mk ?_; decide +kernel) | fail) only [go_sem, ↓reduceIte, reduceCtorEq, Nat.reduceEqDiff, Nat.reduceAdd, Nat.reduceLeDiff, Int.reduceLE, Int.reduceLT, Int.reduceBEq, Int.reduceBNe, Int.reduceEq, Nat.reduceBEq, Int.reduceToNat, Nat.reduceLT, Nat.reduceGT, Nat.reduceSub, Nat.reduceMul, Int.reduceAdd, Int.reduceSub, Int.reduceNeg, Int.reduceGE, Int.reduceGT, hm2, h0, h1, o9, o10, hrow, hbm, hrp, hbp, hcd, Nat.mul_one, hot, z1, z2, z3, z4]
      have kv : ∀ id ∈ slid vl, id < H.next ∧ H2.m id = H.m id ∧ id ≠ p ∧ id ≠ b ∧ ∃ k, H.m id = some (.tip 3 k true) := by
        intro id hi
        obtain ⟨_, g2, k, g3⟩ := hvl.tip id hi
        exact ⟨g2, hk2 id g2 (nst id _ g3 (by simp)), mne g3 hm (by simp), mne g3 hb3 (by simp), k, g3⟩
      have kw : ∀ id ∈ slid vm, id < H.next ∧ H2.m id = H.m id ∧ id ≠ p ∧ id ≠ b ∧ ∃ k, H.m id = some (.tip 3 k true) := by
        intro id hi
        obtain ⟨_, g2, k, g3⟩ := hvm.tip id hi
        exact ⟨g2, hk2 id g2 (nst id _ g3 (by simp)), mne g3 hm (by simp), mne g3 hb3 (by simp), k, g3⟩
      have hvv : IsSl lo ((H2.set p (.cells PT [tok, .int .i64 md, stmv2, topv, .hs r 1 0 (os'.length + 1), at_, e])).new (.tip 3 1 true)) 3 1 vl (f.s.l.map intV) := by
        refine hvl.keep (by simp only [new_next, set_next]; omega) fun id hi => ?_
        obtain ⟨g1, g2, g3, _⟩ := kv id hi
        simp only [new_m, set_m, new_next, set_next, if_neg g3, if_neg (by omega : ¬ id = H2.next), g2]
      have hfb := hb.ho f (by simp)
      refine app2 (lo := lo) (es := f.s.l.map intV) (new := [.int .i64 R.length]) und_24 size_3 bytes_3 und_24 zero_3 rfl rfl (by decide) hvv rfl (by simp) (by simp only [new_next, set_next]; omega) (by simp; omega) (by simp; omega) ?_
      intro v2 H4 i4 hs4 hn4 hf4 hi4 ho4
      simp only [new_next, set_next] at hn4
      obtain ⟨o11, o12⟩ := hs4.one
      obtain ⟨hlo4, hi4n, k4, hi4t⟩ := hs4.tip i4 (by rw [hi4]; simp)
      have hx4 : ∀ i, i < H2.next → i ∉ slid vl → i ≠ i4 := by
        rintro i g1 g2 rfl
        rcases ho4 with g | g
        · exact g2 (by rw [g]; simp)
        · rw [g] at g1; simp only [new_next, set_next] at g1; omega
      have hp4 : p ≠ i4 := hx4 p (by omega) fun hc => (kv p hc).2.2.1 rfl
      have hb4 : b ≠ i4 := hx4 b (by omega) fun hc => (kv b hc).2.2.2.1 rfl
      have h24 : i2 ≠ i4 := hx4 i2 hi2n fun hc => by
        obtain ⟨_, g2, _, _, k, g4⟩ := kv i2 hc
        exact mne hi2t (g2.trans g4) (by simp) rfl
      have h2p : ¬ p = H2.next := by omega
      have h2b : ¬ b = H2.next := by omega
      have hbm4 : H4.m b = some (.cells FT [.int .i64 f.s.kind, .str f.s.s, .str f.s.t, .str f.s.u, .int .i64 f.s.n, .int .i64 f.s.at_, vl, vm, .bool f.other]) := by
        rw [hf4 b hb4]; simp only [new_m, set_m, new_next, set_next, if_neg h2b, if_neg hbp, hbm]
      have hpm4 : H4.m p = some (.cells PT [tok, .int .i64 md, stmv2, topv, .hs r 1 0 (os'.length + 1), at_, e]) := by
        rw [hf4 p hp4]; simp only [new_m, set_m, new_next, set_next, if_neg h2p, if_pos]
      have hk4 : ∀ o i, i < H.next → i ∉ slid stmv → i ≠ p → i ≠ b → i ∉ slid vl → (H4.set b o).m i = H.m i := by
        intro o i g1 g2 g3 g4 g5
        rw [set_m, if_neg g4, hf4 i (hx4 i (by omega) g5)]
        simp only [new_m, set_m, new_next, set_next, if_neg g3, if_neg (by omega : ¬ i = H2.next)]
        exact hk2 i g1 g2
      have hlop := h.lop
      simp -dsimp (disch := first | omega | (refine DrawYes.mk ?_; decide +kernel) | fail) only [go_sem, ↓reduceIte, reduceCtorEq, Nat.reduceEqDiff, Nat.reduceAdd, Nat.reduceLeDiff, Int.reduceLE, Int.reduceLT, Int.reduceBEq, Int.reduceBNe, Int.reduceEq, Nat.reduceBEq, Int.reduceToNat, Nat.reduceLT, Nat.reduceGT, Nat.reduceSub, Nat.reduceMul, Int.reduceAdd, Int.reduceSub, Int.reduceNeg, Int.reduceGE, Int.reduceGT, hbm4, o11, o12, hot]
      refine ⟨⟨by simp only [set_next]; omega, fun i hi => hk4 _ i (by omega) (fun hc => by have := (h.stm.tip i hc).1; omega) (by omega) (by omega) (fun hc => by have := (hvl.tip i hc).1; omega)⟩, stmv2, topv, .hs r 1 0 (os'.length + 1), es ++ [.agg [d1, d2, d3, d4, d5, d6, d7, d8]], fs' ++ [(b, v2, vm)], ?_⟩
      rw [addOs_last, hot]
      have hnv := h.nodt
      rw [List.flatMap_append, ← List.append_assoc, List.nodup_append] at hnv
      have hnx : (slid vl ++ slid vm).Nodup := by simpa [fids] using hnv.2.1
      rw [List.nodup_append] at hnx
      have hemp : (os' ++ [f]).isEmpty = false := by simp
      simp only [hemp, Bool.false_eq_true, if_false, if_true]
      refine pi_last h (by simp only [set_next]; omega) (by rw [set_m, if_neg (Ne.symm hbp), hpm4]) (hs2.keep (by simp only [set_next]; omega) fun id hi => ?_) hR2 ⟨hb1, by simp only [set_next]; omega, by rw [set_m, if_pos rfl], ?_, ?_⟩ (fun i g1 g2 g3 g4 g5 => hk4 _ i g1 g2 g3 g4 fun hc => g5 (by simp [fids, hc])) ?_ ?_
      · rw [hi2] at hi
        simp only [List.mem_singleton] at hi
        subst hi
        have e1 : id ≠ b := by
          rintro rfl
          rw [hbm] at hi2t; cases hi2t
        rw [set_m, if_neg e1, hf4 id h24]
        simp only [new_m, set_m, new_next, set_next, if_neg (Ne.symm hp2), if_neg (by omega : ¬ id = H2.next)]
      · simpa [intV] using hs4.keep (H' := H4.set b _) (Nat.le_refl _) fun id hi => by
          rw [hi4] at hi
          simp only [List.mem_singleton] at hi
          subst hi
          rw [set_m, if_neg (Ne.symm hb4)]
      · exact hvm.keep (by simp only [set_next]; omega) fun id hi => by
          obtain ⟨g1, g2, g3, g4, _⟩ := kw id hi
          rw [set_m, if_neg g4, hf4 id (hx4 id (by omega) fun hc => hnx.2.2 id hc id hi rfl)]
          simp only [new_m, set_m, new_next, set_next, if_neg g3, if_neg (by omega : ¬ id = H2.next), g2]
      · intro id hi
        simp only [fids, List.mem_append] at hi ⊢
        have hmv : id ∈ slid v2 → (id ∈ slid vl ∨ id ∈ slid vm) ∨ H.next ≤ id := by
          intro hi
          rw [hi4] at hi
          simp only [List.mem_singleton] at hi
          subst hi
          rcases ho4 with g | g
          · exact .inl (by rw [g]; simp)
          · right; rw [g]; simp only [new_next, set_next]; omega
        rcases hi with hi | hi
        · exact hmv hi
        · exact .inl (.inr hi)
      · simp only [fids, List.nodup_append]
        refine ⟨by rw [hi4]; simp, hnx.2.1, fun i hi j hj => ?_⟩
        rw [hi4] at hi
        simp only [List.mem_singleton] at hi
        subst hi
        have := kw j hj
        rcases ho4 with g | g
        · exact hnx.2.2 i (by rw [g]; simp) j hj
        · rw [g]; simp only [new_next, set_next]; omega
end Go.Proofs.YtcknfhhbijlobaaDoor.D
