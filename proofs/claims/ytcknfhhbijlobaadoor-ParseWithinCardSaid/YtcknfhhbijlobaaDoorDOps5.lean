/- D: what each operation does, held against the model's (5): literals, conversions, cuts. -/
import Derived.Test.YtcknfhhbijlobaaDoorDOps4
namespace Go.Proofs.YtcknfhhbijlobaaDoor.D
open Go
set_option linter.unusedVariables false
set_option linter.unusedSimpArgs false

section
variable {P : Program} {T : Tab} {G : Ghost} {H H' : DH} {w : World} {d : DV}

theorem fold_set : ∀ (l : List Value) (k off : Nat) (cs : Array Value), off + k + l.length ≤ cs.size →
    (l.zipIdx k).foldl (fun (cs : Array Value) (p : Value × Nat) => cs.setIfInBounds (off + p.2) p.1) cs = (cs.toList.take (off + k) ++ l ++ cs.toList.drop (off + k + l.length)).toArray
  | [], k, off, cs, h => by simp
  | v :: l, k, off, cs, h => by
    simp only [List.zipIdx_cons, List.foldl_cons]
    rw [fold_set l (k + 1) off _ (by simp at h ⊢; omega)]
    apply congrArg List.toArray
    have e := list_seg_step cs.toList (off + k) v l (by simp at h ⊢; omega)
    simpa [Array.toList_setIfInBounds, Nat.add_assoc] using e

theorem fill_ok {place : Nat → Option (Nat × Nat)} : ∀ {parts : List (Nat × DV)} {rp : List (Nat × Value)} {cs : List DV} {vs : List Value} {out : List DV},
    rp.map (·.1) = parts.map (·.1) → VL G (parts.map (·.2)) (rp.map (·.2)) → VL G cs vs → fillD place cs parts = some out → ∃ vo, Instr.fill place vs.toArray rp = some vo ∧ VL G out vo.toList
  | [], rp, cs, vs, out, h1, h2, h3, h => by
    simp [fillD] at h; subst h
    have : rp = [] := by simpa using h1
    subst this
    exact ⟨_, rfl, by simpa using h3⟩
  | (i, v) :: rest, rp, cs, vs, out, h1, h2, h3, h => by
    cases rp with
    | nil => simp at h1
    | cons q rp' =>
      obtain ⟨j, u⟩ := q
      simp at h1
      obtain ⟨rfl, h1'⟩ := h1
      obtain ⟨_, _, he, hvu, h2'⟩ := VL.cons_inv h2
      simp at he
      obtain ⟨rfl, rfl⟩ := he
      simp only [fillD] at h
      simp only [Instr.fill]
      cases hp : place j with
      | none => simp [hp] at h
      | some os =>
        obtain ⟨off, size⟩ := os
        simp only [hp] at h ⊢
        have hc := hvu.cells
        have hcl : v.cells.length = u.cells.size := by simpa using hc.1
        by_cases hbad : v.cells.length ≠ size ∨ off + v.cells.length > cs.length
        · rw [if_pos hbad] at h; cases h
        · rw [if_neg hbad] at h
          have hvl : cs.length = vs.length := h3.1
          have hbad' : (decide (u.cells.size ≠ size) || decide (off + u.cells.size > vs.toArray.size)) = false := by
            rw [hcl, hvl] at hbad
            simpa using hbad
          rw [hbad']
          simp only [Bool.false_eq_true, if_false]
          have hfold : Array.foldl (fun cs x => match x with | (c, j) => cs.setIfInBounds (off + j) c) vs.toArray u.cells.zipIdx = (vs.take off ++ u.cells.toList ++ vs.drop (off + u.cells.size)).toArray := by
            rw [← Array.foldl_toList, Array.toList_zipIdx]
            have := fold_set u.cells.toList 0 off vs.toArray (by simp; rw [← hvl]; have := hbad; simp at this; omega)
            simpa using this
          rw [hfold]
          refine fill_ok (vs := vs.take off ++ u.cells.toList ++ vs.drop (off + u.cells.size)) h1' h2' ?_ h
          rw [← hcl]
          exact ((h3.take off).append hc).append (h3.drop _)

theorem opdParts_ok {σ : Nat → DV} {a : Act} (hs : SlotsOk G σ a) {xs : List (Nat × Operand)} {ds : List (Nat × DV)} (h : opdParts σ xs = some ds) :
    (xs.map fun p => (p.1, a.eval p.2)).map (·.1) = ds.map (·.1) ∧ VL G (ds.map (·.2)) ((xs.map fun p => (p.1, a.eval p.2)).map (·.2)) := by
  induction xs generalizing ds with
  | nil => simp [opdParts] at h; subst h; exact ⟨rfl, .nil _⟩
  | cons x xs ih =>
    obtain ⟨i, x⟩ := x
    simp only [opdParts] at h
    split at h
    · rename_i v l e1 e2
      obtain rfl := Option.some.inj h
      have := ih e2
      exact ⟨by simp at this ⊢; exact this.1, by simpa using VL.cons (opd_ok hs e1) this.2⟩
    · cases h

theorem run_zero (TO : TabOk P T) {t : TypeId} {z : DV} (h : T.zero t = some z) (w : World) : ∃ v, (zeroValue t).run P w = .ok v w ∧ ∀ G, V G z v := by
  obtain ⟨i, v, h1, h2, h3⟩ := TO.zero _ _ h
  exact ⟨v, by simp [zeroValue, typeInfo, h1, h2], h3⟩

theorem places_ok (TO : TabOk P T) {fs : List Field} {ps : List (Nat × Nat)} (h : fieldPlaces T fs = some ps) (w : World) :
    (fs.mapM fun f => (do pure (f.offset, ← sizeOf f.type) : Sem (Nat × Nat))).run P w = .ok ps w := by
  induction fs generalizing ps with
  | nil => simp [fieldPlaces] at h; subst h; rfl
  | cons f fs ih =>
    simp only [fieldPlaces] at h
    split at h
    · rename_i n l e1 e2
      obtain rfl := Option.some.inj h
      rw [List.mapM_cons]
      simp only [Sem.run_bind, run_sizeOf' TO e1, Result.andThen_ok, Sem.run_pure, ih e2]
    · cases h

theorem build_ok (TO : TabOk P T) (r : Rel G H w) {t : TypeId} {parts : List (Nat × DV)} {rp : List (Nat × Value)} (h1 : rp.map (·.1) = parts.map (·.1)) (h2 : VL G (parts.map (·.2)) (rp.map (·.2)))
    (h : buildD T t parts = some d) : GoodV P G H w H d ((Instr.build t rp.toArray).run P w) := by
  unfold buildD at h
  split at h
  · rename_i fs z e1 e2
    obtain ⟨zv, hz, hzv⟩ := run_zero TO e2 w
    cases hps : fieldPlaces T fs.toList with
    | none => simp [hps] at h
    | some ps =>
      simp only [hps] at h
      cases hf : fillD (fun i => ps[i]?) z.cells parts with
      | none => simp [hf] at h
      | some cs =>
        simp only [hf, Option.some.injEq] at h
        subst h
        obtain ⟨vo, g1, g2⟩ := fill_ok h1 h2 (hzv G).cells hf
        refine good_ok r (V.agg g2.1 g2.2) ?_
        have hpl := places_ok TO hps w
        have : (fs.mapM fun f => (do pure (f.offset, ← sizeOf f.type) : Sem (Nat × Nat))).run P w = .ok ps.toArray w := by
          rw [Array.mapM_eq_mapM_toList]
          simp only [Sem.run_map, hpl, Result.andThen_ok]
        simp only [Instr.build, Sem.run_bind, hz, Result.andThen_ok, run_underlying (TO.und _ _ e1), this]
        have g1' : Instr.fill (fun x => ps[x]?) zv.cells rp = some vo := by simpa using g1
        simp [g1']
  · rename_i e z e1 e2
    obtain ⟨zv, hz, hzv⟩ := run_zero TO e2 w
    cases hn : T.size e with
    | none => simp [hn] at h
    | some n =>
      simp only [hn] at h
      cases hf : fillD (fun i => some (i * n, n)) z.cells parts with
      | none => simp [hf] at h
      | some cs =>
        simp only [hf, Option.some.injEq] at h
        subst h
        obtain ⟨vo, g1, g2⟩ := fill_ok h1 h2 (hzv G).cells hf
        refine good_ok r (V.agg g2.1 g2.2) ?_
        have g1' : Instr.fill (fun i => some (i * n, n)) zv.cells rp = some vo := by simpa using g1
        simp [Instr.build, hz, run_underlying (TO.und _ _ e1), run_sizeOf' TO hn, g1']
  · cases h

theorem dense_ok {g : Bool} {n : Nat} : ∀ {parts : List (Nat × DV)} {rp : List (Nat × Value)} {es : List DV} {i : Nat} {pre : List Value} {rest : List Value},
    rp.map (·.1) = parts.map (·.1) → VL G (parts.map (·.2)) (rp.map (·.2)) → dense g n i parts = some es → pre.length = i * n → rest.length = es.length * n →
    ∃ vo, Instr.fill (fun i => some (i * n, n)) (pre ++ rest).toArray rp = some (pre ++ vo).toArray ∧ VL G (flat es) vo ∧ (∀ e ∈ es, e.cells.length = n) ∧ (flat es).all DV.one = true
  | [], rp, es, i, pre, rest, h1, h2, h, hp, hr => by
    simp [dense] at h; subst h
    have : rp = [] := by simpa using h1
    subst this
    have hr0 : rest = [] := List.eq_nil_of_length_eq_zero (by simpa using hr)
    subst hr0
    exact ⟨[], rfl, .nil _, by simp, by simp [flat]⟩
  | (j, v) :: parts, rp, es, i, pre, rest, h1, h2, h, hp, hr => by
    cases rp with
    | nil => simp at h1
    | cons q rp' =>
      obtain ⟨j', u⟩ := q
      simp at h1
      obtain ⟨rfl, h1'⟩ := h1
      obtain ⟨_, _, he, hvu, h2'⟩ := VL.cons_inv h2
      simp at he
      obtain ⟨rfl, rfl⟩ := he
      simp only [dense] at h
      by_cases hc : j' = i ∧ v.cells.length = n ∧ (g = true ↔ v.one = false) ∧ v.cells.all DV.one = true
      · rw [if_pos hc] at h
        obtain ⟨rfl, hn, hg, ho⟩ := hc
        cases hd : dense g n (j' + 1) parts with
        | none => simp [hd] at h
        | some l =>
          simp only [hd, Option.some.injEq] at h
          subst h
          have hcl := hvu.cells
          have hcn : u.cells.size = n := by have := hcl.1; simp at this; omega
          have hrl : rest.length = n + l.length * n := by rw [hr, List.length_cons, Nat.add_mul]; omega
          obtain ⟨vo, g1, g2, g3, g4⟩ := dense_ok (i := j' + 1) (pre := pre ++ u.cells.toList) (rest := rest.drop n) h1' h2' hd (by simp [hp, hcn, Nat.add_mul]) (by simp [hrl])
          refine ⟨u.cells.toList ++ vo, ?_, ?_, ?_, ?_⟩
          · simp only [Instr.fill]
            have hb : (decide (u.cells.size ≠ n) || decide (j' * n + u.cells.size > (pre ++ rest).toArray.size)) = false := by
              simp [hcn, hp, hrl]
            rw [hb]
            simp only [Bool.false_eq_true, if_false]
            have hfold : Array.foldl (fun cs x => match x with | (c, j) => cs.setIfInBounds (j' * n + j) c) (pre ++ rest).toArray u.cells.zipIdx = (pre ++ u.cells.toList ++ rest.drop n).toArray := by
              rw [← Array.foldl_toList, Array.toList_zipIdx]
              have := fold_set u.cells.toList 0 (j' * n) (pre ++ rest).toArray (by simp [hp, hrl, hcn])
              simp only [Nat.add_zero, List.toList_toArray] at this
              rw [this]
              have e1 : (pre ++ rest).take (j' * n) = pre := by rw [← hp, List.take_append_of_le_length (Nat.le_refl _), List.take_length]
              have e2 : (pre ++ rest).drop (j' * n + u.cells.toList.length) = rest.drop n := by
                rw [← hp, List.drop_append, List.drop_of_length_le (by omega), List.nil_append]
                congr 1
                simp [hcn]
              rw [e1, e2]
            rw [hfold, g1]
            simp
          · simp only [flat]
            exact hcl.append g2
          · intro e he
            rcases List.mem_cons.1 he with rfl | h
            · exact hn
            · exact g3 e h
          · simp only [flat, List.all_append, ho, g4]; rfl
      · rw [if_neg hc] at h; cases h

theorem buildSlice_ok (TO : TabOk P T) (r : Rel G H w) {t : TypeId} {len : Nat} {parts : List (Nat × DV)} {rp : List (Nat × Value)} (h1 : rp.map (·.1) = parts.map (·.1)) (h2 : VL G (parts.map (·.2)) (rp.map (·.2)))
    (h : buildSliceD T t len parts H = some (d, H')) : GoodV P G H w H' d ((Instr.buildSlice t len rp.toArray).run P w) := by
  unfold buildSliceD at h
  split at h
  · rename_i e e1
    split at h
    · rename_i td n z e2 e3 e4
      cases hd : dense (isAggD td) n 0 parts with
      | none => simp [hd] at h
      | some es =>
        simp only [hd] at h
        by_cases hc : es.length = len ∧ 0 < n ∧ z.cells.length = n ∧ len * n ≤ 16777216
        · rw [if_pos hc] at h
          have hdH := Prod.mk.inj (Option.some.inj h)
          obtain ⟨rfl, hn, hzn, hbig⟩ := hc
          obtain ⟨zv, hz, hzv⟩ := run_zero TO e4 w
          have hzs : zv.cells.size = n := by have := (hzv G).cells.1; simp at this; omega
          generalize hZ : (if es.length * n = 0 then #[] else zv.cells) = zc
          have hrow : ((Array.range (es.length * n)).map fun x => zc[x % zc.size]!).toList.length = es.length * n := by simp
          obtain ⟨vo, g1, g2, g3, g4⟩ := dense_ok (i := 0) (pre := []) (rest := ((Array.range (es.length * n)).map fun x => zc[x % zc.size]!).toList) h1 h2 hd (by simp) hrow
          have hvol : vo.length = es.length * n := by rw [← g2.1, flat_length g3]
          have hrun : (Instr.buildSlice t es.length rp.toArray).run P w = .ok (.slice (some ⟨w.heap.size, 0, none⟩) es.length es.length) (w.alloc (.cells (vo ++ []).toArray e)) := by
            have hb : ¬ (es.length * n > 2 ^ 24) := by omega
            simp only [List.nil_append, Array.toArray_toList] at g1
            by_cases h00 : es.length * n = 0
            · rw [if_pos h00] at hZ
              subst hZ
              simp only [Instr.buildSlice, Sem.run_bind, run_underlying (TO.und _ _ e1), Result.andThen_ok, run_sizeOf' TO e3, if_neg hb, if_pos h00, Sem.run_pure]
              rw [g1]
              simp [newRow]
            · rw [if_neg h00] at hZ
              subst hZ
              simp only [Instr.buildSlice, Sem.run_bind, run_underlying (TO.und _ _ e1), Result.andThen_ok, run_sizeOf' TO e3, if_neg hb, if_neg h00, Sem.run_pure, hz]
              rw [g1]
              simp [newRow]
          rw [hrun, ← hdH.1, ← hdH.2]
          obtain ⟨G', st, hv⟩ := Step.newSlice r (es := es) (vs := vo) (post := []) (cap := es.length) (T' := e) (fr := (0, 0)) (cl := true) hn g3 g4 g2 (by simp [hvol]) (by simp) (by simp)
          exact ⟨G', hv, st⟩
        · rw [if_neg hc] at h; cases h
    · cases h
  · cases h
end
end Go.Proofs.YtcknfhhbijlobaaDoor.D
