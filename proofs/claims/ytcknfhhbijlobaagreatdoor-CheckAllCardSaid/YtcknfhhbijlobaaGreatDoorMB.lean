import Derived.Test.YtcknfhhbijlobaaGreatDoorMA
import Derived.Lib.UnsafeStr
namespace Go.Proofs.YtcknfhhbijlobaaGreatDoor.D
open Go
set_option linter.unusedVariables false
set_option linter.unusedSimpArgs false
section
variable {P : Program} {T : Tab} {G : Ghost} {H H' : DH} {w : World} {d : DV}
theorem fold_set : ∀ (l : List Value) (k off : Nat) (cs : Array Value), off + k + l.length ≤ cs.size →
  (l.zipIdx k).foldl (fun (cs : Array Value) (p : Value × Nat) => cs.setIfInBounds (off + p.2) p.1) cs = (cs.toList.take (off + k) ++ l ++ cs.toList.drop (off + k + l.length)).toArray
 | [], k, off, cs, h => by simp
 | v :: l, k, off, cs, h => by
  simp only [List.zipIdx_cons, List.foldl_cons]
  rw [fold_set l (k + 1) off _ (by simp at h ⊢; omega)]
  apply congrArg List.toArray
  have e := list_seg_step cs.toList (off + k) v l (by simp at h ⊢; omega)
  simpa [Array.toList_setIfInBounds, Nat.add_assoc] using e
theorem fill_ok {place : Nat → Option (Nat × Nat)} : ∀ {parts : List (Nat × DV)} {rp : List (Nat × Value)} {cs : List DV} {vs : List Value} {out : List DV},
  rp.map (·.1) = parts.map (·.1) → VL G (parts.map (·.2)) (rp.map (·.2)) → VL G cs vs → fillD place cs parts = some out → ∃ vo, Instr.fill place vs.toArray rp = some vo ∧ VL G out vo.toList
 | [], rp, cs, vs, out, h1, h2, h3, h => by
  simp [fillD] at h; subst h
  have : rp = [] := by simpa using h1
  subst this
  exact ⟨_, rfl, by simpa using h3⟩
 | (i, v) :: rest, rp, cs, vs, out, h1, h2, h3, h => by
  cases rp with
  | nil => simp at h1
  | cons q rp' =>
   obtain ⟨j, u⟩ := q
   simp at h1
   obtain ⟨rfl, h1'⟩ := h1
   obtain ⟨_, _, he, hvu, h2'⟩ := VL.cons_inv h2
   simp at he
   obtain ⟨rfl, rfl⟩ := he
   simp only [fillD] at h
   simp only [Instr.fill]
   cases hp : place j with
   | none => simp [hp] at h
   | some os =>
    obtain ⟨off, size⟩ := os
    simp only [hp] at h ⊢
    have hc := hvu.cells
    have hcl : v.cells.length = u.cells.size := by simpa using hc.1
    by_cases hbad : v.cells.length ≠ size ∨ off + v.cells.length > cs.length
    ·rw [if_pos hbad] at h; cases h
    ·rw [if_neg hbad] at h
     have hvl : cs.length = vs.length := h3.1
     have hbad' : (decide (u.cells.size ≠ size) || decide (off + u.cells.size > vs.toArray.size)) = false := by
      rw [hcl, hvl] at hbad
      simpa using hbad
     rw [hbad']
     simp only [Bool.false_eq_true, if_false]
     have hfold : Array.foldl (fun cs x => match x with | (c, j) => cs.setIfInBounds (off + j) c) vs.toArray u.cells.zipIdx = (vs.take off ++ u.cells.toList ++ vs.drop (off + u.cells.size)).toArray := by
      rw [← Array.foldl_toList, Array.toList_zipIdx]
      have := fold_set u.cells.toList 0 off vs.toArray (by simp; rw [← hvl]; have := hbad; simp at this; omega)
      simpa using this
     rw [hfold]
     refine fill_ok (vs := vs.take off ++ u.cells.toList ++ vs.drop (off + u.cells.size)) h1' h2' ?_ h
     rw [← hcl]
     exact ((h3.take off).append hc).append (h3.drop _)
theorem opdParts_ok {σ : Nat → DV} {a : Act} (hs : SlotsOk G σ a) {xs : List (Nat × Operand)} {ds : List (Nat × DV)} (h : opdParts σ xs = some ds) :
  (xs.map fun p => (p.1, a.eval p.2)).map (·.1) = ds.map (·.1) ∧ VL G (ds.map (·.2)) ((xs.map fun p => (p.1, a.eval p.2)).map (·.2)) := by
 induction xs generalizing ds with
 | nil => simp [opdParts] at h; subst h; exact ⟨rfl, .nil _⟩
 | cons x xs ih =>
  obtain ⟨i, x⟩ := x
  simp only [opdParts] at h
  split at h
  ·rename_i v l e1 e2
   obtain rfl := Option.some.inj h
   have := ih e2
   exact ⟨by simp at this ⊢; exact this.1, by simpa using VL.cons (opd_ok hs e1) this.2⟩
  ·cases h
theorem run_zero (TO : TabOk P T) {t : TypeId} {z : DV} (h : T.zero t = some z) (w : World) : ∃ v, (zeroValue t).run P w = .ok v w ∧ ∀ G, V G z v := by
 obtain ⟨i, v, h1, h2, h3⟩ := TO.zero _ _ h
 exact ⟨v, by simp [zeroValue, typeInfo, h1, h2], h3⟩
theorem places_ok (TO : TabOk P T) {fs : List Field} {ps : List (Nat × Nat)} (h : fieldPlaces T fs = some ps) (w : World) :
  (fs.mapM fun f => (do pure (f.offset, ← sizeOf f.type) : Sem (Nat × Nat))).run P w = .ok ps w := by
 induction fs generalizing ps with
 | nil => simp [fieldPlaces] at h; subst h; rfl
 | cons f fs ih =>
  simp only [fieldPlaces] at h
  split at h
  ·rename_i n l e1 e2
   obtain rfl := Option.some.inj h
   rw [List.mapM_cons]
   simp only [Sem.run_bind, run_sizeOf' TO e1, Result.andThen_ok, Sem.run_pure, ih e2]
  ·cases h
theorem build_ok (TO : TabOk P T) (r : Rel G H w) {t : TypeId} {parts : List (Nat × DV)} {rp : List (Nat × Value)} (h1 : rp.map (·.1) = parts.map (·.1)) (h2 : VL G (parts.map (·.2)) (rp.map (·.2)))
  (h : buildD T t parts = some d) : GoodV P G H w H d ((Instr.build t rp.toArray).run P w) := by
 unfold buildD at h
 split at h
 ·rename_i fs z e1 e2
  obtain ⟨zv, hz, hzv⟩ := run_zero TO e2 w
  cases hps : fieldPlaces T fs.toList with
  | none => simp [hps] at h
  | some ps =>
   simp only [hps] at h
   cases hf : fillD (fun i => ps[i]?) z.cells parts with
   | none => simp [hf] at h
   | some cs =>
    simp only [hf, Option.some.injEq] at h
    subst h
    obtain ⟨vo, g1, g2⟩ := fill_ok h1 h2 (hzv G).cells hf
    refine good_ok r (V.agg g2.1 g2.2) ?_
    have hpl := places_ok TO hps w
    have : (fs.mapM fun f => (do pure (f.offset, ← sizeOf f.type) : Sem (Nat × Nat))).run P w = .ok ps.toArray w := by
     rw [Array.mapM_eq_mapM_toList]
     simp only [Sem.run_map, hpl, Result.andThen_ok]
    simp only [Instr.build, Sem.run_bind, hz, Result.andThen_ok, run_underlying (TO.und _ _ e1), this]
    have g1' : Instr.fill (fun x => ps[x]?) zv.cells rp = some vo := by simpa using g1
    simp [g1']
 ·rename_i e z e1 e2
  obtain ⟨zv, hz, hzv⟩ := run_zero TO e2 w
  cases hn : T.size e with
  | none => simp [hn] at h
  | some n =>
   simp only [hn] at h
   cases hf : fillD (fun i => some (i * n, n)) z.cells parts with
   | none => simp [hf] at h
   | some cs =>
    simp only [hf, Option.some.injEq] at h
    subst h
    obtain ⟨vo, g1, g2⟩ := fill_ok h1 h2 (hzv G).cells hf
    refine good_ok r (V.agg g2.1 g2.2) ?_
    have g1' : Instr.fill (fun i => some (i * n, n)) zv.cells rp = some vo := by simpa using g1
    simp [Instr.build, hz, run_underlying (TO.und _ _ e1), run_sizeOf' TO hn, g1']
 ·cases h
theorem dense_ok {g : Bool} {n : Nat} : ∀ {parts : List (Nat × DV)} {rp : List (Nat × Value)} {es : List DV} {i : Nat} {pre : List Value} {rest : List Value},
  rp.map (·.1) = parts.map (·.1) → VL G (parts.map (·.2)) (rp.map (·.2)) → dense g n i parts = some es → pre.length = i * n → rest.length = es.length * n →
  ∃ vo, Instr.fill (fun i => some (i * n, n)) (pre ++ rest).toArray rp = some (pre ++ vo).toArray ∧ VL G (flat es) vo ∧ (∀ e ∈ es, e.cells.length = n) ∧ (flat es).all DV.one = true
 | [], rp, es, i, pre, rest, h1, h2, h, hp, hr => by
  simp [dense] at h; subst h
  have : rp = [] := by simpa using h1
  subst this
  have hr0 : rest = [] := List.eq_nil_of_length_eq_zero (by simpa using hr)
  subst hr0
  exact ⟨[], rfl, .nil _, by simp, by simp [flat]⟩
 | (j, v) :: parts, rp, es, i, pre, rest, h1, h2, h, hp, hr => by
  cases rp with
  | nil => simp at h1
  | cons q rp' =>
   obtain ⟨j', u⟩ := q
   simp at h1
   obtain ⟨rfl, h1'⟩ := h1
   obtain ⟨_, _, he, hvu, h2'⟩ := VL.cons_inv h2
   simp at he
   obtain ⟨rfl, rfl⟩ := he
   simp only [dense] at h
   by_cases hc : j' = i ∧ v.cells.length = n ∧ (g = true ↔ v.one = false) ∧ v.cells.all DV.one = true
   ·rw [if_pos hc] at h
    obtain ⟨rfl, hn, hg, ho⟩ := hc
    cases hd : dense g n (j' + 1) parts with
    | none => simp [hd] at h
    | some l =>
     simp only [hd, Option.some.injEq] at h
     subst h
     have hcl := hvu.cells
     have hcn : u.cells.size = n := by have := hcl.1; simp at this; omega
     have hrl : rest.length = n + l.length * n := by rw [hr, List.length_cons, Nat.add_mul]; omega
     obtain ⟨vo, g1, g2, g3, g4⟩ := dense_ok (i := j' + 1) (pre := pre ++ u.cells.toList) (rest := rest.drop n) h1' h2' hd (by simp [hp, hcn, Nat.add_mul]) (by simp [hrl])
     refine ⟨u.cells.toList ++ vo, ?_, ?_, ?_, ?_⟩
     ·simp only [Instr.fill]
      have hb : (decide (u.cells.size ≠ n) || decide (j' * n + u.cells.size > (pre ++ rest).toArray.size)) = false := by
       simp [hcn, hp, hrl]
      rw [hb]
      simp only [Bool.false_eq_true, if_false]
      have hfold : Array.foldl (fun cs x => match x with | (c, j) => cs.setIfInBounds (j' * n + j) c) (pre ++ rest).toArray u.cells.zipIdx = (pre ++ u.cells.toList ++ rest.drop n).toArray := by
       rw [← Array.foldl_toList, Array.toList_zipIdx]
       have := fold_set u.cells.toList 0 (j' * n) (pre ++ rest).toArray (by simp [hp, hrl, hcn])
       simp only [Nat.add_zero, List.toList_toArray] at this
       rw [this]
       have e1 : (pre ++ rest).take (j' * n) = pre := by rw [← hp, List.take_append_of_le_length (Nat.le_refl _), List.take_length]
       have e2 : (pre ++ rest).drop (j' * n + u.cells.toList.length) = rest.drop n := by
        rw [← hp, List.drop_append, List.drop_of_length_le (by omega), List.nil_append]
        congr 1
        simp [hcn]
       rw [e1, e2]
      rw [hfold, g1]
      simp
     ·simp only [flat]
      exact hcl.append g2
     ·intro e he
      rcases List.mem_cons.1 he with rfl | h
      ·exact hn
      ·exact g3 e h
     ·simp only [flat, List.all_append, ho, g4]; rfl
   ·rw [if_neg hc] at h; cases h
theorem buildSlice_ok (TO : TabOk P T) (r : Rel G H w) {t : TypeId} {len : Nat} {parts : List (Nat × DV)} {rp : List (Nat × Value)} (h1 : rp.map (·.1) = parts.map (·.1)) (h2 : VL G (parts.map (·.2)) (rp.map (·.2)))
  (h : buildSliceD T t len parts H = some (d, H')) : GoodV P G H w H' d ((Instr.buildSlice t len rp.toArray).run P w) := by
 unfold buildSliceD at h
 split at h
 ·rename_i e e1
  split at h
  ·rename_i td n z e2 e3 e4
   cases hd : dense (isAggD td) n 0 parts with
   | none => simp [hd] at h
   | some es =>
    simp only [hd] at h
    by_cases hc : es.length = len ∧ 0 < n ∧ z.cells.length = n ∧ len * n ≤ 16777216
    ·rw [if_pos hc] at h
     have hdH := Prod.mk.inj (Option.some.inj h)
     obtain ⟨rfl, hn, hzn, hbig⟩ := hc
     obtain ⟨zv, hz, hzv⟩ := run_zero TO e4 w
     have hzs : zv.cells.size = n := by have := (hzv G).cells.1; simp at this; omega
     generalize hZ : (if es.length * n = 0 then #[] else zv.cells) = zc
     have hrow : ((Array.range (es.length * n)).map fun x => zc[x % zc.size]!).toList.length = es.length * n := by simp
     obtain ⟨vo, g1, g2, g3, g4⟩ := dense_ok (i := 0) (pre := []) (rest := ((Array.range (es.length * n)).map fun x => zc[x % zc.size]!).toList) h1 h2 hd (by simp) hrow
     have hvol : vo.length = es.length * n := by rw [← g2.1, flat_length g3]
     have hrun : (Instr.buildSlice t es.length rp.toArray).run P w = .ok (.slice (some ⟨w.heap.size, 0, none⟩) es.length es.length) (w.alloc (.cells (vo ++ []).toArray e)) := by
      have hb : ¬ (es.length * n > 2 ^ 24) := by omega
      simp only [List.nil_append, Array.toArray_toList] at g1
      by_cases h00 : es.length * n = 0
      ·rw [if_pos h00] at hZ
       subst hZ
       simp only [Instr.buildSlice, Sem.run_bind, run_underlying (TO.und _ _ e1), Result.andThen_ok, run_sizeOf' TO e3, if_neg hb, if_pos h00, Sem.run_pure]
       rw [g1]
       simp [newRow]
      ·rw [if_neg h00] at hZ
       subst hZ
       simp only [Instr.buildSlice, Sem.run_bind, run_underlying (TO.und _ _ e1), Result.andThen_ok, run_sizeOf' TO e3, if_neg hb, if_neg h00, Sem.run_pure, hz]
       rw [g1]
       simp [newRow]
     rw [hrun, ← hdH.1, ← hdH.2]
     obtain ⟨G', st, hv⟩ := Step.newSlice r (es := es) (vs := vo) (post := []) (cap := es.length) (T' := e) (fr := (0, 0)) (cl := true) hn g3 g4 g2 (by simp [hvol]) (by simp) (by simp)
     exact ⟨G', hv, st⟩
    ·rw [if_neg hc] at h; cases h
  ·cases h
 ·cases h
end
end Go.Proofs.YtcknfhhbijlobaaGreatDoor.D
namespace Go.Proofs.YtcknfhhbijlobaaGreatDoor.D
open Go
set_option linter.unusedVariables false
set_option linter.unusedSimpArgs false
section
variable {P : Program} {T : Tab} {G : Ghost} {H H' : DH} {w : World} {d : DV}
theorem freeze_new (w : World) (c : Array Value) (e : TypeId) (n : Nat) : (w.alloc (.cells c e)).freeze { block := w.heap.size, off := n } 1 = w.alloc (.cells c e (n, n + 1)) := by
 unfold World.freeze
 simp only [Nat.one_ne_zero, if_false]
 unfold World.alloc
 congr 1
 apply Array.ext_getElem?
 intro k
 rw [Array.getElem?_modify]
 by_cases hk : w.heap.size = k
 ·subst hk; simp
 ·simp [hk, Array.getElem?_push]
  split
  ·omega
  ·rfl
theorem foldl_ints : ∀ (l : List Int) (r : ByteArray), l.foldl (fun r n => r.push (UInt8.ofNat n.toNat)) r = ⟨r.data ++ (l.map fun n => UInt8.ofNat n.toNat).toArray⟩
 | [], r => by simp
 | b :: l, r => by
  simp only [List.foldl_cons]
  rw [foldl_ints l]
  simp [ByteArray.push]
theorem bytesOf_ok : ∀ {es : List DV} {l : List UInt8} {vs : List Value}, VL G (flat es) vs → bytesOf es = some l → ∃ ns : List Int, vs = ns.map (Value.int .u8) ∧ l = ns.map fun n => UInt8.ofNat n.toNat
 | [], l, vs, hv, h => by
  simp [bytesOf] at h; subst h
  exact ⟨[], by simpa using hv.nil_inv, rfl⟩
 | e :: es, l, vs, hv, h => by
  unfold bytesOf at h
  split at h
  ·rename_i heq; cases heq
  ·rename_i n r heq
   cases heq
   cases hr : bytesOf es with
   | none => simp [hr] at h
   | some l' =>
    simp only [hr, Option.some.injEq] at h
    subst h
    simp only [flat, DV.cells, List.singleton_append] at hv
    obtain ⟨v, vs', rfl, h1, h2⟩ := hv.cons_inv
    cases h1
    obtain ⟨ns, rfl, rfl⟩ := bytesOf_ok h2 hr
    exact ⟨n :: ns, rfl, rfl⟩
  ·cases h
theorem conv_ok (TO : TabOk P T) (r : Rel G H w) {src dst : TypeId} {x : DV} {vx : Value} (hx : V G x vx) (hsrc : ∃ td, P.underlying src = some td) (h : convD T src dst x H = some (d, H')) :
  GoodV P G H w H' d ((convert src dst vx).run P w) := by
 obtain ⟨std, hstd⟩ := hsrc
 unfold convD at h
 split at h
 ·rename_i k k' n e1
  have hdH := Prod.mk.inj (Option.some.inj h)
  rw [← hdH.1, ← hdH.2]
  cases hx
  refine good_ok r (.int _ _) ?_
  cases std <;> simp [convert, run_underlying hstd, run_underlying (TO.und _ _ e1), Conv.intToInt]
 ·rename_i s e1
  have hdH := Prod.mk.inj (Option.some.inj h)
  rw [← hdH.1, ← hdH.2]
  cases hx
  refine good_ok r (.str _) ?_
  cases std <;> simp [convert, run_underlying hstd, run_underlying (TO.und _ _ e1)]
 ·rename_i e s e1
  split at h
  ·rename_i e2 e3
   by_cases hs : s.length < 9223372036854775808
   ·rw [if_pos hs] at h
    have hdH := Prod.mk.inj (Option.some.inj h)
    rw [← hdH.1, ← hdH.2]
    cases hx
    have hge := grownCap_ge w s.length 0 e
    have hst := Step.drew r
    have hlen : ((s.map fun b => Value.int .u8 (b.toNat : Int)) ++ List.replicate (grownCap w s.length 0 e - s.length) (Value.int .u8 0)).length = grownCap w s.length 0 e := by simp; omega
    obtain ⟨G', st, hv⟩ := Step.newSlice (w := w.drew) hst.rel (es := s.map byteDV) (vs := s.map fun b => Value.int .u8 (b.toNat : Int)) (post := List.replicate (grownCap w s.length 0 e - s.length) (Value.int .u8 0))
     (cap := grownCap w s.length 0 e) (sz := 1) (T' := e) (fr := (grownCap w s.length 0 e, grownCap w s.length 0 e + 1)) (by omega) (by simp [byteDV, DV.cells]) (ones_bytes s) (by rw [flat_bytes]; exact VL_bytes G s) (by rw [hlen, Nat.mul_one])
     (by intro o h1 h2; simp at h2 ⊢; omega) (cl := false) (by simp)
    have hrun : (convert src dst (.string ⟨s.toArray⟩)).run P w = .ok (.slice (some ⟨w.heap.size, 0, none⟩) s.length (grownCap w s.length 0 e))
      (w.drew.alloc (.cells ((s.map fun b => Value.int .u8 (b.toNat : Int)) ++ List.replicate (grownCap w s.length 0 e - s.length) (Value.int .u8 0)).toArray e (grownCap w s.length 0 e, grownCap w s.length 0 e + 1))) := by
     rw [← freeze_new]
     have hsh : (w.drew.alloc (.cells ((s.map fun b => Value.int .u8 (b.toNat : Int)) ++ List.replicate (grownCap w s.length 0 e - s.length) (Value.int .u8 0)).toArray e)).shape? w.heap.size = some (e, grownCap w s.length 0 e) := by
      unfold World.shape?
      rw [show w.heap.size = w.drew.heap.size from rfl, heap_alloc_new w.drew]
      simp only [List.size_toArray, hlen]
     have hconv : (convert src dst (.string ⟨s.toArray⟩)).run P w = (Conv.stringToBytes e ⟨s.toArray⟩).run P w := by
      cases std <;> simp [convert, run_underlying hstd, run_underlying (TO.und _ _ e1), run_underlying (TO.und _ _ e2)]
     rw [hconv]
     have harr : (Array.map (fun b : UInt8 => Value.int .u8 (b.toNat : Int)) s.toArray ++ Array.replicate (grownCap w s.length 0 e - s.length) (Value.int .u8 0)) = ((s.map fun b => Value.int .u8 (b.toNat : Int)) ++ List.replicate (grownCap w s.length 0 e - s.length) (Value.int .u8 0)).toArray := by
      apply Array.toList_inj.1
      simp
     have hg : (Question.appendCap s.length 0 e).cut (w.tape w.drawn (.appendCap s.length 0 e)) = grownCap w s.length 0 e := rfl
     simp only [Conv.stringToBytes, ba_size, Sem.run_bind, run_choose, Question.forced, Bool.false_eq_true, if_false, World.drew_eq, Result.andThen_ok, hg, harr, newRow, run_newObj, World.alloc_eq, Sem.run_pure, markStringish, run_shape, World.size_drew, hsh, run_freeze]
    rw [hrun]
    simp only [D.newSl, List.length_map] at st hv ⊢
    exact ⟨G', hv, hst.trans st⟩
   ·rw [if_neg hs] at h; cases h
  ·cases h
 ·rename_i b off e1
  split at h
  ·rename_i t e2
   split at h
   ·rename_i n T0 cs e3 hm
    by_cases hc : n ≠ 0 ∧ off < cs.length
    ·rw [if_pos hc] at h
     have hdH := Prod.mk.inj (Option.some.inj h)
     rw [← hdH.1, ← hdH.2]
     cases hx with
     | ptr hρ =>
      rename_i B s
      obtain ⟨⟨pre, vs, post, T', fr, h1, h2, h3, h4, rfl, rfl, rfl⟩, h5⟩ := r.cells _ _ _ hm _ _ hρ
      have hs0 : s = 0 := by simpa using h2.symm
      subst hs0
      have hsh : w.shape? B = some (T', vs.length) := by simp [World.shape?, h1]
      have hlt : off < vs.length := by rw [← h3.1]; exact hc.2
      refine good_ok r (V.ptr hρ) ?_
      have hn1 : ¬ vs.length ≤ off := by omega
      simp [convert, run_underlying (TO.und _ _ e2), run_underlying (TO.und _ _ e1), Conv.unsafePointer, Conv.seenAt, viewAt, cellsIn, hsh, run_sizeOf' TO e3, hc.1, hn1]
    ·rw [if_neg hc] at h; cases h
   ·cases h
  ·cases h
 ·rename_i u b off e1
  split at h
  ·rename_i e2
   split at h
   ·rename_i t cs hm
    by_cases hc : T.lies t cs.length off u = true
    ·rw [if_pos hc] at h
     have hdH := Prod.mk.inj (Option.some.inj h)
     rw [← hdH.1, ← hdH.2]
     cases hx with
     | ptr hρ =>
      rename_i B s
      obtain ⟨⟨pre, vs, post, T', fr, h1, h2, h3, h4, rfl, rfl, rfl⟩, h5⟩ := r.cells _ _ _ hm _ _ hρ
      have hs0 : s = 0 := by simpa using h2.symm
      subst hs0
      have hsh : w.shape? B = some (T', vs.length) := by simp [World.shape?, h1]
      obtain ⟨hl, i, hi⟩ := TO.lies _ _ _ _ hc
      rw [h3.1] at hl
      refine good_ok r (V.ptr hρ) ?_
      simp [convert, run_underlying (TO.und _ _ e2), run_underlying (TO.und _ _ e1), Conv.unsafePointer, Conv.seenAt, viewAt, variablesAt, hsh, sizeOf, typeInfo, hi, hl]
    ·rw [if_neg hc] at h; cases h
   ·cases h
  ·cases h
 ·rename_i e1
  split at h
  ·rename_i e e2
   split at h
   ·rename_i e3
    have hdH := Prod.mk.inj (Option.some.inj h)
    rw [← hdH.1, ← hdH.2]
    cases hx
    refine good_ok r (V.str []) ?_
    simp [convert, run_underlying (TO.und _ _ e2), run_underlying (TO.und _ _ e1), run_underlying (TO.und _ _ e3), Conv.bytesToString]
    rfl
   ·cases h
  ·cases h
 ·rename_i id sz off es e1
  split at h
  ·rename_i e e2
   split at h
   ·rename_i l e3 e4
    by_cases hs : sz = 1
    ·rw [if_pos hs] at h
     have hdH := Prod.mk.inj (Option.some.inj h)
     rw [← hdH.1, ← hdH.2]
     cases hx with
     | sl hsz he ho hl him hvv hln hcap hp =>
      rename_i vs B o cap len
      subst hs; subst hln
      obtain ⟨ns, rfl, rfl⟩ := bytesOf_ok ⟨hl, hvv⟩ e4
      refine good_ok r (V.str _) ?_
      have hnl : ns.length = es.length := by have := hl; rw [flat_length he] at this; simpa using this.symm
      have hld := run_loadCells_list (P := P) w ⟨B, o, none⟩ (ns.map (Value.int .u8)) (fun j v hj => by rw [addr_add]; exact r.imCell (him j v hj))
      simp only [List.length_map] at hld
      have := run_bytesToString (P := P) w ⟨B, o, none⟩ es.length cap ns (by rw [← hnl]; exact hld)
      rw [foldl_ints] at this
      have he0 : ByteArray.empty.data = #[] := rfl
      rw [he0] at this
      rw [run_convert_bytes_string w src dst e (some ⟨B, o, none⟩) es.length cap (TO.und _ _ e2) (TO.und _ _ e3) (TO.und _ _ e1), this]
      simp
    ·rw [if_neg hs] at h; cases h
   ·cases h
  ·cases h
 ·cases h
theorem bound_ok {x : Option DV} {vx : Option Value} {dflt top top' n : Nat} {code : BoundsCode} (hx : match x, vx with | none, none => True | some a, some b => V G a b | _, _ => False) (ht : top ≤ top') (h : boundD x dflt top = some n) :
  (match vx with | some v => Instr.sliceBound v top' code | none => pure dflt : Sem Nat).run P w = .ok n w := by
 unfold boundD at h
 split at h
 ·cases vx with
  | none => simp at h; subst h; rfl
  | some v => exact hx.elim
 ·rename_i k i
  cases vx with
  | none => exact hx.elim
  | some v =>
   cases hx
   split at h
   ·rename_i hc
    obtain rfl := Option.some.inj h
    have : (0 : Int) ≤ i ∧ i ≤ (top' : Int) := by omega
    simp [Instr.sliceBound, asIntOf, this]
   ·cases h
 ·cases h
def OptV (G : Ghost) (x : Option DV) (vx : Option Value) : Prop := match x, vx with | none, none => True | some a, some b => V G a b | _, _ => False
theorem bounds_ok {b : Bool} {lo hi : Option DV} {vlo vhi : Option Value} {len cap l h : Nat} (hlo : OptV G lo vlo) (hhi : OptV G hi vhi) (hc : len ≤ cap)
  (h1 : boundD hi len len = some h) (h2 : boundD lo 0 h = some l) (w : World) : (Instr.sliceBounds b len cap vlo vhi none).run P w = .ok (l, h, cap) w := by
 unfold Instr.sliceBounds
 have e1 := fun c => bound_ok (P := P) (w := w) (code := c) (top' := cap) hhi hc h1
 have e2 := fun c => bound_ok (P := P) (w := w) (code := c) (top' := h) hlo (Nat.le_refl _) h2
 cases vhi <;> cases vlo <;> simp at e1 e2 <;> simp [e1, e2]
theorem bound_le {x : Option DV} {dflt top n : Nat} (hd : dflt ≤ top) (h : boundD x dflt top = some n) : n ≤ top := by
 unfold boundD at h
 split at h
 ·simp at h; omega
 ·split at h
  ·simp at h; omega
  ·cases h
 ·cases h
theorem flat_drop {sz : Nat} : ∀ {es : List DV} (l : Nat), (∀ e ∈ es, e.cells.length = sz) → flat (es.drop l) = (flat es).drop (l * sz)
 | [], l, h => by simp [flat]
 | e :: es, 0, h => by simp
 | e :: es, l + 1, h => by
  rw [List.drop_succ_cons, flat_drop l fun x hx => h x (by simp [hx])]
  simp only [flat]
  have : (l + 1) * sz = e.cells.length + l * sz := by rw [h e (by simp), Nat.add_mul]; omega
  rw [this, ← List.drop_drop, List.drop_left]
theorem flat_take {sz : Nat} : ∀ {es : List DV} (l : Nat), (∀ e ∈ es, e.cells.length = sz) → flat (es.take l) = (flat es).take (l * sz)
 | [], l, h => by simp [flat]
 | e :: es, 0, h => by simp [flat]
 | e :: es, l + 1, h => by
  rw [List.take_succ_cons]
  simp only [flat]
  have : (l + 1) * sz = e.cells.length + l * sz := by rw [h e (by simp), Nat.add_mul]; omega
  rw [flat_take l fun x hx => h x (by simp [hx]), this, List.take_length_add_append]
theorem ba_extract (s : List UInt8) (l h : Nat) : (⟨s.toArray⟩ : ByteArray).extract l h = ⟨((s.take h).drop l).toArray⟩ := by
 apply ByteArray.ext
 rw [ByteArray.data_extract]
 apply Array.toList_inj.1
 rw [List.drop_take]
 simp
theorem slice_ok (TO : TabOk P T) (r : Rel G H w) {t : TypeId} {x : DV} {vx : Value} {lo hi : Option DV} {vlo vhi : Option Value} (hx : V G x vx) (hlo : OptV G lo vlo) (hhi : OptV G hi vhi)
  (h : sliceD T t x lo hi = some d) : GoodV P G H w H d ((Instr.sliceAt t vx vlo vhi none).run P w) := by
 unfold sliceD at h
 split at h
 ·rename_i s e1
  cases hx
  split at h
  ·rename_i hh e2
   split at h
   ·rename_i l e3
    obtain rfl := Option.some.inj h
    refine good_ok r (V.str _) ?_
    have := bounds_ok (P := P) (b := false) hlo hhi (Nat.le_refl s.length) e2 e3 w
    simp [Instr.sliceAt, Instr.slice, run_underlying (TO.und _ _ e1), ba_size, this, ba_extract]
   ·cases h
  ·cases h
 ·rename_i e id sz off es e1
  by_cases hsz : T.size e = some sz
  ·rw [if_pos hsz] at h
   split at h
   ·rename_i hh e2
    split at h
    ·rename_i l e3
     obtain rfl := Option.some.inj h
     cases hx with
     | sl hsz0 he ho hl him hvv hln hcap hp =>
      rename_i vs B o cap len
      subst hln
      have hb := bounds_ok (P := P) (b := true) hlo hhi hcap e2 e3 w
      have h1 := bound_le (Nat.le_refl _) e2
      have h2 := bound_le (Nat.zero_le _) e3
      have hrun : (Instr.sliceAt t (.slice (some ⟨B, o, none⟩) es.length cap) vlo vhi none).run P w = .ok (.slice (some ⟨B, if cap = l then o else o + l * sz, none⟩) (hh - l) (cap - l)) w := by
       simp only [Instr.sliceAt, Instr.slice, Sem.run_bind, run_underlying (TO.und _ _ e1), Result.andThen_ok, hb, run_sizeOf' TO hsz, Sem.run_pure]
       split
       ·rfl
       ·simp [addr_add]
      have hes : ∀ x ∈ (es.take hh).drop l, x.cells.length = sz := fun x hx => he x (List.mem_of_mem_take (List.mem_of_mem_drop hx))
      have hfl : flat ((es.take hh).drop l) = ((flat es).take (hh * sz)).drop (l * sz) := by
       rw [flat_drop l fun x hx => he x (List.mem_of_mem_take hx), flat_take hh he]
      have hlen : ((es.take hh).drop l).length = hh - l := by simp; omega
      refine good_ok r (V.sl (vs := (vs.take (hh * sz)).drop (l * sz)) hsz0 hes ?_ ?_ ?_ ?_ hlen.symm (by omega) ?_) hrun
      ·rw [hfl]
       rw [List.all_eq_true] at ho ⊢
       exact fun x hx => ho x (List.mem_of_mem_take (List.mem_of_mem_drop hx))
      ·rw [hfl]; simp [hl]
      ·intro i v hi
       rw [List.getElem?_drop, List.getElem?_take] at hi
       split at hi
       ·rename_i hlt
        have hcl : cap ≠ l := by
         rintro rfl
         have : hh * sz ≤ cap * sz := Nat.mul_le_mul_right _ (by omega)
         omega
        rw [if_neg hcl, Nat.add_assoc]
        exact him _ _ hi
       ·cases hi
      ·rw [hfl]
       exact (((VL.take ⟨hl, hvv⟩ (hh * sz)).drop (l * sz))).2
      ·by_cases hcl : cap = l
       ·left; omega
       ·rcases hp with hp | hp | ⟨e', p, pc, q1, q2, q3, q4⟩
        ·left; omega
        ·right; left; exact hp
        ·right; right
         refine ⟨e', p, pc, by omega, q2, ?_, ?_⟩
         ·rw [if_neg hcl, ← q3, Nat.add_assoc, ← Nat.add_mul]
          congr 2; omega
         ·rw [if_neg hcl, Nat.add_assoc, ← Nat.add_mul, show l + (cap - l) = cap by omega]
          exact q4
    ·cases h
   ·cases h
  ·rw [if_neg hsz] at h; cases h
 ·rename_i e b sz off len e1
  by_cases hsz : T.size e = some sz
  ·rw [if_pos hsz] at h
   split at h
   ·rename_i hh e2
    split at h
    ·rename_i l e3
     obtain rfl := Option.some.inj h
     cases hx with
     | hs hρ hcap hp =>
      rename_i B s o cap
      have hb := bounds_ok (P := P) (b := true) hlo hhi hcap e2 e3 w
      have h1 := bound_le (Nat.le_refl _) e2
      have h2 := bound_le (Nat.zero_le _) e3
      have hrun : (Instr.sliceAt t (.slice (some ⟨B, o, none⟩) len cap) vlo vhi none).run P w = .ok (.slice (some ⟨B, if cap = l then o else o + l * sz, none⟩) (hh - l) (cap - l)) w := by
       simp only [Instr.sliceAt, Instr.slice, Sem.run_bind, run_underlying (TO.und _ _ e1), Result.andThen_ok, hb, run_sizeOf' TO hsz, Sem.run_pure]
       split
       ·rfl
       ·simp [addr_add]
      refine good_ok r (V.hs hρ (by omega) ?_) hrun
      by_cases hcl : cap = l
      ·left; omega
      ·rcases hp with hp | ⟨rfl, p, pc, q1, q2⟩
       ·left; omega
       ·right
        rw [if_neg hcl]
        refine ⟨by omega, p, pc, q1, ?_⟩
        rw [Nat.add_assoc, ← Nat.add_mul, show l + (cap - l) = cap by omega]
        exact q2
    ·cases h
   ·cases h
  ·rw [if_neg hsz] at h; cases h
 ·rename_i e e1
  cases hx
  split at h
  ·rename_i hh n e2 e4
   split at h
   ·rename_i l e3
    obtain rfl := Option.some.inj h
    have hb := bounds_ok (P := P) (b := true) hlo hhi (Nat.le_refl 0) e2 e3 w
    have h1 := bound_le (Nat.le_refl _) e2
    have h2 := bound_le (Nat.zero_le _) e3
    obtain rfl : hh = 0 := by omega
    obtain rfl : l = 0 := by omega
    refine good_ok r .nils ?_
    simp [Instr.sliceAt, Instr.slice, run_underlying (TO.und _ _ e1), hb, run_sizeOf' TO e4]
   ·cases h
  ·cases h
 ·cases h
end
end Go.Proofs.YtcknfhhbijlobaaGreatDoor.D
namespace Go.Proofs.YtcknfhhbijlobaaGreatDoor.D
open Go
set_option linter.unusedVariables false
set_option linter.unusedSimpArgs false
section
variable {P : Program} {T : Tab} {G : Ghost} {H H' : DH} {w : World} {d : DV}
theorem Step.refreeze (r : Rel G H w) {id k B p pc : Nat} {T0 : TypeId} {c : Array Value} {T' : TypeId} {fr fr' : Nat × Nat} (hm : H.m id = some (.tip T0 k true)) (hp : G.place id k = some (B, p, pc))
  (hc : w.heap[B]? = some (.cells c T' fr)) (hfr : fr'.2 ≤ p) : Step G H w G H (putBlk w B (.cells c T' fr')) := by
 obtain ⟨h0, h9⟩ := r.tips id T0 k true hm
 obtain ⟨⟨c', T'', fr'', h1, h2, h3, h4, h6, h7⟩, h5⟩ := h9 B p pc hp
 rw [hc] at h1
 obtain ⟨rfl, rfl, rfl⟩ : c = c' ∧ T' = T'' ∧ fr = fr'' := by simpa using h1
 have hown : ownR G H id = some B := by simp [ownR, hm, hp]
 have hat : (putBlk w B (.cells c T' fr')).heap[B]? = some (.cells c T' fr') := putBlk_at hc
 have hne : ∀ b B', b ≠ id → ownR G H b = some B' → B' ≠ B := fun b B' hb h e => hb (r.inj b id B (e ▸ h) hown)
 refine ⟨.refl G, ⟨r.wf, ?_, ?_, ?_, ?_, ?_, ?_, r.inj, r.z⟩, rfl, rfl, rfl, by simp [putBlk], fun B' hB hn => putBlk_ne fun e => hn id (e ▸ hown), fun b B' h => .inl ⟨b, h⟩, fun _ _ _ _ => rfl⟩
 ·intro B' q v h
  obtain ⟨c', T, fr2, g1, g2⟩ := r.im B' q v h
  by_cases hB : B' = B
  ·subst hB
   rw [hc] at g1
   obtain ⟨rfl, rfl, rfl⟩ : c = c' ∧ T' = T ∧ fr = fr2 := by simpa using g1
   exact ⟨c, T', fr', hat, g2⟩
  ·exact ⟨c', T, fr2, by rw [putBlk_ne hB]; exact g1, g2⟩
 ·intro b T cs hmb B' s hpb
  have hb : b ≠ id := by rintro rfl; rw [hm] at hmb; cases hmb
  obtain ⟨⟨pre, vs, post, T2, fr2, g1, g2⟩, g3⟩ := r.cells b T cs hmb B' s hpb
  have hBB := hne b B' hb (by simp [ownR, hmb, hpb])
  exact ⟨⟨pre, vs, post, T2, fr2, by rw [putBlk_ne hBB]; exact g1, g2⟩, g3⟩
 ·intro b T cs hmb B' s hpb
  have hb : b ≠ id := by rintro rfl; rw [hm] at hmb; cases hmb
  obtain ⟨⟨p2, pc2, c2, fr2, vs, g0, g1, g2⟩, g3⟩ := r.rows b T cs hmb B' s hpb
  have hBB := hne b B' hb (by simp [ownR, hmb, hpb])
  exact ⟨⟨p2, pc2, c2, fr2, vs, g0, by rw [putBlk_ne hBB]; exact g1, g2⟩, g3⟩
 ·intro b T n cl hmb
  obtain ⟨g0, g9⟩ := r.tips b T n cl hmb
  refine ⟨g0, fun B' p' pc' hp' => ?_⟩
  by_cases hb : b = id
  ·subst hb
   rw [hm] at hmb
   cases hmb
   rw [hp] at hp'
   cases hp'
   exact ⟨⟨c, T', fr', hat, h2, h3, fun o ho1 ho2 ⟨_, h⟩ => by omega, h6, fun _ => hfr⟩, h5⟩
  ·obtain ⟨⟨c2, T2, fr2, g1, g2⟩, g3⟩ := g9 B' p' pc' hp'
   have hBB := hne b B' hb (by simp [ownR, hmb, hp'])
   exact ⟨⟨c2, T2, fr2, by rw [putBlk_ne hBB]; exact g1, g2⟩, g3⟩
 ·intro b s pos hmb B' x hpb
  have hb : b ≠ id := by rintro rfl; rw [hm] at hmb; cases hmb
  obtain ⟨g1, g2, g3⟩ := r.iters b s pos hmb B' x hpb
  exact ⟨g1, by rw [putBlk_ne (hne b B' hb (by simp [ownR, hmb, hpb]))]; exact g2, g3⟩
 ·intro b es hmb B' x hpb
  have hb : b ≠ id := by rintro rfl; rw [hm] at hmb; cases hmb
  obtain ⟨g1, ⟨ms, clk, g2, g3⟩, g4⟩ := r.maps b es hmb B' x hpb
  exact ⟨g1, ⟨ms, clk, by rw [putBlk_ne (hne b B' hb (by simp [ownR, hmb, hpb]))]; exact g2, g3⟩, g4⟩
theorem data_ok (r : Rel G H w) {x : DV} {vx : Value} {ts : Array TypeId} {ty : TypeId} (hx : V G x vx) (h : dataD x = some d) : GoodV P G H w H d ((Builtin.unsafeSliceData_ ts ty #[vx]).run P w) := by
 unfold dataD at h
 split at h
 ·cases hx
  obtain rfl := Option.some.inj h
  exact good_ok r .nilp rfl
 ·rename_i id sz off es
  by_cases he0 : es.isEmpty = true
  ·rw [if_pos he0] at h; cases h
  ·rw [if_neg he0] at h
   obtain rfl := Option.some.inj h
   cases hx with
   | sl hsz he ho hl him hvv hln hcap hp =>
    rename_i vs B o cap len
    subst hln
    have hne : es ≠ [] := by simpa using he0
    have hpos : 0 < es.length := List.length_pos_iff.2 hne
    exact good_ok r (V.sd hne hsz he hl him hvv (hp.resolve_left (by omega)) hcap) (Lib.run_unsafeSliceData_row w _ _ _ _ _ (by omega))
 ·cases h
theorem VL_repl {z : DV} {zv : List Value} (h : VL G z.cells zv) : ∀ l : Nat, VL G (flat (List.replicate l z)) (List.replicate l zv).flatten
 | 0 => .nil _
 | l + 1 => by
  simp only [List.replicate_succ, flat, List.flatten_cons]
  exact h.append (VL_repl h l)
theorem repl_get {zv : List Value} {n : Nat} (hz : zv.length = n) (hn : 0 < n) : ∀ (l j : Nat) (v : Value), ((List.replicate l zv).flatten)[j]? = some v → zv[j % n]? = some v ∧ j < l * n
 | 0, j, v, h => by simp at h
 | l + 1, j, v, h => by
  rw [List.replicate_succ, List.flatten_cons] at h
  rcases Nat.lt_or_ge j n with hj | hj
  ·rw [List.getElem?_append_left (by omega)] at h
   rw [Nat.mod_eq_of_lt hj, Nat.add_mul]
   exact ⟨h, by omega⟩
  ·rw [List.getElem?_append_right (by omega), hz] at h
   obtain ⟨h1, h2⟩ := repl_get hz hn l (j - n) v h
   rw [Nat.add_mul]
   refine ⟨?_, by omega⟩
   rw [← h1, Nat.mod_eq_sub_mod hj]
theorem repl_len {zv : List Value} {n : Nat} (hz : zv.length = n) : ∀ l : Nat, ((List.replicate l zv).flatten).length = l * n
 | 0 => by simp
 | l + 1 => by rw [List.replicate_succ, List.flatten_cons, List.length_append, repl_len hz l, hz, Nat.add_mul]; omega
theorem makeSlice_ok (TO : TabOk P T) (r : Rel G H w) {t : TypeId} {x y : DV} {vx vy : Value} (hx : V G x vx) (hy : V G y vy) (h : makeSliceD T t x y H = some (d, H')) :
  GoodV P G H w H' d ((Instr.makeSlice t vx vy).run P w) := by
 unfold makeSliceD at h
 split at h
 ·rename_i e l c e1
  cases hx; cases hy
  split at h
  ·rename_i n by_ z e2 e3 e5
   split at h
   ·rename_i hc
    obtain ⟨hl0, hlc, hc63, hby, hn, hzl, hzo⟩ := hc
    have hdH := Prod.mk.inj (Option.some.inj h)
    rw [← hdH.1, ← hdH.2]
    obtain ⟨i, i1, i2⟩ := TO.size _ _ e2
    obtain ⟨i', j1, j2⟩ := TO.bytes _ _ e3
    obtain ⟨i'', zv, k1, k2, k3⟩ := TO.zero _ _ e5
    rw [i1] at j1 k1
    obtain rfl := Option.some.inj j1
    obtain rfl := Option.some.inj k1
    subst i2; subst j2
    have hzs : zv.cells.size = i.size := by have := (k3 G).cells.1; simp [hzl] at this; omega
    have wl : IntKind.i64.wrap l = l := by unfold IntKind.wrap; simp [IntKind.signed, IntKind.bits]; omega
    have wc : IntKind.i64.wrap c = c := by unfold IntKind.wrap; simp [IntKind.signed, IntKind.bits]; omega
    have hbig : ¬ (281474976710656 < (i.bytes : Int) * c) := by omega
    have hneg : ¬ (c < 0) := by omega
    have hneg2 : ¬ (l < 0) := by omega
    have hgt : ¬ (c < l) := by omega
    have hn0 : ¬ (i.size = 0) := by omega
    let arr : Array Value := (Array.range (c.toNat * i.size)).map (zv.cells[· % zv.cells.size]!)
    have hrun : (Instr.makeSlice t (.int .i64 l) (.int .i64 c)).run P w = .ok (.slice (some ⟨w.heap.size, 0, none⟩) l.toNat c.toNat) (w.alloc (.cells arr e)) := by
     have hz : (zeroValue e).run P w = .ok zv w := by simp [zeroValue, typeInfo, i1, k2]
     by_cases hc0 : c.toNat * i.size = 0
     ·have hzc : ∀ w, (if c.toNat * i.size = 0 then (pure #[] : Sem (Array Value)) else do pure (← zeroValue e).cells).run P w = .ok #[] w := fun w => by rw [if_pos hc0]; rfl
      simp only [Instr.makeSlice, asInt, asIntOf, Sem.run_bind, Sem.run_pure, Result.andThen_ok, run_underlying (TO.und _ _ e1), typeInfo, run_program, i1, wl, wc]
      simp [hbig, hneg, hneg2, hgt, sizeOf, typeInfo, i1, hc0, newRow, arr]
      have r0 : Array.range 0 = #[] := rfl
      simp [r0]
     ·simp only [Instr.makeSlice, asInt, asIntOf, Sem.run_bind, Sem.run_pure, Result.andThen_ok, run_underlying (TO.und _ _ e1), typeInfo, run_program, i1, wl, wc]
      simp [hbig, hneg, hneg2, hgt, sizeOf, typeInfo, i1, hc0, newRow, arr, zeroValue, k2]
    rw [hrun]
    have hVL := VL_repl (G := G) (k3 G).cells l.toNat
    have hlen := repl_len (zv := zv.cells.toList) (n := i.size) (by simpa using hzs) l.toNat
    have hle : l.toNat ≤ c.toNat := by omega
    obtain ⟨G', st, g1, g2⟩ := Step.row (w := w) (w' := w.alloc (.cells arr e)) r (b0 := H.next) (B := w.heap.size) (s := 0)
     (pc := c.toNat * i.size) (T := e) (cs := flat (List.replicate l.toNat z)) (c := arr) (fr := (0, 0)) (vs := (List.replicate l.toNat zv.cells.toList).flatten) (H' := (newHs H e i.size l.toNat (flat (List.replicate l.toNat z))).2)
     ⟨rfl, by simp [newHs, DH.new], fun q hq => .inl (by simp [newHs, DH.new, hq])⟩ (.inr rfl) (heap_alloc_new w _) (fun B' h1 _ => heap_alloc_old w _ B' h1) (by simp)
     (by rw [hVL.1, hlen, Nat.zero_add]; exact Nat.mul_le_mul_right _ hle) (by simp [arr]) hVL
     (fun j v hj => by
      obtain ⟨q1, q2⟩ := repl_get (by simpa using hzs) hn _ _ _ hj
      have q3 : j < c.toNat * i.size := Nat.lt_of_lt_of_le q2 (Nat.mul_le_mul_right _ hle)
      have q4 : j % i.size < zv.cells.size := by rw [hzs]; exact Nat.mod_lt _ hn
      simp only [Array.getElem?_toList] at q1
      rw [Array.getElem?_eq_getElem q4] at q1
      simp only [Nat.zero_add, arr, Array.getElem?_map, Array.getElem?_range, if_pos q3, Option.map_some, hzs]
      rw [← q1]
      simp [getElem!_def, q4]) (by simp) rfl rfl rfl
    exact ⟨G', V.hs g1 hle (.inr ⟨rfl, 0, _, g2, by simp⟩), st⟩
   ·cases h
  ·cases h
 ·cases h
theorem liesAt_off {e cells off n : Nat} (hc : P.cellsOf e = 1) (hn : off + n ≤ cells / P.cellsOf e) : liesAt P P.depth e (cells / P.cellsOf e) off e n = true := by
 obtain ⟨k, hd⟩ : ∃ k, P.depth = k + 1 := ⟨_, rfl⟩
 rw [hd]
 simp only [liesAt, Bool.or_eq_true]
 left
 rw [hd]
 simp [rowAt, hc, sameLayout]
 left
 rw [hc] at hn
 exact ⟨Nat.mod_one _, by simpa using hn⟩
theorem run_loadBytesI : ∀ (ns : List Int) (a : Addr) (acc : ByteArray) (w : World), (∀ (j : Nat) (x : Int), ns[j]? = some x → w.cell? (a.add j) = some (.int .u8 x)) →
  (loadBytes a acc ns.length).run P w = .ok ⟨acc.data ++ (ns.map fun n => UInt8.ofNat n.toNat).toArray⟩ w
 | [], a, acc, w, _ => by simp [loadBytes]
 | x :: l, a, acc, w, h => by
  have h0 : w.cell? a = some (.int .u8 x) := by
   have := h 0 x rfl
   simpa [Addr.add] using this
  have ih := run_loadBytesI l (a.add 1) (acc.push (x.toNat).toUInt8) w (fun j y hy => by
   have := h (j + 1) y (by simpa using hy)
   have e : (a.add 1).add j = a.add (j + 1) := by
    unfold Addr.add
    by_cases hj : j = 0
    ·subst hj; simp
    ·simp [hj]; omega
   rw [e]; exact this)
  simp only [List.length_cons, loadBytes, Sem.run_bind, run_load, h0, Result.andThen]
  rw [ih]
  congr 1
  apply ByteArray.ext
  simp [ByteArray.push]
theorem run_unsafeString_off (w : World) (pt it ty e : TypeId) (hp : P.underlying pt = some (.pointer e)) (hc : P.cellsOf e = 1) (g o cells : Nat) (hsh : w.shape? g = some (e, cells)) (l : List Int) (h0 : l ≠ []) (hn : o + l.length ≤ cells) (h63 : l.length ≤ 9223372036854775807)
  (hcell : ∀ (j : Nat) (x : Int), l[j]? = some x → w.cell? ((⟨g, o, none⟩ : Addr).add j) = some (.int .u8 x)) :
  (Builtin.unsafeString_ #[pt, it] ty #[.pointer (some ⟨g, o, none⟩), .int .i64 l.length]).run P w = .ok (.string ⟨(l.map fun n => UInt8.ofNat n.toNat).toArray⟩) (w.freeze ⟨g, o, none⟩ l.length) := by
 have hl : l.length ≠ 0 := by simpa using h0
 have hlb := run_loadBytesI (P := P) l ⟨g, o, none⟩ .empty w hcell
 have hlies := liesAt_off (P := P) (cells := cells) (off := o) (n := l.length) hc (by rw [hc]; simpa using hn)
 have h63' : ¬ (9223372036854775807 : Int) < (l.length : Int) := by omega
 have hdef : Builtin.unsafeString_ #[pt, it] ty #[.pointer (some ⟨g, o, none⟩), .int .i64 l.length] =
   (do
    let n ← asInt (.int .i64 l.length)
    if n < 0 then runtimePanic (.error "unsafe.String: len out of range")
    if n > IntKind.i64.max then unsupported (.unsafePointer "String: a length above the largest int")
    if n = 0 then pure (.string .empty)
    else if ← variablesAt ⟨g, o, none⟩ (← elemOf pt) n.toNat then do
     let s ← loadBytes ⟨g, o, none⟩ .empty n.toNat
     freeze ⟨g, o, none⟩ n.toNat
     pure (.string s)
    else unsupported (.unsafePointer "String: not so many bytes at ptr")) := rfl
 rw [hdef]
 have hmax : IntKind.i64.max = 9223372036854775807 := rfl
 have hneg : ¬ (l.length : Int) < 0 := by omega
 simp [asInt, asIntOf, hmax, h63', hneg, hl, variablesAt, hsh, elemOf, run_underlying hp, hlies, hlb]
theorem freeze_put {w : World} {B o n : Nat} {c : Array Value} {T : TypeId} {fr : Nat × Nat} (h : w.heap[B]? = some (.cells c T fr)) (hn : n ≠ 0) :
  w.freeze ⟨B, o, none⟩ n = putBlk w B (.cells c T (if fr.1 == fr.2 then (o, o + n) else (min fr.1 o, max fr.2 (o + n)))) := by
 have hlt := (Array.getElem?_eq_some_iff.1 h).1
 have hv := (Array.getElem?_eq_some_iff.1 h).2
 unfold World.freeze putBlk
 rw [if_neg hn]
 congr 1
 apply Array.ext_getElem?
 intro k
 rw [Array.getElem?_modify, Array.getElem?_setIfInBounds]
 by_cases hk : B = k
 ·subst hk
  obtain ⟨lo, hi⟩ := fr
  simp [hlt, hv]
 ·simp [hk]
theorem cellsOf_size (TO : TabOk P T) {t : TypeId} {n : Nat} (h : T.size t = some n) : P.cellsOf t = n := by
 obtain ⟨i, h1, h2⟩ := TO.size _ _ h
 simp [Program.cellsOf, h1, h2]
theorem unsafeStr_ok (TO : TabOk P T) (r : Rel G H w) {pt it ty : TypeId} {x y : DV} {vx vy : Value} (hx : V G x vx) (hy : V G y vy) (h : unsafeStrD T H pt x y = some d) :
  GoodV P G H w H d ((Builtin.unsafeString_ #[pt, it] ty #[vx, vy]).run P w) := by
 unfold unsafeStrD at h
 split at h
 ·rename_i i
  by_cases hi : i = 0
  ·rw [if_pos hi] at h
   subst hi
   obtain rfl := Option.some.inj h
   cases hx; cases hy
   exact good_ok r (V.str []) (Lib.run_unsafeString_none w pt it ty none)
  ·rw [if_neg hi] at h; cases h
 ·rename_i id sz off es i
  split at h
  ·rename_i e e' k l e1 hm e2
   by_cases hc : e' = e ∧ sz = 1 ∧ T.size e = some 1 ∧ k = off + es.length ∧ i = es.length ∧ es.length < 9223372036854775808
   ·rw [if_pos hc] at h
    obtain rfl := Option.some.inj h
    obtain ⟨rfl, rfl, hsz1, rfl, rfl, hlen⟩ := hc
    cases hy
    cases hx with
    | sd hne hsz he hl him hvv hp hcap =>
     rename_i vs B o cap
     rcases hp with rfl | ⟨e2', p, pc, q1, q2, q3, q4⟩
     ·rw [r.z.2] at hm; cases hm
     ·obtain ⟨t0, t9⟩ := r.tips id _ _ _ hm
      have hek : e2' = off + es.length := by have := t0 e2' (by rw [q2]; simp); omega
      subst hek
      obtain ⟨⟨c, T', fr, c1, c2, c3, c4, rfl, c6⟩, c5⟩ := t9 _ _ _ q2
      have hp' : o + es.length = p := by rw [← q3]; simp
      obtain ⟨ns, rfl, rfl⟩ := bytesOf_ok ⟨hl, hvv⟩ e2
      have hnl : ns.length = es.length := by have := hl; rw [flat_length he] at this; simpa using this.symm
      have hn0 : es.length ≠ 0 := by simpa using hne
      have hfz := c6 rfl
      have hrange : ∀ (j : Nat) (x : Int), ns[j]? = some x → w.cell? ⟨B, o + j, none⟩ = some (.int .u8 x) := fun j x hj => r.imCell (him j _ (by simp [hj]))
      have hsh : w.shape? B = some (T', c.size) := by simp [World.shape?, c1]
      have hrun := run_unsafeString_off (P := P) w pt it ty T' (TO.und _ _ e1) (cellsOf_size TO hsz1) B o c.size hsh ns (by rintro rfl; simp at hnl; exact hn0 hnl.symm) (by omega) (by omega) (fun j x hj => by rw [addr_add]; exact hrange j x hj)
      rw [hnl] at hrun
      rw [hrun, freeze_put c1 hn0]
      refine ⟨G, V.str _, Step.refreeze r hm q2 c1 ?_⟩
      split
      ·simp only; omega
      ·simp only; omega
   ·rw [if_neg hc] at h; cases h
  ·cases h
 ·cases h
end
end Go.Proofs.YtcknfhhbijlobaaGreatDoor.D
namespace Go.Proofs.YtcknfhhbijlobaaGreatDoor.D
open Go
set_option linter.unusedVariables false
set_option linter.unusedSimpArgs false
section
variable {P : Program} {T : Tab} {G : Ghost} {H H' : DH} {w : World} {d : DV}
theorem ba_beq (a b : List UInt8) : ((⟨a.toArray⟩ : ByteArray) == ⟨b.toArray⟩) = (a == b) := by
 have e : ((⟨a.toArray⟩ : ByteArray) == ⟨b.toArray⟩) = (a.toArray == b.toArray) := rfl
 rw [e]; simp
theorem same_ok {ds : TypeDesc} {a b : DV} {va vb : Value} {x : Bool} (ha : V G a va) (hb : V G b vb) (h : sameD ds a b = some x) : Instr.sameNow ds va vb = some x := by
 unfold sameD at h
 split at h
 ·cases ha; cases hb
  split at h
  ·rename_i e; subst e; simp [Instr.sameNow]; exact Option.some.inj h
  ·cases h
 ·cases ha; cases hb
  rename_i a b
  obtain rfl := Option.some.inj h
  simp only [Instr.sameNow, Option.some.injEq]
  exact ba_beq a b
 ·cases ha; cases hb
  simpa [Instr.sameNow] using h
 ·cases h
theorem same_bits {ds : TypeDesc} {a b : DV} {va vb : Value} (ha : V G a va) (hb : V G b vb) (h : sameD ds a b = some true) : Instr.sameBits 10000 vb va = true := by
 unfold sameD at h
 split at h
 ·cases ha; cases hb
  split at h
  ·rename_i e; subst e
   have := Option.some.inj h
   simp only [beq_iff_eq] at this
   subst this
   simp [Instr.sameBits]
  ·cases h
 ·cases ha; cases hb
  have := Option.some.inj h
  simp only [beq_iff_eq] at this
  subst this
  simp [Instr.sameBits, ba_beq]
 ·cases ha; cases hb
  have := Option.some.inj h
  simp only [beq_iff_eq] at this
  subst this
  simp [Instr.sameBits]
 ·cases h
theorem find_ok {ds : TypeDesc} {k : DV} {vk : Value} (hk : V G k vk) : ∀ {es : List (DV × DV)} {ms : List MapEntry} {n : Nat} {x : Option DV}, VL G (es.map (·.1)) (ms.map (·.key)) → VL G (es.map (·.2)) (ms.map (·.val)) → findD ds k es = some x →
  ∃ y, Instr.findNow ds vk ms n = some y ∧ ((x = none ∧ y = none) ∨ ∃ u v i, x = some u ∧ y = some (i, v) ∧ V G u v)
 | [], ms, n, x, h1, h2, h => by
  have := h1.nil_inv
  cases ms with
  | nil => simp [findD] at h; subst h; exact ⟨none, rfl, .inl ⟨rfl, rfl⟩⟩
  | cons m ms => simp at this
 | (a, b) :: es, ms, n, x, h1, h2, h => by
  cases ms with
  | nil => have := h1.1; simp at this
  | cons m ms =>
   obtain ⟨v1, r1, e1, hv1, ht1⟩ := h1.cons_inv
   obtain ⟨v2, r2, e2, hv2, ht2⟩ := h2.cons_inv
   simp only [List.map_cons, List.cons.injEq] at e1 e2
   obtain ⟨rfl, rfl⟩ := e1
   obtain ⟨rfl, rfl⟩ := e2
   simp only [findD] at h
   split at h
   ·rename_i e
    obtain rfl := Option.some.inj h
    have := same_ok hk hv1 e
    refine ⟨some (n, m.val), by simp [Instr.findNow, this], .inr ⟨_, _, _, rfl, rfl, hv2⟩⟩
   ·rename_i e
    have := same_ok hk hv1 e
    obtain ⟨y, g1, g2⟩ := find_ok hk (n := n + 1) ht1 ht2 h
    exact ⟨y, by simp [Instr.findNow, this, g1], g2⟩
   ·cases h
theorem ins_ok {ds : TypeDesc} {k u : DV} {vk vu : Value} (hk : V G k vk) (hu : V G u vu) : ∀ {es l : List (DV × DV)} {ms : List MapEntry} {n : Nat}, VL G (es.map (·.1)) (ms.map (·.key)) → VL G (es.map (·.2)) (ms.map (·.val)) → insD ds k u es = some l →
  (Instr.findNow ds vk ms n = some none ∧ l = es ++ [(k, u)]) ∨
  ∃ i m v, Instr.findNow ds vk ms n = some (some (n + i, v)) ∧ ms[i]? = some m ∧ Instr.sameBits 10000 m.key vk = true ∧
   VL G (l.map (·.1)) ((ms.modify i fun e => { e with key := vk, val := vu }).map (·.key)) ∧ VL G (l.map (·.2)) ((ms.modify i fun e => { e with key := vk, val := vu }).map (·.val))
 | [], l, ms, n, h1, h2, h => by
  have := h1.nil_inv
  cases ms with
  | nil => simp [insD] at h; subst h; exact .inl ⟨rfl, rfl⟩
  | cons m ms => simp at this
 | (a, b) :: es, l, ms, n, h1, h2, h => by
  cases ms with
  | nil => have := h1.1; simp at this
  | cons m ms =>
   obtain ⟨v1, r1, e1, hv1, ht1⟩ := h1.cons_inv
   obtain ⟨v2, r2, e2, hv2, ht2⟩ := h2.cons_inv
   simp only [List.map_cons, List.cons.injEq] at e1 e2
   obtain ⟨rfl, rfl⟩ := e1
   obtain ⟨rfl, rfl⟩ := e2
   simp only [insD] at h
   split at h
   ·rename_i e
    obtain rfl := Option.some.inj h
    have := same_ok hk hv1 e
    refine .inr ⟨0, m, m.val, by simp [Instr.findNow, this], rfl, same_bits hk hv1 e, ?_, ?_⟩
    ·simpa using VL.cons hk ht1
    ·simpa using VL.cons hu ht2
   ·rename_i e
    have := same_ok hk hv1 e
    split at h
    ·rename_i l' e2
     obtain rfl := Option.some.inj h
     rcases ins_ok hk hu (n := n + 1) ht1 ht2 e2 with ⟨g1, rfl⟩ | ⟨i, m', v, g1, g2, g3, g4, g5⟩
     ·exact .inl ⟨by simp [Instr.findNow, this, g1], rfl⟩
     ·refine .inr ⟨i + 1, m', v, by simp [Instr.findNow, this, g1]; omega, by simpa using g2, g3, ?_, ?_⟩
      ·simpa using VL.cons hv1 g4
      ·simpa using VL.cons hv2 g5
    ·cases h
   ·cases h
theorem key_ok {t : TypeId} {ds : TypeDesc} {k : DV} {vk : Value} {b : Bool} (hk : V G k vk) (hu : P.underlying t = some ds) (h : plainKey ds k = true) : (Instr.checkKey b 10000 t vk).run P w = .ok () w := by
 unfold plainKey at h
 split at h
 ·cases hk; show (Instr.checkKey b (9999 + 1) t _).run P w = _; rw [Instr.checkKey]; simp only [Sem.run_bind, run_underlying hu, Result.andThen_ok]; rfl
 ·cases hk; show (Instr.checkKey b (9999 + 1) t _).run P w = _; rw [Instr.checkKey]; simp only [Sem.run_bind, run_underlying hu, Result.andThen_ok]; rfl
 ·cases hk; show (Instr.checkKey b (9999 + 1) t _).run P w = _; rw [Instr.checkKey]; simp only [Sem.run_bind, run_underlying hu, Result.andThen_ok]; rfl
 ·cases h
theorem lookup_ok (TO : TabOk P T) (r : Rel G H w) {t : TypeId} {x i : DV} {vx vi : Value} {ok : Bool} (hx : V G x vx) (hi : V G i vi) (h : lookupD T t x i ok H = some d) : GoodV P G H w H d ((Instr.lookup t vx vi ok).run P w) := by
 unfold lookupD at h
 split at h
 ·rename_i kt et e1
  split at h
  ·rename_i ds z es e2 e3 e4
   split at h
   ·rename_i hp
    obtain ⟨inf, zv, z1, z2, z3⟩ := TO.zero _ _ e3
    have hz : (zeroValue et).run P w = .ok zv w := by simp [zeroValue, typeInfo, z1, z2]
    obtain ⟨fr, hf⟩ : ∃ fr, findD ds i es = some fr := by
     cases hh : findD ds i es with
     | none => simp [hh] at h
     | some fr => exact ⟨fr, rfl⟩
    have tail : ∀ ms : Array MapEntry, VL G (es.map (·.1)) (ms.toList.map (·.key)) → VL G (es.map (·.2)) (ms.toList.map (·.val)) → ∃ y, (Instr.checkKey ms.isEmpty 10000 kt vi).run P w = .ok () w ∧ (Instr.findKey kt vi ms.toList).run P w = .ok y w ∧
      ((fr = none ∧ y = none) ∨ ∃ u v i, fr = some u ∧ y = some (i, v) ∧ V G u v) := by
     intro ms hk1 hk2
     obtain ⟨y, y1, y2⟩ := find_ok hi (n := 0) hk1 hk2 hf
     exact ⟨y, key_ok hi (TO.und _ _ e2) hp, by simp [Instr.findKey, run_underlying (TO.und _ _ e2), y1], y2⟩
    obtain ⟨y, hrun, y2⟩ : ∃ y : Option (Nat × Value), (Instr.lookup t vx vi ok).run P w = .ok (if ok then .tuple #[(match y with | some (_, v) => v | none => zv), .bool y.isSome] else (match y with | some (_, v) => v | none => zv)) w ∧
      ((fr = none ∧ y = none) ∨ ∃ u v i, fr = some u ∧ y = some (i, v) ∧ V G u v) := by
     unfold entriesD at e4
     split at e4
     ·obtain rfl := Option.some.inj e4
      cases hx
      obtain ⟨y, t1, t2, t3⟩ := tail #[] (.nil _) (.nil _)
      refine ⟨y, ?_, t3⟩
      unfold Instr.lookup
      simp only [Sem.run_bind, Sem.run_pure, run_underlying (TO.und _ _ e1), Result.andThen_ok, t1, t2]
      cases y with
      | none => simp [hz]
      | some iv => simp
     ·split at e4
      ·rename_i es' hm
       obtain rfl := Option.some.inj e4
       cases hx with
       | mp hρ =>
        rename_i B s
        obtain ⟨_, ⟨ms, clk, g1, g2, g3, _⟩, _⟩ := r.maps _ _ hm _ _ hρ
        obtain ⟨y, t1, t2, t3⟩ := tail ms g2 g3
        refine ⟨y, ?_, t3⟩
        have hgo : (getObj B).run P w = .ok (.map ms clk) w := by simp [getObj, Sem.run, g1]
        unfold Instr.lookup
        simp only [Sem.run_bind, Sem.run_pure, run_underlying (TO.und _ _ e1), Result.andThen_ok, hgo, t1, t2]
        cases y with
        | none => simp [hz]
        | some iv => simp
      ·cases e4
     ·cases e4
    rw [hrun]
    rw [hf] at h
    rcases y2 with ⟨rfl, rfl⟩ | ⟨u, v, j, rfl, rfl, huv⟩
    ·obtain rfl := Option.some.inj h
     refine ⟨G, ?_, .refl r⟩
     cases ok
     ·exact z3 G
     ·exact V.tup (vs := [_, _]) rfl (VL.cons (z3 G) (.cons (.bool _) (.nil _))).2
    ·obtain rfl := Option.some.inj h
     refine ⟨G, ?_, .refl r⟩
     cases ok
     ·exact huv
     ·exact V.tup (vs := [_, _]) rfl (VL.cons huv (.cons (.bool _) (.nil _))).2
   ·cases h
  ·cases h
 ·cases h
theorem Born.push {ms : Array MapEntry} {clk : Nat} (h : Born ms clk) (k v : Value) : Born (ms.push { key := k, val := v, born := clk }) (clk + 1) := by
 obtain ⟨h1, h2⟩ := h
 refine ⟨?_, ?_⟩
 ·simp only [Array.toList_push, List.map_append, List.map_cons, List.map_nil]
  rw [List.nodup_append]
  refine ⟨h1, by simp, ?_⟩
  intro a ha b hb
  simp at hb
  subst hb
  simp only [List.mem_map] at ha
  obtain ⟨e, he, rfl⟩ := ha
  have := h2 e he
  omega
 ·intro e he
  simp at he
  rcases he with he | rfl
  ·have := h2 e (by simpa using he); omega
  ·simp
theorem Born.modify {ms : Array MapEntry} {clk : Nat} (h : Born ms clk) (i : Nat) (k v : Value) : Born (ms.modify i fun e => { e with key := k, val := v }) clk := by
 obtain ⟨h1, h2⟩ := h
 have hb : ((ms.modify i fun e => { e with key := k, val := v }).toList.map (·.born)) = ms.toList.map (·.born) := by
  apply List.ext_getElem?
  intro j
  simp only [Array.toList_modify, List.getElem?_map, List.getElem?_modify]
  cases hj : ms.toList[j]? with
  | none => simp
  | some e => by_cases hij : i = j <;> simp [hij]
 refine ⟨by rw [hb]; exact h1, fun e he => ?_⟩
 have : e.born ∈ (ms.modify i fun e => { e with key := k, val := v }).toList.map (·.born) := List.mem_map.2 ⟨e, he, rfl⟩
 rw [hb] at this
 obtain ⟨e', he', hee⟩ := List.mem_map.1 this
 have := h2 e' he'
 omega
theorem update_ok (TO : TabOk P T) (r : Rel G H w) {t : TypeId} {x k u : DV} {vx vk vu : Value} (hx : V G x vx) (hk : V G k vk) (hu : V G u vu) (h : updateD T t x k u H = some H') :
  ∃ w', (Instr.mapUpdate t vx vk vu).run P w = .ok () w' ∧ Step G H w G H' w' := by
 unfold updateD at h
 split at h
 ·rename_i kt et b e1
  split at h
  ·rename_i ds es e2 hm
   split at h
   ·rename_i hp
    split at h
    ·rename_i l hl
     obtain rfl := Option.some.inj h
     cases hx with
     | mp hρ =>
      rename_i B s
      obtain ⟨rfl, ⟨ms, clk, g1, g2, g3, hb⟩, g4⟩ := r.maps _ _ hm _ _ hρ
      have hck := key_ok (P := P) (w := w) (b := false) hk (TO.und _ _ e2) hp
      have hown : ownR G H b = some B := by simp [ownR, hm, hρ]
      have hgo : ∀ (ms' : Array MapEntry) (clk' : Nat), VL G (l.map (·.1)) (ms'.toList.map (·.key)) → VL G (l.map (·.2)) (ms'.toList.map (·.val)) → Born ms' clk' → Step G H w G (H.set b (.map l)) (putBlk w B (.map ms' clk')) := by
       intro ms' clk' q1 q2 q3
       refine Step.setBlk r b B (.map ms' clk') (.map l) hown (fun T n cl => by rw [hm]; simp) (fun T n cl => by simp) (fun T cs h => by cases h) (fun T cs h => by cases h) (fun s pos h => by cases h) (fun es' h x hx => ?_)
       cases h
       rw [hρ] at hx
       cases hx
       exact ⟨rfl, ms', clk', rfl, q1, q2, q3⟩
      rcases ins_ok hk hu (n := 0) g2 g3 hl with ⟨q1, rfl⟩ | ⟨i, m, v, q1, q2, q3, q4, q5⟩
      ·refine ⟨_, ?_, hgo (ms.push { key := vk, val := vu, born := clk }) (clk + 1) ?_ ?_ (hb.push _ _)⟩
       ·have hfk : (Instr.findKey kt vk ms.toList).run P w = .ok none w := by
         simp [Instr.findKey, run_underlying (TO.und _ _ e2), q1]
        unfold Instr.mapUpdate
        simp only [Sem.run_bind, run_underlying (TO.und _ _ e1), Result.andThen_ok]
        have hgo : (getObj B).run P w = .ok (.map ms clk) w := by simp [getObj, Sem.run, g1]
        rw [hgo]
        simp only [Result.andThen_ok, Sem.run_bind]
        rw [hck]
        simp only [Result.andThen_ok]
        rw [hfk]
        simp [setObj, Sem.run, putBlk, g1]
       ·simpa using g2.append (.cons hk (.nil _))
       ·simpa using g3.append (.cons hu (.nil _))
      ·refine ⟨_, ?_, hgo (ms.modify i fun e => { e with key := vk, val := vu }) clk (by simpa using q4) (by simpa using q5) (hb.modify _ _ _)⟩
       have hfk : (Instr.findKey kt vk ms.toList).run P w = .ok (some (i, v)) w := by
        simp [Instr.findKey, run_underlying (TO.und _ _ e2), q1]
       unfold Instr.mapUpdate
       simp only [Sem.run_bind, run_underlying (TO.und _ _ e1), Result.andThen_ok]
       have hgo : (getObj B).run P w = .ok (.map ms clk) w := by simp [getObj, Sem.run, g1]
       rw [hgo]
       simp only [Result.andThen_ok, Sem.run_bind]
       rw [hck]
       simp only [Result.andThen_ok]
       rw [hfk]
       simp only [Result.andThen_ok, Sem.run_bind]
       have hst : (Instr.keyThatStays (((ms[i]?).map (·.key)).getD vk) vk).run P w = .ok vk w := by
        have : ms[i]? = some m := by simpa using q2
        simp [Instr.keyThatStays, this, q3]
       rw [hst]
       simp [setObj, Sem.run, putBlk, g1]
    ·cases h
   ·cases h
  ·cases h
 ·cases h
theorem makeMap_ok (TO : TabOk P T) (r : Rel G H w) {t : TypeId} {x : Option DV} {vx : Option Value} (hx : OptV G x vx) (h : makeMapD T t x H = some (d, H')) : GoodV P G H w H' d ((Instr.makeMap t vx).run P w) := by
 have hs := Step.newBlock r (.map #[] 0) (.map []) 0 (fun T n cl => by simp) (fun T cs => by simp) (fun T cs h => by cases h) (fun s pos h => by cases h) (fun es h => by cases h; exact ⟨rfl, #[], 0, rfl, .nil _, .nil _, by simp, by simp⟩)
 unfold makeMapD at h
 split at h
 ·have hdH := Prod.mk.inj (Option.some.inj h)
  rw [← hdH.1, ← hdH.2]
  cases vx with
  | some _ => exact hx.elim
  | none =>
   have hrun : (Instr.makeMap t none).run P w = .ok (.map (some w.heap.size)) (w.alloc (.map #[] 0)) := by simp [Instr.makeMap]
   rw [hrun]
   exact ⟨_, V.mp hs.2, hs.1⟩
 ·split at h
  ·rename_i n _ kt et e
   have hdH := Prod.mk.inj (Option.some.inj h)
   rw [← hdH.1, ← hdH.2]
   cases vx with
   | none => exact hx.elim
   | some v =>
    have hx' : V G (.int .i64 n) v := hx
    cases hx'
    have hrun : (Instr.makeMap t (some (.int .i64 n))).run P w = .ok (.map (some w.heap.size)) (w.alloc (.map #[] 0)) := by
     simp [Instr.makeMap, run_underlying (TO.und _ _ e), asInt, asIntOf]
    rw [hrun]
    exact ⟨_, V.mp hs.2, hs.1⟩
  ·cases h
 ·cases h
end
end Go.Proofs.YtcknfhhbijlobaaGreatDoor.D
namespace Go.Proofs.YtcknfhhbijlobaaGreatDoor.D
open Go
set_option linter.unusedVariables false
set_option linter.unusedSimpArgs false
def OrcOk (P : Program) (E : Orc) : Prop := ∀ f args H d H', E f args H = some (d, H') → ∀ G w vs, Rel G H w → VL G args vs → Good P G H w H' d ((callFunc f vs.toArray).run P w)
section
variable {P : Program} {T : Tab} {G : Ghost} {H H' : DH} {w : World} {d : DV}
theorem good_val (r : Rel G H w) {v : Value} (h : V G d v) : Good P G H w H d (.ok (.value v) w) := ⟨G, h, .refl r⟩
theorem opds_arr {σ : Nat → DV} {a : Act} (hs : SlotsOk G σ a) {xs : Array Operand} {ds : List DV} (h : opds σ xs.toList = some ds) : ∃ vs, xs.map a.eval = vs.toArray ∧ VL G ds vs :=
 ⟨xs.toList.map a.eval, by apply Array.toList_inj.1; simp, opds_ok hs h⟩
theorem call_ok (TO : TabOk P T) {E : Orc} (EO : OrcOk P E) (r : Rel G H w) {σ : Nat → DV} {a : Act} (hs : SlotsOk G σ a) {c : Call} {ty : TypeId} (h : callD T E σ c H = some (d, H')) :
  Good P G H w H' d ((do let x ← resolve a.eval c ty; invoke x.target x.args : Sem Next).run P w) := by
 unfold callD at h
 cases ha : opds σ c.args.toList with
 | none => simp [ha] at h
 | some args =>
  simp only [ha] at h
  obtain ⟨vs, hvs, hvl⟩ := opds_arr hs ha
  cases hc : c.callee with
  | invoke _ _ => simp [hc] at h
  | builtin b =>
   simp only [hc] at h
   obtain ⟨cc, hres⟩ : ∃ cc, (resolve a.eval c ty).run P w = .ok { target := .builtin b c.argTypes ty cc, args := vs.toArray } w := ⟨_, by simp only [resolve, hc, hvs]; rfl⟩
   rw [Sem.run_bind, hres]
   simp only [Result.andThen_ok, invoke]
   unfold builtinD at h
   split at h
   ·rename_i t rest x heq
    obtain ⟨v, vs', rfl, hv, hvl'⟩ := hvl.cons_inv
    obtain rfl := hvl'.nil_inv
    cases hl : lenD T H t x with
    | none => simp [hl] at h
    | some u =>
     simp only [hl] at h
     have hdH := Prod.mk.inj (Option.some.inj h)
     rw [← hdH.1, ← hdH.2]
     refine good_v (s := Builtin.len_ c.argTypes ty #[v]) ?_
     have : c.argTypes = (t :: rest).toArray := by rw [← heq]
     rw [this]
     exact len_ok TO r hv hl
   ·rename_i t u s x heq
    obtain ⟨v, vs', rfl, hv, hvl'⟩ := hvl.cons_inv
    obtain ⟨v2, vs2, rfl, hv2, hvl2⟩ := hvl'.cons_inv
    obtain rfl := hvl2.nil_inv
    refine good_v (s := Builtin.append_ c.argTypes ty #[v, v2]) ?_
    have : c.argTypes = #[t, u] := by apply Array.toList_inj.1; simpa using heq
    rw [this]
    exact append_ok TO r hv hv2 h
   ·rename_i x
    obtain ⟨v, vs', rfl, hv, hvl'⟩ := hvl.cons_inv
    obtain rfl := hvl'.nil_inv
    cases hl : dataD x with
    | none => simp [hl] at h
    | some u =>
     simp only [hl] at h
     have hdH := Prod.mk.inj (Option.some.inj h)
     rw [← hdH.1, ← hdH.2]
     exact good_v (s := Builtin.unsafeSliceData_ c.argTypes ty #[v]) (data_ok r hv hl)
   ·rename_i t it x y heq
    obtain ⟨v, vs', rfl, hv, hvl'⟩ := hvl.cons_inv
    obtain ⟨v2, vs2, rfl, hv2, hvl2⟩ := hvl'.cons_inv
    obtain rfl := hvl2.nil_inv
    cases hl : unsafeStrD T H t x y with
    | none => simp [hl] at h
    | some u =>
     simp only [hl] at h
     have hdH := Prod.mk.inj (Option.some.inj h)
     rw [← hdH.1, ← hdH.2]
     refine good_v (s := Builtin.unsafeString_ c.argTypes ty #[v, v2]) ?_
     have : c.argTypes = #[t, it] := by apply Array.toList_inj.1; simpa using heq
     rw [this]
     exact unsafeStr_ok TO r hv hv2 hl
   ·rename_i x y
    obtain ⟨v, vs', rfl, hv, hvl'⟩ := hvl.cons_inv
    obtain ⟨v2, vs2, rfl, hv2, hvl2⟩ := hvl'.cons_inv
    obtain rfl := hvl2.nil_inv
    cases hl : maxD x y with
    | none => simp [hl] at h
    | some u =>
     simp only [hl] at h
     have hdH := Prod.mk.inj (Option.some.inj h)
     rw [← hdH.1, ← hdH.2]
     exact good_v (s := Builtin.max_ c.argTypes ty #[v, v2]) (max_ok r hv hv2 hl)
   ·rename_i x y
    obtain ⟨v, vs', rfl, hv, hvl'⟩ := hvl.cons_inv
    obtain ⟨v2, vs2, rfl, hv2, hvl2⟩ := hvl'.cons_inv
    obtain rfl := hvl2.nil_inv
    cases hl : minD x y with
    | none => simp [hl] at h
    | some u =>
     simp only [hl] at h
     have hdH := Prod.mk.inj (Option.some.inj h)
     rw [← hdH.1, ← hdH.2]
     exact good_v (s := Builtin.min_ c.argTypes ty #[v, v2]) (min_ok r hv hv2 hl)
   ·cases h
  | value f =>
   simp only [hc] at h
   cases hf : opd σ f with
   | none => simp [hf] at h
   | some fv =>
    simp only [hf] at h
    split at h
    ·rename_i g first cap heq
     obtain rfl := Option.some.inj heq
     have hfv := opd_ok hs hf
     generalize hfe : a.eval f = fe at hfv
     cases hfv with
     | fn h1 h2 h3 h4 =>
      rename_i x y
      have hres : (resolve a.eval c ty).run P w = .ok { target := .fn (.func g) y.toArray, args := (x ++ vs).toArray } w := by
       simp [resolve, hc, hvs, hfe, Deferred.ofValue]
      rw [Sem.run_bind, hres]
      simp only [Result.andThen_ok, invoke]
      have := EO g _ H d H' h G w (x ++ vs ++ y) r ((VL.append ⟨h1, h3⟩ hvl).append ⟨h2, h4⟩)
      simpa using this
    ·cases h
set_option maxHeartbeats 4000000 in
theorem op_ok (TO : TabOk P T) {E : Orc} (EO : OrcOk P E) (r : Rel G H w) {σ : Nat → DV} {a : Act} (hs : SlotsOk G σ a) {o : Oper} (h : evalOp T E o.op σ H = some (d, H')) :
  Good P G H w H' d ((execOp a.eval o).run P w) := by
 obtain ⟨dst, op, ty, pos, after, guard⟩ := o
 have map1 : ∀ {x : Option DV}, x.map (·, H) = some (d, H') → x = some d ∧ H = H' := by
  intro x hx
  cases x with
  | none => cases hx
  | some v => have := Prod.mk.inj (Option.some.inj hx); exact ⟨congrArg some this.1, this.2⟩
 cases op <;> simp only [evalOp] at h
 case move x => obtain ⟨h1, rfl⟩ := map1 h; exact good_val r (opd_ok hs h1)
 case assign x => obtain ⟨h1, rfl⟩ := map1 h; exact good_val r (opd_ok hs h1)
 case pick c x y =>
  split at h
  ·rename_i t e
   obtain ⟨h1, rfl⟩ := map1 h
   have hc := opd_ok hs e
   generalize hce : a.eval c = ce at hc
   cases hc
   have hv := opd_ok hs h1
   have : (execOp a.eval { dst := dst, op := .pick c x y, type := ty, pos := pos, after := after, guard := guard }).run P w = .ok (.value (a.eval (if t then x else y))) w := by
    simp only [execOp, hce, asBool]
    cases t <;> simp
   rw [this]
   exact good_val r hv
  ·cases h
 case alloc e =>
  cases hz : T.zero e with
  | none => simp [hz] at h
  | some z =>
   simp only [hz] at h
   split at h
   ·have hdH := Prod.mk.inj (Option.some.inj h)
    rw [← hdH.1, ← hdH.2]
    exact good_v (alloc_ok TO r hz)
   ·cases h
 case box e x =>
  cases hx : opd σ x with
  | none => simp [hx] at h
  | some v =>
   simp only [hx] at h
   split at h
   ·have hdH := Prod.mk.inj (Option.some.inj h)
    rw [← hdH.1, ← hdH.2]
    exact good_v (box_ok r (opd_ok hs hx))
   ·cases h
 case build t ps =>
  cases hp : opdParts σ ps.toList with
  | none => simp [hp] at h
  | some l =>
   simp only [hp] at h
   obtain ⟨h1, rfl⟩ := map1 h
   obtain ⟨p1, p2⟩ := opdParts_ok hs hp
   have := build_ok TO r p1 p2 h1
   refine good_v (s := Instr.build t (ps.map fun (i, x) => (i, a.eval x))) ?_
   have e : (ps.map fun (i, x) => (i, a.eval x)) = (ps.toList.map fun p => (p.1, a.eval p.2)).toArray := by apply Array.toList_inj.1; simp
   rw [e]; exact this
 case buildSlice t n ps =>
  cases hp : opdParts σ ps.toList with
  | none => simp [hp] at h
  | some l =>
   simp only [hp] at h
   obtain ⟨p1, p2⟩ := opdParts_ok hs hp
   have := buildSlice_ok TO r p1 p2 h
   refine good_v (s := Instr.buildSlice t n (ps.map fun (i, x) => (i, a.eval x))) ?_
   have e : (ps.map fun (i, x) => (i, a.eval x)) = (ps.toList.map fun p => (p.1, a.eval p.2)).toArray := by apply Array.toList_inj.1; simp
   rw [e]; exact this
 case load t x =>
  cases hx : opd σ x with
  | none => simp [hx] at h
  | some v =>
   simp only [hx] at h
   obtain ⟨h1, rfl⟩ := map1 h
   exact good_v (load_ok TO r (opd_ok hs hx) h1)
 case store t x y =>
  cases hx : opd σ x with
  | none => simp [hx] at h
  | some v =>
   cases hy : opd σ y with
   | none => simp [hx, hy] at h
   | some u =>
    simp only [hx, hy] at h
    cases hst : storeD T t v u H with
    | none => simp [hst] at h
    | some H2 =>
     simp only [hst, Option.map_some, Option.some.injEq, Prod.mk.injEq] at h
     rw [← h.1, ← h.2]
     obtain ⟨w', h1, h2⟩ := store_ok TO r (opd_ok hs hx) (opd_ok hs hy) hst
     have : (execOp a.eval { dst := dst, op := .store t x y, type := ty, pos := pos, after := after, guard := guard }).run P w = .ok .skip w' := by
      simp [execOp, h1]
     rw [this]
     exact ⟨rfl, G, h2⟩
 case nilCheck x =>
  cases hx : opd σ x with
  | none => simp [hx] at h
  | some v =>
   simp only [hx] at h
   split at h
   ·rename_i b o heq
    have hdH := Prod.mk.inj (Option.some.inj h)
    rw [← hdH.2]
    obtain rfl := Option.some.inj heq
    exact nilCheck_ok r (opd_ok hs hx) hdH.1 (.inl ⟨b, o, rfl⟩) x a.eval rfl ty pos after guard dst
   ·rename_i cs heq
    have hdH := Prod.mk.inj (Option.some.inj h)
    rw [← hdH.2]
    obtain rfl := Option.some.inj heq
    exact nilCheck_ok r (opd_ok hs hx) hdH.1 (.inr (.inl ⟨cs, rfl⟩)) x a.eval rfl ty pos after guard dst
   ·rename_i f u v heq
    have hdH := Prod.mk.inj (Option.some.inj h)
    rw [← hdH.2]
    obtain rfl := Option.some.inj heq
    exact nilCheck_ok r (opd_ok hs hx) hdH.1 (.inr (.inr ⟨f, u, v, rfl⟩)) x a.eval rfl ty pos after guard dst
   ·cases h
 case binOp op t x y yt =>
  cases hx : opd σ x with
  | none => simp [hx] at h
  | some v =>
   cases hy : opd σ y with
   | none => simp [hx, hy] at h
   | some u =>
    simp only [hx, hy] at h
    obtain ⟨h1, rfl⟩ := map1 h
    exact good_v (s := do eqGuard op t x y (a.eval x) (a.eval y); binOp op t (a.eval x) (a.eval y)) (bin_ok TO r (opd_ok hs hx) (opd_ok hs hy) h1)
 case unOp op t x =>
  cases hx : opd σ x with
  | none => simp [hx] at h
  | some v =>
   simp only [hx] at h
   obtain ⟨h1, rfl⟩ := map1 h
   exact good_v (un_ok r (opd_ok hs hx) h1)
 case convert s t x =>
  cases hx : opd σ x with
  | none => simp [hx] at h
  | some v =>
   cases hsrc : T.und s with
   | none => simp [hx, hsrc] at h
   | some td =>
    simp only [hx, hsrc] at h
    exact good_v (conv_ok TO r (opd_ok hs hx) ⟨td, TO.und _ _ hsrc⟩ h)
 case slice t x lo hi mx =>
  cases hx : opd σ x with
  | none => simp [hx] at h
  | some v =>
   cases mx with
   | some m => simp [hx] at h
   | none =>
    simp only [hx] at h
    have hopt : ∀ (q : Option Operand) (z : Option DV), optOpd σ q = some z → OptV G z (q.map a.eval) := by
     intro q z hq
     cases q with
     | none => simp [optOpd] at hq; subst hq; trivial
     | some l =>
      simp only [optOpd, Option.map_eq_some_iff] at hq
      obtain ⟨u, hu, rfl⟩ := hq
      exact opd_ok hs hu
    split at h
    ·rename_i l hh e1 e2
     obtain ⟨h1, rfl⟩ := map1 h
     exact good_v (s := Instr.sliceAt t (a.eval x) (lo.map a.eval) (hi.map a.eval) none) (slice_ok TO r (opd_ok hs hx) (hopt lo l e1) (hopt hi hh e2) h1)
    ·cases h
 case fieldAddr s x f =>
  cases hx : opd σ x with
  | none => simp [hx] at h
  | some v =>
   simp only [hx] at h
   obtain ⟨h1, rfl⟩ := map1 h
   exact good_v (fieldAt_ok TO r (opd_ok hs hx) h1)
 case field s x f =>
  cases hx : opd σ x with
  | none => simp [hx] at h
  | some v =>
   simp only [hx] at h
   obtain ⟨h1, rfl⟩ := map1 h
   exact good_v (field_ok TO r (opd_ok hs hx) h1)
 case indexAddr t x i =>
  cases hx : opd σ x with
  | none => simp [hx] at h
  | some v =>
   cases hi : opd σ i with
   | none => simp [hx, hi] at h
   | some u =>
    simp only [hx, hi] at h
    obtain ⟨h1, rfl⟩ := map1 h
    exact good_v (indexAt_ok TO r (opd_ok hs hx) (opd_ok hs hi) h1)
 case index t x i =>
  cases hx : opd σ x with
  | none => simp [hx] at h
  | some v =>
   cases hi : opd σ i with
   | none => simp [hx, hi] at h
   | some u =>
    simp only [hx, hi] at h
    obtain ⟨h1, rfl⟩ := map1 h
    exact good_v (index_ok TO r (opd_ok hs hx) (opd_ok hs hi) h1)
 case extract x i =>
  cases hx : opd σ x with
  | none => simp [hx] at h
  | some v =>
   simp only [hx] at h
   split at h
   ·rename_i vs heq
    obtain rfl := Option.some.inj heq
    obtain ⟨h1, rfl⟩ := map1 h
    exact good_v (extract_ok r (opd_ok hs hx) h1)
   ·cases h
 case makeSlice t x y =>
  cases hx : opd σ x with
  | none => simp [hx] at h
  | some v =>
   cases hy : opd σ y with
   | none => simp [hx, hy] at h
   | some u =>
    simp only [hx, hy] at h
    exact good_v (makeSlice_ok TO r (opd_ok hs hx) (opd_ok hs hy) h)
 case makeFunc f x y =>
  cases hx : opds σ x.toList with
  | none => simp [hx] at h
  | some u =>
   cases hy : opds σ y.toList with
   | none => simp [hx, hy] at h
   | some v =>
    simp only [hx, hy] at h
    have hdH := Prod.mk.inj (Option.some.inj h)
    rw [← hdH.1, ← hdH.2]
    obtain ⟨xs, ex, hxs⟩ := opds_arr hs hx
    obtain ⟨ys, ey, hys⟩ := opds_arr hs hy
    refine good_v (s := Instr.makeFunc f (x.map a.eval) (y.map a.eval)) ?_
    rw [ex, ey]
    exact makeFunc_ok r hxs hys
 case call c => exact call_ok TO EO r hs h
 case makeMap t n =>
  cases hx : optOpd σ n with
  | none => simp [hx] at h
  | some v =>
   simp only [hx] at h
   have hopt : OptV G v (n.map a.eval) := by
    cases n with
    | none => simp [optOpd] at hx; subst hx; trivial
    | some l =>
     simp only [optOpd, Option.map_eq_some_iff] at hx
     obtain ⟨u, hu, rfl⟩ := hx
     exact opd_ok hs hu
   exact good_v (makeMap_ok TO r hopt h)
 case lookup t x i ok =>
  cases hx : opd σ x with
  | none => simp [hx] at h
  | some v =>
   cases hi : opd σ i with
   | none => simp [hx, hi] at h
   | some u =>
    simp only [hx, hi] at h
    obtain ⟨h1, rfl⟩ := map1 h
    exact good_v (lookup_ok TO r (opd_ok hs hx) (opd_ok hs hi) h1)
 case mapUpdate t x k v =>
  cases hx : opd σ x with
  | none => simp [hx] at h
  | some u1 =>
   cases hk : opd σ k with
   | none => simp [hx, hk] at h
   | some u2 =>
    cases hv : opd σ v with
    | none => simp [hx, hk, hv] at h
    | some u3 =>
     simp only [hx, hk, hv] at h
     cases hst : updateD T t u1 u2 u3 H with
     | none => simp [hst] at h
     | some H2 =>
      simp only [hst, Option.map_some, Option.some.injEq, Prod.mk.injEq] at h
      rw [← h.1, ← h.2]
      obtain ⟨w', h1, h2⟩ := update_ok TO r (opd_ok hs hx) (opd_ok hs hk) (opd_ok hs hv) hst
      have : (execOp a.eval { dst := dst, op := .mapUpdate t x k v, type := ty, pos := pos, after := after, guard := guard }).run P w = .ok .skip w' := by
       simp [execOp, h1]
      rw [this]
      exact ⟨rfl, G, h2⟩
 case insert t x k v =>
  cases hx : opd σ x with
  | none => simp [hx] at h
  | some u1 =>
   cases hk : opd σ k with
   | none => simp [hx, hk] at h
   | some u2 =>
    cases hv : opd σ v with
    | none => simp [hx, hk, hv] at h
    | some u3 =>
     simp only [hx, hk, hv] at h
     cases hst : updateD T t u1 u2 u3 H with
     | none => simp [hst] at h
     | some H2 =>
      simp only [hst, Option.map_some, Option.some.injEq, Prod.mk.injEq] at h
      rw [← h.1, ← h.2]
      obtain ⟨w', h1, h2⟩ := update_ok TO r (opd_ok hs hx) (opd_ok hs hk) (opd_ok hs hv) hst
      have : (execOp a.eval { dst := dst, op := .insert t x k v, type := ty, pos := pos, after := after, guard := guard }).run P w = .ok .skip w' := by
       simp [execOp, h1]
      rw [this]
      exact ⟨rfl, G, h2⟩
 case range t x =>
  cases hx : opd σ x with
  | none => simp [hx] at h
  | some v =>
   simp only [hx] at h
   exact good_v (range_ok TO r (opd_ok hs hx) h)
 case next x b =>
  cases hx : opd σ x with
  | none => simp [hx] at h
  | some v =>
   simp only [hx] at h
   exact good_v (next_ok r (opd_ok hs hx) h)
 all_goals cases h
end
end Go.Proofs.YtcknfhhbijlobaaGreatDoor.D
namespace Go.Proofs.YtcknfhhbijlobaaGreatDoor.D
open Go
set_option linter.unusedVariables false
set_option linter.unusedSimpArgs false
def toExit : Out → Exit
 | .norm => .normal
 | .exit id => .exit id
 | .goto l => .goto l
 | .ret => .ret
def Post (G : Ghost) (H : DH) (w : World) (N : Nat) (out : Out) (σ' : Nat → DV) (H' : DH) : Exit → Act → World → Prop :=
 fun e a' w' => e = toExit out ∧ ∃ G', SlotsOk G' σ' a' ∧ a'.defers = [] ∧ a'.tmps.size = N ∧ Step G H w G' H' w'
def ExtOk (P : Program) (ext : FuncId → Option (List DV → DH → Option (DV × DH))) : Prop :=
 ∀ f e, ext f = some e → ∀ args H d H', e args H = some (d, H') → ∀ G w vs, Rel G H w → VL G args vs → Good P G H w H' d ((callFunc f vs.toArray).run P w)
def NameOk (P : Program) : Prop := ∀ (f : Nat) (fn : Func), P.funcs[f]? = some fn → (fn.name == "runtime.NumGoroutine") = false
def DrawOk (P : Program) (T : Tab) (draw : Array Oper → Bool) : Prop :=
 ∀ ops, ∀ E, OrcOk P E → ∀ σ H σ' H', (draw ops = true ∨ Floats T E ops (σ, H)) → evalOps T E ops ops.toList (σ, H) = some (σ', H') → ∀ G w a N id, Rel G H w → SlotsOk G σ a → a.defers = [] → a.tmps.size = N → bnd N (.region id ops true) = true →
  (Code.region id ops true).wp P (Post G H w N .norm σ' H') a w
section
variable {P : Program} {T : Tab} {G : Ghost} {H H' : DH} {w : World} {d : DV}
theorem put_ok {σ : Nat → DV} {a : Act} {dst : Option Tmp} {v : Value} {dv : DV} (hs : SlotsOk G σ a) (hv : V G dv v) (hd : ∀ t, dst = some t → t < a.tmps.size) : SlotsOk G (put σ dst dv) (a.put dst v) := by
 cases dst with
 | none => exact hs
 | some t =>
  intro i
  have ht := hd t rfl
  simp only [put, upd, Act.put]
  by_cases hi : i = t
  ·subst hi
   rw [if_pos rfl]
   simpa [ht] using hv
  ·rw [if_neg hi]
   have := hs i
   simpa [Array.getElem?_setIfInBounds_ne (Ne.symm hi)] using this
theorem put_size (a : Act) (dst : Option Tmp) (v : Value) : (a.put dst v).tmps.size = a.tmps.size := by cases dst <;> simp [Act.put]
theorem put_defers (a : Act) (dst : Option Tmp) (v : Value) : (a.put dst v).defers = a.defers := by cases dst <;> simp [Act.put]
theorem V_undef (G : Ghost) : V G undefD undef := V.tup (cs := []) (vs := []) rfl (fun i d v h => by simp at h)
theorem wanted_ok {σ : Nat → DV} {a : Act} (hs : SlotsOk G σ a) {ops : Array Oper} {o : Oper} {b : Bool} (h : wantedD ops o σ = some b) (hN : ∀ (j : Nat) (p : Oper) t, ops[j]? = some p → p.dst = some t → t < a.tmps.size) :
  Region.wanted o (yielded ops a.tmps) = b := by
 unfold wantedD at h
 unfold Region.wanted
 cases hg : o.guard with
 | none => simp [hg] at h; subst h; rfl
 | some jw =>
  obtain ⟨j, want⟩ := jw
  simp only [hg] at h
  cases hd : (ops[j]?).bind (·.dst) with
  | none => simp [hd] at h; subst h; simp [yielded, hd]
  | some t =>
   simp only [hd] at h
   have ht : t < a.tmps.size := by
    rw [Option.bind_eq_some_iff] at hd
    obtain ⟨p, hp, hpt⟩ := hd
    exact hN j p t hp hpt
   have hv := hs t
   have hget : a.tmps[t]? = some (a.tmps.getD t undef) := by simp [ht]
   split at h
   ·rename_i x e
    rw [e] at hv
    generalize hx : a.tmps.getD t undef = u at hv hget
    cases hv
    cases h
    simp [yielded, hd, hget]
   ·rename_i e
    rw [e] at hv
    generalize hx : a.tmps.getD t undef = u at hv hget
    cases h
    cases hv with
    | tup hl hv => simp [yielded, hd, hget]
   ·cases h
theorem upon_ok {o : Oper} {a : Act} {K : Act → World → Prop} {Q : Exit → Act → World → Prop} {R : Result Next} (h : Good P G H w H' d R)
  (hK : ∀ v w' G', V G' d v → Step G H w G' H' w' → K (a.put o.dst v) w') : o.upon P a K Q R := by
 unfold Good at h
 split at h
 ·obtain ⟨G', h1, h2⟩ := h
  exact hK _ _ G' h1 h2
 ·obtain ⟨rfl, G', h2⟩ := h
  exact hK _ _ G' (V_undef G') h2
 ·exact h.mono fun e w'' ⟨v, G', he, h1, h2⟩ => by subst he; exact hK _ _ G' h1 h2
 ·exact h.elim
theorem evalOps_ok (TO : TabOk P T) {E : Orc} (EO : OrcOk P E) {ops : Array Oper} {N : Nat} (hN : ∀ (j : Nat) (p : Oper) t, ops[j]? = some p → p.dst = some t → t < N) {Q : Exit → Act → World → Prop} :
  ∀ (l : List Oper) (σ : Nat → DV) (H : DH) (σ' : Nat → DV) (H' : DH), (∀ o ∈ l, ∀ t, o.dst = some t → t < N) → evalOps T E ops l (σ, H) = some (σ', H') → ∀ (G : Ghost) (w : World) (a : Act), Rel G H w → SlotsOk G σ a → a.defers = [] → a.tmps.size = N →
   (∀ a' w' G', SlotsOk G' σ' a' → a'.defers = [] → a'.tmps.size = N → Step G H w G' H' w' → Q .normal a' w') → wpList P ops Q l a w
 | [], σ, H, σ', H', hl, h, G, w, a, r, hs, hd, hn, hQ => by
  simp only [evalOps, Option.some.injEq, Prod.mk.injEq] at h
  obtain ⟨rfl, rfl⟩ := h
  exact hQ a w G hs hd hn (.refl r)
 | o :: l, σ, H, σ', H', hl, h, G, w, a, r, hs, hd, hn, hQ => by
  simp only [evalOps] at h
  have hlt : ∀ t, o.dst = some t → t < a.tmps.size := fun t ht => hn ▸ hl o (by simp) t ht
  unfold wpList
  split at h
  ·rename_i hw
   rw [wanted_ok hs hw (hn ▸ hN)]
   rw [if_pos rfl]
   split at h
   ·rename_i v H1 he
    refine .inl ?_
    unfold Oper.wp
    refine upon_ok (op_ok TO EO r hs he) fun v' w' G' hv hst => ?_
    refine evalOps_ok TO EO hN l _ H1 σ' H' (fun o' ho' => hl o' (by simp [ho'])) h G' w' _ hst.rel (put_ok (hs.mono hst.le) hv hlt) (by rw [put_defers]; exact hd) (by rw [put_size]; exact hn) ?_
    exact fun a' w'' G'' h1 h2 h3 h4 => hQ a' w'' G'' h1 h2 h3 (hst.trans h4)
   ·cases h
  ·rename_i hw
   rw [wanted_ok hs hw (hn ▸ hN)]
   rw [if_neg (by simp)]
   exact evalOps_ok TO EO hN l _ H σ' H' (fun o' ho' => hl o' (by simp [ho'])) h G w _ r (put_ok hs (V_undef G) hlt) (by rw [put_defers]; exact hd) (by rw [put_size]; exact hn) hQ
  ·cases h
theorem bnd_region {N id : Nat} {ops : Array Oper} {b : Bool} (h : bnd N (.region id ops b) = true) : (∀ (j : Nat) (p : Oper) t, ops[j]? = some p → p.dst = some t → t < N) ∧ ∀ o ∈ ops.toList, ∀ t, o.dst = some t → t < N := by
 have k : ∀ o ∈ ops.toList, ∀ t, o.dst = some t → t < N := by
  intro o ho t ht
  simp only [bnd, List.all_eq_true] at h
  have := h o ho
  simpa [ht] using this
 exact ⟨fun j p t hp ht => k p (by have := Array.mem_of_getElem? hp; simpa using this) t ht, k⟩
theorem bnd_find {N : Nat} : ∀ {c : Code} {l : Nat} {r : Code}, bnd N c = true → findLabel c l = some r → bnd N r = true
 | .seq a b, l, r, h, hf => by
  simp only [bnd, Bool.and_eq_true] at h
  simp only [findLabel] at hf
  split at hf
  ·rename_i rest e
   cases hf
   simp only [bnd, Bool.and_eq_true]
   exact ⟨bnd_find h.1 e, h.2⟩
  ·exact bnd_find h.2 hf
 | .label l', l, r, h, hf => by
  simp only [findLabel] at hf
  split at hf
  ·cases hf; rfl
  ·cases hf
 | .skip, _, _, _, hf => by simp [findLabel] at hf
 | .region .., _, _, _, hf => by simp [findLabel] at hf
 | .cond .., _, _, _, hf => by simp [findLabel] at hf
 | .block .., _, _, _, hf => by simp [findLabel] at hf
 | .loop .., _, _, _, hf => by simp [findLabel] at hf
 | .rangeFunc .., _, _, _, hf => by simp [findLabel] at hf
 | .exit .., _, _, _, hf => by simp [findLabel] at hf
 | .scope .., _, _, _, hf => by simp [findLabel] at hf
 | .goto .., _, _, _, hf => by simp [findLabel] at hf
 | .ret, _, _, _, hf => by simp [findLabel] at hf
 | .refuse .., _, _, _, hf => by simp [findLabel] at hf
theorem res_ok (TO : TabOk P T) (r : Rel G H w) {σ : Nat → DV} {a : Act} (hs : SlotsOk G σ a) : ∀ {l : List ResultVar} {vs : List DV}, resD T σ H l = some vs →
  ∃ rs, (l.mapM fun (y : ResultVar) => (match y with | .tmp t => pure (a.tmps.getD t undef) | .cell x t => do loadVar t (← asAddr (a.tmps.getD x undef)) : Sem Value)).run P w = .ok rs w ∧ VL G vs rs
 | [], vs, h => by simp [resD] at h; subst h; exact ⟨[], rfl, .nil _⟩
 | .tmp t :: l, vs, h => by
  simp only [resD] at h
  cases hr : resD T σ H l with
  | none => simp [hr] at h
  | some l' =>
   simp only [hr, Option.some.injEq] at h
   subst h
   obtain ⟨rs, h1, h2⟩ := res_ok TO r hs hr
   refine ⟨a.tmps.getD t undef :: rs, ?_, .cons (hs t) h2⟩
   rw [List.mapM_cons]
   simp only [Sem.run_bind, Sem.run_pure, Result.andThen_ok, h1]
 | .cell x t :: l, vs, h => by
  simp only [resD] at h
  cases hl : loadD T t (σ x) H with
  | none => simp [hl] at h
  | some v =>
   cases hr : resD T σ H l with
   | none => simp [hl, hr] at h
   | some l' =>
    simp only [hl, hr, Option.some.injEq] at h
    subst h
    obtain ⟨rs, h1, h2⟩ := res_ok TO r hs hr
    obtain ⟨u, hg, hvu⟩ := load_run (P := P) TO r (hs x) hl
    have hptr : ∃ A, a.tmps.getD x undef = .pointer (some A) := by
     have hv := hs x
     generalize hx : a.tmps.getD x undef = u at hv ⊢
     unfold loadD at hl
     split at hl
     ·rename_i e1 e2 e3
      obtain ⟨B, o, vs, rfl, _⟩ := cellsAt_ok r hv e3
      exact ⟨_, rfl⟩
     ·cases hl
    obtain ⟨A, hA⟩ := hptr
    rw [hA] at hg
    have hA' : (Instr.loadAt t (.pointer (some A))).run P w = (loadVar t A).run P w := by simp [Instr.loadAt, Instr.sureAddr]
    rw [hA'] at hg
    refine ⟨u :: rs, ?_, .cons hvu h2⟩
    rw [List.mapM_cons]
    have hA2 : (asAddr (a.tmps.getD x undef)).run P w = .ok A w := by rw [hA]; rfl
    simp only [Sem.run_bind, Sem.run_pure, Result.andThen_ok, h1, hA2, hg]
def scWp (P : Program) (body rest : Code) (Q : Exit → Act → World → Prop) (a : Act) (w : World) : Prop :=
 ∀ (b : Frame) (k : List Item) (cs : List Frame), ∃ e a' w', Q e a' w' ∧ Arrives P (lone (b.at a (.code rest :: .inScope body :: k)) cs w) b k cs e a' w'
theorem sc_ok {body rest : Code} {Q Q1 : Exit → Act → World → Prop} {a : Act} {w : World} (h : rest.wp P Q1 a w)
  (hnorm : ∀ a w, Q1 .normal a w → Q .normal a w) (hexit : ∀ id a w, Q1 (.exit id) a w → Q (.exit id) a w) (hret : ∀ a w, Q1 .ret a w → Q .ret a w)
  (hpan : ∀ c a w, ¬ Q1 (.panic c) a w) (hout : ∀ a w, ¬ Q1 .outgrown a w)
  (hgoto : ∀ l a w, Q1 (.goto l) a w → (∃ rest', findLabel body l = some rest' ∧ scWp P body rest' Q a w) ∨ (findLabel body l = none ∧ Q (.goto l) a w)) : scWp P body rest Q a w := by
 intro b k cs
 obtain ⟨e, a₁, w₁, hq, harr⟩ := h b (.inScope body :: k) cs
 cases e with
 | normal => exact ⟨.normal, a₁, w₁, hnorm _ _ hq, Steps.trans harr (.one step_inScope)⟩
 | exit id => exact ⟨.exit id, a₁, w₁, hexit _ _ _ hq, fun k' hk => harr k' (by simp [exitTo, hk])⟩
 | ret => exact ⟨.ret, a₁, w₁, hret _ _ hq, harr⟩
 | panic c => exact (hpan _ _ _ hq).elim
 | outgrown => exact (hout _ _ hq).elim
 | goto l =>
  rcases hgoto l a₁ w₁ hq with ⟨rest', hf, hsc⟩ | ⟨hf, hq'⟩
  ·obtain ⟨e, a₂, w₂, hq₂, harr₂⟩ := hsc b k cs
   refine ⟨e, a₂, w₂, hq₂, .of_steps (harr _ (by simp [gotoIn, hf])) harr₂⟩
  ·exact ⟨.goto l, a₁, w₁, hq', fun k' hk => harr k' (by simp [gotoIn, hf, hk])⟩
theorem wp_scope_sc {body : Code} {Q : Exit → Act → World → Prop} {a : Act} {w : World} (h : scWp P body body Q a w) : (Code.scope body).wp P Q a w := by
 intro b k cs
 obtain ⟨e, a₁, w₁, hq, harr⟩ := h b k cs
 exact ⟨e, a₁, w₁, hq, .of_steps (.one step_scope) harr⟩
def lpWp (P : Program) (c : Code) (Q : Exit → Act → World → Prop) (a : Act) (w : World) : Prop :=
 ∀ (b : Frame) (k : List Item) (cs : List Frame), ∃ e a' w', Q e a' w' ∧ Arrives P (lone (b.at a (.code c :: .inLoop c :: k)) cs w) b k cs e a' w'
theorem wp_loop_lp {c : Code} {Q : Exit → Act → World → Prop} {a : Act} {w : World} (h : lpWp P c Q a w) : (Code.loop c).wp P Q a w := by
 intro b k cs
 obtain ⟨e, a₁, w₁, hq, harr⟩ := h b k cs
 exact ⟨e, a₁, w₁, hq, .of_steps (.one step_loop) harr⟩
theorem lp_ok {c : Code} {Q : Exit → Act → World → Prop} {a : Act} {w : World} (h : c.wp P (Exit.then (lpWp P c Q) Q) a w) : lpWp P c Q a w := by
 intro b k cs
 obtain ⟨e, a₁, w₁, hq, harr⟩ := h b (.inLoop c :: k) cs
 cases e with
 | normal =>
  obtain ⟨e₂, a₂, w₂, hq₂, harr₂⟩ := hq b k cs
  exact ⟨e₂, a₂, w₂, hq₂, .of_steps (Steps.trans harr (.one step_inLoop)) harr₂⟩
 | exit id => exact ⟨_, a₁, w₁, hq, .pass (x := .inLoop c) rfl (fun _ _ => .inl (by simp)) harr⟩
 | goto l => exact ⟨_, a₁, w₁, hq, .pass (x := .inLoop c) rfl (fun _ _ => .inl (by simp)) harr⟩
 | ret => exact ⟨_, a₁, w₁, hq, .pass (x := .inLoop c) rfl (fun _ _ => .inl (by simp)) harr⟩
 | panic ch => exact ⟨_, a₁, w₁, hq, .pass (x := .inLoop c) rfl (fun _ _ => .inl (by simp)) harr⟩
 | outgrown => exact ⟨_, a₁, w₁, hq, .pass (x := .inLoop c) rfl (fun _ _ => .inl (by simp)) harr⟩
theorem Post.trans {G1 : Ghost} {H1 : DH} {w1 : World} {N : Nat} {out : Out} {σ' : Nat → DV} (st : Step G H w G1 H1 w1) {e : Exit} {a' : Act} {w' : World}
  (h : Post G1 H1 w1 N out σ' H' e a' w') : Post G H w N out σ' H' e a' w' := by
 obtain ⟨h1, G', h2, h3, h4, h5⟩ := h
 exact ⟨h1, G', h2, h3, h4, st.trans h5⟩
structure Sound (P : Program) (T : Tab) (ext : FuncId → Option (List DV → DH → Option (DV × DH))) (draw : Array Oper → Bool) (n : Nat) : Prop where
 code : ∀ c σ H out σ' H' u, evalW P T ext draw n (.code c) (σ, H) = some (out, (σ', H'), u) → ∀ G w a N, Rel G H w → SlotsOk G σ a → a.defers = [] → a.tmps.size = N → bnd N c = true →
  c.wp P (Post G H w N out σ' H') a w
 lp : ∀ c σ H out σ' H' u, evalW P T ext draw n (.code (.loop c)) (σ, H) = some (out, (σ', H'), u) → ∀ G w a N, Rel G H w → SlotsOk G σ a → a.defers = [] → a.tmps.size = N → bnd N c = true →
  lpWp P c (Post G H w N out σ' H') a w
 sc : ∀ body rest σ H out σ' H' u, evalW P T ext draw n (.sc body rest) (σ, H) = some (out, (σ', H'), u) → ∀ G w a N, Rel G H w → SlotsOk G σ a → a.defers = [] → a.tmps.size = N → bnd N body = true → bnd N rest = true →
  scWp P body rest (Post G H w N out σ' H') a w
 call : ∀ f args σ H out σ' H' v, evalW P T ext draw n (.call f args) (σ, H) = some (out, (σ', H'), v) → ∀ G w vs, Rel G H w → VL G args vs →
  (∃ fn c, P.funcs[f]? = some fn ∧ fn.body = some c) ∧ Calls P f vs.toArray w fun e w'' => ∃ v' G', e = .returned v' ∧ V G' v v' ∧ Step G H w G' H' w''
noncomputable def orc (P : Program) (T : Tab) (ext : FuncId → Option (List DV → DH → Option (DV × DH))) (draw : Array Oper → Bool) (n : Nat) : Orc := fun f args H => match ext f with
   | some e => e args H
   | none => match evalW P T ext draw n (.call f args) (fun _ => undefD, H) with
    | some (_, s', v) => some (v, s'.2)
    | none => none
theorem orc_ok {ext : FuncId → Option (List DV → DH → Option (DV × DH))} {draw : Array Oper → Bool} {n : Nat} (XO : ExtOk P ext) (NO : NameOk P) (S : Sound P T ext draw n) : OrcOk P (orc P T ext draw n) := by
 intro f args H d H' h G w vs r hv
 unfold orc at h
 cases he : ext f with
 | some e => simp only [he] at h; exact XO f e he args H d H' h G w vs r hv
 | none =>
  simp only [he] at h
  cases hc : evalW P T ext draw n (.call f args) (fun _ => undefD, H) with
  | none => simp [hc] at h
  | some q =>
   obtain ⟨out, ⟨σ', H2⟩, v⟩ := q
   simp only [hc, Option.some.injEq, Prod.mk.injEq] at h
   obtain ⟨rfl, rfl⟩ := h
   obtain ⟨⟨fn, c, hf, hb⟩, hcall⟩ := S.call f args _ H out σ' H2 v hc G w vs r hv
   have hname := NO f fn hf
   have : (callFunc f vs.toArray).run P w = .ok (.enter f vs.toArray) w := by
    simp only [callFunc, Sem.run_bind, run_program, Result.andThen_ok, hf, hname, hb, Bool.false_eq_true, if_false, Option.isNone_some, Sem.run_pure]
   rw [this]
   exact hcall
theorem frame_ok {args : List DV} {vs : List Value} (hv : VL G args vs) (N : Nat) : SlotsOk G (frame0 args) { tmps := vs.toArray ++ Array.replicate (N - vs.toArray.size) undef, defers := [] } := by
 intro t
 simp only [frame0]
 by_cases ht : t < args.length
 ·obtain ⟨v, h1, h2⟩ := hv.get (List.getElem?_eq_getElem ht)
  have hl : t < vs.length := by rw [← hv.1]; exact ht
  have e1 : args.getD t undefD = args[t] := by simp [List.getD, ht]
  rw [e1]
  have e2 : (vs.toArray ++ Array.replicate (N - vs.toArray.size) undef).getD t undef = v := by
   rw [Array.getD_eq_getD_getElem?, Array.getElem?_append_left (by simpa using hl)]
   simp [h1]
  rw [e2]; exact h2
 ·have e1 : args.getD t undefD = undefD := by simp [List.getD, List.getElem?_eq_none (by omega : args.length ≤ t)]
  rw [e1]
  have hl : ¬ t < vs.length := by rw [← hv.1]; exact ht
  have e2 : (vs.toArray ++ Array.replicate (N - vs.toArray.size) undef).getD t undef = undef := by
   rw [Array.getD_eq_getD_getElem?, Array.getElem?_append_right (by simp; omega), Array.getElem?_replicate]
   split <;> rfl
  rw [e2]; exact V_undef G
open Classical in
theorem sound (TO : TabOk P T) {ext : FuncId → Option (List DV → DH → Option (DV × DH))} {draw : Array Oper → Bool} (XO : ExtOk P ext) (NO : NameOk P) (DO : DrawOk P T draw) : ∀ n, Sound P T ext draw n
 | 0 => ⟨fun _ _ _ _ _ _ _ h => by simp [evalW] at h, fun _ _ _ _ _ _ _ h => by simp [evalW] at h, fun _ _ _ _ _ _ _ _ h => by simp [evalW] at h, fun _ _ _ _ _ _ _ _ h => by simp [evalW] at h⟩
 | n + 1 => by
  have S := sound TO XO NO DO n
  have EO := orc_ok XO NO S
  have LP : ∀ c σ H out σ' H' u, evalW P T ext draw (n + 1) (.code (.loop c)) (σ, H) = some (out, (σ', H'), u) → ∀ G w a N, Rel G H w → SlotsOk G σ a → a.defers = [] → a.tmps.size = N → bnd N c = true →
    lpWp P c (Post G H w N out σ' H') a w := by
   intro c σ H out σ' H' u h G w a N r hs hd hn hb
   simp only [evalW] at h
   cases hc : evalW P T ext draw n (.code c) (σ, H) with
   | none => simp [hc] at h
   | some q =>
    obtain ⟨o1, ⟨σ1, H1⟩, u1⟩ := q
    have hwp := S.code c σ H o1 σ1 H1 u1 hc G w a N r hs hd hn hb
    refine lp_ok (wp_mono hwp fun e a' w' hp => ?_)
    simp only [hc] at h
    obtain ⟨rfl, G', g1, g2, g3, g4⟩ := hp
    cases o1 with
    | norm =>
     simp only at h
     have := S.lp c σ1 H1 out σ' H' u h G' w' a' N g4.rel g1 g2 g3 hb
     intro b k cs
     obtain ⟨e, a2, w2, hq, harr⟩ := this b k cs
     exact ⟨e, a2, w2, hq.trans g4, harr⟩
    | exit id =>
     simp only [Option.some.injEq, Prod.mk.injEq] at h
     obtain ⟨rfl, ⟨rfl, rfl⟩, _⟩ := h
     exact ⟨rfl, G', g1, g2, g3, g4⟩
    | goto l =>
     simp only [Option.some.injEq, Prod.mk.injEq] at h
     obtain ⟨rfl, ⟨rfl, rfl⟩, _⟩ := h
     exact ⟨rfl, G', g1, g2, g3, g4⟩
    | ret =>
     simp only [Option.some.injEq, Prod.mk.injEq] at h
     obtain ⟨rfl, ⟨rfl, rfl⟩, _⟩ := h
     exact ⟨rfl, G', g1, g2, g3, g4⟩
  refine ⟨?_, LP, ?_, ?_⟩
  ·intro c σ H out σ' H' u h G w a N r hs hd hn hb
   have fin : ∀ {e : Exit}, e = toExit out → σ' = σ → H' = H → Post G H w N out σ' H' e a w := by
    rintro e rfl rfl rfl
    exact ⟨rfl, G, hs, hd, hn, .refl r⟩
   cases c with
   | skip => simp only [evalW, Option.some.injEq, Prod.mk.injEq] at h; obtain ⟨rfl, ⟨rfl, rfl⟩, _⟩ := h; exact wp_skip (fin rfl rfl rfl)
   | label l => simp only [evalW, Option.some.injEq, Prod.mk.injEq] at h; obtain ⟨rfl, ⟨rfl, rfl⟩, _⟩ := h; exact wp_label (fin rfl rfl rfl)
   | ret => simp only [evalW, Option.some.injEq, Prod.mk.injEq] at h; obtain ⟨rfl, ⟨rfl, rfl⟩, _⟩ := h; exact wp_ret (fin rfl rfl rfl)
   | exit id => simp only [evalW, Option.some.injEq, Prod.mk.injEq] at h; obtain ⟨rfl, ⟨rfl, rfl⟩, _⟩ := h; exact wp_exit (fin rfl rfl rfl)
   | goto l => simp only [evalW, Option.some.injEq, Prod.mk.injEq] at h; obtain ⟨rfl, ⟨rfl, rfl⟩, _⟩ := h; exact wp_goto (fin rfl rfl rfl)
   | rangeFunc _ _ _ _ => simp [evalW] at h
   | refuse _ => simp [evalW] at h
   | loop body => exact wp_loop_lp (LP body σ H out σ' H' u h G w a N r hs hd hn (by simpa [bnd] using hb))
   | scope body =>
    simp only [evalW] at h
    have hb' : bnd N body = true := by simpa [bnd] using hb
    exact wp_scope_sc (S.sc body body σ H out σ' H' u h G w a N r hs hd hn hb' hb')
   | cond x t e =>
    simp only [evalW] at h
    cases hx : opd σ x with
    | none => simp [hx] at h
    | some v =>
     simp only [hx] at h
     split at h
     ·rename_i b heq
      obtain rfl := Option.some.inj heq
      have hv := opd_ok hs hx
      generalize hve : a.eval x = ve at hv
      cases hv
      simp only [bnd, Bool.and_eq_true] at hb
      exact wp_cond hve (S.code _ σ H out σ' H' u h G w a N r hs hd hn (by cases b; exact hb.2; exact hb.1))
     ·cases h
   | seq x y =>
    simp only [evalW] at h
    simp only [bnd, Bool.and_eq_true] at hb
    cases hc : evalW P T ext draw n (.code x) (σ, H) with
    | none => simp [hc] at h
    | some q =>
     obtain ⟨o1, ⟨σ1, H1⟩, u1⟩ := q
     have hwp := S.code x σ H o1 σ1 H1 u1 hc G w a N r hs hd hn hb.1
     refine wp_seq (wp_mono hwp fun e a' w' hp => ?_)
     simp only [hc] at h
     obtain ⟨rfl, G', g1, g2, g3, g4⟩ := hp
     cases o1 with
     | norm =>
      simp only at h
      exact wp_mono (S.code y σ1 H1 out σ' H' u h G' w' a' N g4.rel g1 g2 g3 hb.2) fun e a2 w2 hq => hq.trans g4
     | exit id =>
      simp only [Option.some.injEq, Prod.mk.injEq] at h
      obtain ⟨rfl, ⟨rfl, rfl⟩, _⟩ := h
      exact ⟨rfl, G', g1, g2, g3, g4⟩
     | goto l =>
      simp only [Option.some.injEq, Prod.mk.injEq] at h
      obtain ⟨rfl, ⟨rfl, rfl⟩, _⟩ := h
      exact ⟨rfl, G', g1, g2, g3, g4⟩
     | ret =>
      simp only [Option.some.injEq, Prod.mk.injEq] at h
      obtain ⟨rfl, ⟨rfl, rfl⟩, _⟩ := h
      exact ⟨rfl, G', g1, g2, g3, g4⟩
   | block id x =>
    simp only [evalW] at h
    simp only [bnd] at hb
    cases hc : evalW P T ext draw n (.code x) (σ, H) with
    | none => simp [hc] at h
    | some q =>
     obtain ⟨o1, ⟨σ1, H1⟩, u1⟩ := q
     have hwp := S.code x σ H o1 σ1 H1 u1 hc G w a N r hs hd hn hb
     refine wp_block (wp_mono hwp fun e a' w' hp => ?_)
     simp only [hc] at h
     obtain ⟨rfl, G', g1, g2, g3, g4⟩ := hp
     cases o1 with
     | exit id' =>
      simp only [toExit, Exit.inBlock]
      simp only at h
      by_cases hid : id' = id
      ·rw [if_pos hid] at h ⊢
       simp only [Option.some.injEq, Prod.mk.injEq] at h
       obtain ⟨rfl, ⟨rfl, rfl⟩, _⟩ := h
       exact ⟨rfl, G', g1, g2, g3, g4⟩
      ·rw [if_neg hid] at h ⊢
       simp only [Option.some.injEq, Prod.mk.injEq] at h
       obtain ⟨rfl, ⟨rfl, rfl⟩, _⟩ := h
       exact ⟨rfl, G', g1, g2, g3, g4⟩
     | norm =>
      simp only [Option.some.injEq, Prod.mk.injEq] at h
      obtain ⟨rfl, ⟨rfl, rfl⟩, _⟩ := h
      exact ⟨rfl, G', g1, g2, g3, g4⟩
     | goto l =>
      simp only [Option.some.injEq, Prod.mk.injEq] at h
      obtain ⟨rfl, ⟨rfl, rfl⟩, _⟩ := h
      exact ⟨rfl, G', g1, g2, g3, g4⟩
     | ret =>
      simp only [Option.some.injEq, Prod.mk.injEq] at h
      obtain ⟨rfl, ⟨rfl, rfl⟩, _⟩ := h
      exact ⟨rfl, G', g1, g2, g3, g4⟩
   | region id ops dr =>
    simp only [evalW] at h
    change (if dr = true ∧ ¬ (draw ops = true ∨ Floats T (orc P T ext draw n) ops (σ, H)) then none else match evalOps T (orc P T ext draw n) ops ops.toList (σ, H) with | some s' => some (Out.norm, s', undefD) | none => none) = _ at h
    split at h
    ·cases h
    ·rename_i hdr
     cases he : evalOps T (orc P T ext draw n) ops ops.toList (σ, H) with
     | none => simp [he] at h
     | some s' =>
      obtain ⟨σ2, H2⟩ := s'
      simp only [he, Option.some.injEq, Prod.mk.injEq] at h
      obtain ⟨rfl, ⟨rfl, rfl⟩, _⟩ := h
      cases dr with
      | true =>
       have hdw : draw ops = true ∨ Floats T (orc P T ext draw n) ops (σ, H) := Classical.byContradiction fun hq => hdr ⟨rfl, hq⟩
       exact DO ops _ EO σ H σ2 H2 hdw he G w a N id r hs hd hn hb
      | false =>
       obtain ⟨b1, b2⟩ := bnd_region hb
       refine wp_region_list (evalOps_ok TO EO b1 ops.toList σ H σ2 H2 b2 he G w a r hs hd hn fun a' w' G' h1 h2 h3 h4 => ⟨rfl, G', h1, h2, h3, h4⟩)
  ·intro body rest σ H out σ' H' u h G w a N r hs hd hn hb hb2
   simp only [evalW] at h
   cases hc : evalW P T ext draw n (.code rest) (σ, H) with
   | none => simp [hc] at h
   | some q =>
    obtain ⟨o1, ⟨σ1, H1⟩, u1⟩ := q
    have hwp := S.code rest σ H o1 σ1 H1 u1 hc G w a N r hs hd hn hb2
    simp only [hc] at h
    cases o1 with
    | goto l =>
     simp only at h
     refine sc_ok hwp (fun _ _ q => by cases q.1) (fun _ _ _ q => by cases q.1) (fun _ _ q => by cases q.1) (fun _ _ _ q => by cases q.1) (fun _ _ q => by cases q.1) fun l' a' w' q => ?_
     obtain ⟨he, G', g1, g2, g3, g4⟩ := q
     obtain rfl : l' = l := by simpa [toExit] using he
     cases hf : findLabel body l' with
     | some rest' =>
      simp only [hf] at h
      refine .inl ⟨rest', rfl, ?_⟩
      have := S.sc body rest' σ1 H1 out σ' H' u h G' w' a' N g4.rel g1 g2 g3 hb (bnd_find hb hf)
      intro b k cs
      obtain ⟨e, a2, w2, hq, harr⟩ := this b k cs
      exact ⟨e, a2, w2, hq.trans g4, harr⟩
     | none =>
      simp only [hf, Option.some.injEq, Prod.mk.injEq] at h
      obtain ⟨rfl, ⟨rfl, rfl⟩, _⟩ := h
      exact .inr ⟨rfl, rfl, G', g1, g2, g3, g4⟩
    | norm =>
     simp only [Option.some.injEq, Prod.mk.injEq] at h
     obtain ⟨rfl, ⟨rfl, rfl⟩, _⟩ := h
     exact sc_ok hwp (fun _ _ q => q) (fun _ _ _ q => by cases q.1) (fun _ _ q => by cases q.1) (fun _ _ _ q => by cases q.1) (fun _ _ q => by cases q.1) (fun _ _ _ q => by cases q.1)
    | exit id =>
     simp only [Option.some.injEq, Prod.mk.injEq] at h
     obtain ⟨rfl, ⟨rfl, rfl⟩, _⟩ := h
     exact sc_ok hwp (fun _ _ q => by cases q.1) (fun _ _ _ q => q) (fun _ _ q => by cases q.1) (fun _ _ _ q => by cases q.1) (fun _ _ q => by cases q.1) (fun _ _ _ q => by cases q.1)
    | ret =>
     simp only [Option.some.injEq, Prod.mk.injEq] at h
     obtain ⟨rfl, ⟨rfl, rfl⟩, _⟩ := h
     exact sc_ok hwp (fun _ _ q => by cases q.1) (fun _ _ _ q => by cases q.1) (fun _ _ q => q) (fun _ _ _ q => by cases q.1) (fun _ _ q => by cases q.1) (fun _ _ _ q => by cases q.1)
  ·intro f args σ H out σ' H' v h G w vs r hv
   simp only [evalW] at h
   cases hf : P.funcs[f]? with
   | none => simp [hf] at h
   | some fn =>
    simp only [hf] at h
    cases hb : fn.body with
    | none => simp [hb] at h
    | some c =>
     simp only [hb] at h
     by_cases hlen : args.length ≤ fn.ntmps ∧ bnd fn.ntmps c = true
     ·rw [if_pos hlen] at h
      refine ⟨⟨fn, c, rfl, hb⟩, ?_⟩
      cases hc : evalW P T ext draw n (.code c) (frame0 args, H) with
      | none => simp [hc] at h
      | some q =>
       obtain ⟨o1, ⟨σ1, H1⟩, u1⟩ := q
       have hsz : (vs.toArray ++ Array.replicate (fn.ntmps - vs.toArray.size) undef).size = fn.ntmps := by
        have := hv.1
        simp; omega
       have hwp := S.code c _ H o1 σ1 H1 u1 hc G w { tmps := vs.toArray ++ Array.replicate (fn.ntmps - vs.toArray.size) undef, defers := [] } fn.ntmps r (frame_ok hv _) rfl hsz hlen.2
       refine calls_of_wp hf hb (wp_mono hwp fun e a' w' hp => ?_)
       obtain ⟨rfl, G', g1, g2, g3, g4⟩ := hp
       have key : ∀ vs', resD T σ1 H1 fn.results.toList = some vs' → H1 = H' → resOne vs' = v → ∃ x, (results fn a'.tmps).run P w' = .ok x w' ∧ V G' v x := by
        intro vs' hr hH hvv
        obtain ⟨rs, k1, k2⟩ := res_ok TO g4.rel g1 hr
        have hmap : (fn.results.mapM fun (y : ResultVar) => (match y with | .tmp t => pure (a'.tmps.getD t undef) | .cell x t => do loadVar t (← asAddr (a'.tmps.getD x undef)) : Sem Value)).run P w' = .ok rs.toArray w' := by
         rw [Array.mapM_eq_mapM_toList]
         simp only [Sem.run_map, k1, Result.andThen_ok]
        refine ⟨if h : rs.toArray.size = 1 then rs.toArray[0] else .tuple rs.toArray, ?_, ?_⟩
        ·unfold results
         rw [Sem.run_bind]
         refine (congrArg (fun r => Result.andThen r _) hmap).trans ?_
         rfl
        ·subst hvv
         cases vs' with
         | nil =>
          obtain rfl := k2.nil_inv
          exact V.tup (vs := []) rfl (fun i d v h => by simp at h)
         | cons d1 r1 =>
          obtain ⟨v1, rs1, rfl, m1, m2⟩ := k2.cons_inv
          cases r1 with
          | nil =>
           obtain rfl := m2.nil_inv
           simpa [resOne] using m1
          | cons d2 r2 =>
           obtain ⟨v2, rs2, rfl, m3, m4⟩ := m2.cons_inv
           have hne : ¬ (v1 :: v2 :: rs2).toArray.size = 1 := by simp
           rw [dif_neg hne]
           exact V.tup k2.1 k2.2
       simp only [hc] at h
       cases o1 with
       | norm =>
        simp only at h
        cases hr : resD T σ1 H1 fn.results.toList with
        | none => simp [hr] at h
        | some vs' =>
         simp only [hr, Option.some.injEq, Prod.mk.injEq] at h
         obtain ⟨_, ⟨rfl, rfl⟩, h3⟩ := h
         obtain ⟨x, hx, hvx⟩ := key vs' hr rfl h3
         exact ⟨g2, x, hx, x, G', rfl, hvx, g4⟩
       | ret =>
        simp only at h
        cases hr : resD T σ1 H1 fn.results.toList with
        | none => simp [hr] at h
        | some vs' =>
         simp only [hr, Option.some.injEq, Prod.mk.injEq] at h
         obtain ⟨_, ⟨rfl, rfl⟩, h3⟩ := h
         obtain ⟨x, hx, hvx⟩ := key vs' hr rfl h3
         exact ⟨g2, x, hx, x, G', rfl, hvx, g4⟩
       | exit id => simp at h
       | goto l => simp at h
     ·rw [if_neg hlen] at h; cases h
end
end Go.Proofs.YtcknfhhbijlobaaGreatDoor.D
