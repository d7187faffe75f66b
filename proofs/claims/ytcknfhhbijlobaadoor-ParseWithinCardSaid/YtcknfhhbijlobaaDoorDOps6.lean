/- D: what each operation does, held against the model's (6): conversions, cuts. -/
import Derived.Test.YtcknfhhbijlobaaDoorDOps5
namespace Go.Proofs.YtcknfhhbijlobaaDoor.D
open Go
set_option linter.unusedVariables false
set_option linter.unusedSimpArgs false

section
variable {P : Program} {T : Tab} {G : Ghost} {H H' : DH} {w : World} {d : DV}

theorem freeze_new (w : World) (c : Array Value) (e : TypeId) (n : Nat) : (w.alloc (.cells c e)).freeze { block := w.heap.size, off := n } 1 = w.alloc (.cells c e (n, n + 1)) := by
  unfold World.freeze
  simp only [Nat.one_ne_zero, if_false]
  unfold World.alloc
  congr 1
  apply Array.ext_getElem?
  intro k
  rw [Array.getElem?_modify]
  by_cases hk : w.heap.size = k
  · subst hk; simp
  · simp [hk, Array.getElem?_push]
    split
    · omega
    · rfl

theorem foldl_ints : ∀ (l : List Int) (r : ByteArray), l.foldl (fun r n => r.push (UInt8.ofNat n.toNat)) r = ⟨r.data ++ (l.map fun n => UInt8.ofNat n.toNat).toArray⟩
  | [], r => by simp
  | b :: l, r => by
    simp only [List.foldl_cons]
    rw [foldl_ints l]
    simp [ByteArray.push]

theorem bytesOf_ok : ∀ {es : List DV} {l : List UInt8} {vs : List Value}, VL G (flat es) vs → bytesOf es = some l → ∃ ns : List Int, vs = ns.map (Value.int .u8) ∧ l = ns.map fun n => UInt8.ofNat n.toNat
  | [], l, vs, hv, h => by
    simp [bytesOf] at h; subst h
    exact ⟨[], by simpa using hv.nil_inv, rfl⟩
  | e :: es, l, vs, hv, h => by
    unfold bytesOf at h
    split at h
    · rename_i heq; cases heq
    · rename_i n r heq
      cases heq
      cases hr : bytesOf es with
      | none => simp [hr] at h
      | some l' =>
        simp only [hr, Option.some.injEq] at h
        subst h
        simp only [flat, DV.cells, List.singleton_append] at hv
        obtain ⟨v, vs', rfl, h1, h2⟩ := hv.cons_inv
        cases h1
        obtain ⟨ns, rfl, rfl⟩ := bytesOf_ok h2 hr
        exact ⟨n :: ns, rfl, rfl⟩
    · cases h

theorem conv_ok (TO : TabOk P T) (r : Rel G H w) {src dst : TypeId} {x : DV} {vx : Value} (hx : V G x vx) (hsrc : ∃ td, P.underlying src = some td) (h : convD T src dst x H = some (d, H')) :
    GoodV P G H w H' d ((convert src dst vx).run P w) := by
  obtain ⟨std, hstd⟩ := hsrc
  unfold convD at h
  split at h
  · rename_i k k' n e1
    have hdH := Prod.mk.inj (Option.some.inj h)
    rw [← hdH.1, ← hdH.2]
    cases hx
    refine good_ok r (.int _ _) ?_
    cases std <;> simp [convert, run_underlying hstd, run_underlying (TO.und _ _ e1), Conv.intToInt]
  · rename_i s e1
    have hdH := Prod.mk.inj (Option.some.inj h)
    rw [← hdH.1, ← hdH.2]
    cases hx
    refine good_ok r (.str _) ?_
    cases std <;> simp [convert, run_underlying hstd, run_underlying (TO.und _ _ e1)]
  · rename_i e s e1
    split at h
    · rename_i e2 e3
      by_cases hs : s.length < 9223372036854775808
      · rw [if_pos hs] at h
        have hdH := Prod.mk.inj (Option.some.inj h)
        rw [← hdH.1, ← hdH.2]
        cases hx
        have hge := grownCap_ge w s.length 0 e
        have hst := Step.drew r
        have hlen : ((s.map fun b => Value.int .u8 (b.toNat : Int)) ++ List.replicate (grownCap w s.length 0 e - s.length) (Value.int .u8 0)).length = grownCap w s.length 0 e := by simp; omega
        obtain ⟨G', st, hv⟩ := Step.newSlice (w := w.drew) hst.rel (es := s.map byteDV) (vs := s.map fun b => Value.int .u8 (b.toNat : Int)) (post := List.replicate (grownCap w s.length 0 e - s.length) (Value.int .u8 0))
          (cap := grownCap w s.length 0 e) (sz := 1) (T' := e) (fr := (grownCap w s.length 0 e, grownCap w s.length 0 e + 1)) (by omega) (by simp [byteDV, DV.cells]) (ones_bytes s) (by rw [flat_bytes]; exact VL_bytes G s) (by rw [hlen, Nat.mul_one])
          (by intro o h1 h2; simp at h2 ⊢; omega) (cl := false) (by simp)
        have hrun : (convert src dst (.string ⟨s.toArray⟩)).run P w = .ok (.slice (some ⟨w.heap.size, 0, none⟩) s.length (grownCap w s.length 0 e))
            (w.drew.alloc (.cells ((s.map fun b => Value.int .u8 (b.toNat : Int)) ++ List.replicate (grownCap w s.length 0 e - s.length) (Value.int .u8 0)).toArray e (grownCap w s.length 0 e, grownCap w s.length 0 e + 1))) := by
          rw [← freeze_new]
          have hsh : (w.drew.alloc (.cells ((s.map fun b => Value.int .u8 (b.toNat : Int)) ++ List.replicate (grownCap w s.length 0 e - s.length) (Value.int .u8 0)).toArray e)).shape? w.heap.size = some (e, grownCap w s.length 0 e) := by
            unfold World.shape?
            rw [show w.heap.size = w.drew.heap.size from rfl, heap_alloc_new w.drew]
            simp only [List.size_toArray, hlen]
          have hconv : (convert src dst (.string ⟨s.toArray⟩)).run P w = (Conv.stringToBytes e ⟨s.toArray⟩).run P w := by
            cases std <;> simp [convert, run_underlying hstd, run_underlying (TO.und _ _ e1), run_underlying (TO.und _ _ e2)]
          rw [hconv]
          have harr : (Array.map (fun b : UInt8 => Value.int .u8 (b.toNat : Int)) s.toArray ++ Array.replicate (grownCap w s.length 0 e - s.length) (Value.int .u8 0)) = ((s.map fun b => Value.int .u8 (b.toNat : Int)) ++ List.replicate (grownCap w s.length 0 e - s.length) (Value.int .u8 0)).toArray := by
            apply Array.toList_inj.1
            simp
          have hg : (Question.appendCap s.length 0 e).cut (w.tape w.drawn (.appendCap s.length 0 e)) = grownCap w s.length 0 e := rfl
          simp only [Conv.stringToBytes, ba_size, Sem.run_bind, run_choose, Question.forced, Bool.false_eq_true, if_false, World.drew_eq, Result.andThen_ok, hg, harr, newRow, run_newObj, World.alloc_eq, Sem.run_pure, markStringish, run_shape, World.size_drew, hsh, run_freeze]
        rw [hrun]
        simp only [D.newSl, List.length_map] at st hv ⊢
        exact ⟨G', hv, hst.trans st⟩
      · rw [if_neg hs] at h; cases h
    · cases h
  · rename_i b off e1
    split at h
    · rename_i t e2
      split at h
      · rename_i n T0 cs e3 hm
        by_cases hc : n ≠ 0 ∧ off < cs.length
        · rw [if_pos hc] at h
          have hdH := Prod.mk.inj (Option.some.inj h)
          rw [← hdH.1, ← hdH.2]
          cases hx with
          | ptr hρ =>
            rename_i B s
            obtain ⟨⟨pre, vs, post, T', fr, h1, h2, h3, h4, rfl, rfl, rfl⟩, h5⟩ := r.cells _ _ _ hm _ _ hρ
            have hs0 : s = 0 := by simpa using h2.symm
            subst hs0
            have hsh : w.shape? B = some (T', vs.length) := by simp [World.shape?, h1]
            have hlt : off < vs.length := by rw [← h3.1]; exact hc.2
            refine good_ok r (V.ptr hρ) ?_
            have hn1 : ¬ vs.length ≤ off := by omega
            simp [convert, run_underlying (TO.und _ _ e2), run_underlying (TO.und _ _ e1), Conv.unsafePointer, Conv.seenAt, viewAt, cellsIn, hsh, run_sizeOf' TO e3, hc.1, hn1]
        · rw [if_neg hc] at h; cases h
      · cases h
    · cases h
  · rename_i u b off e1
    split at h
    · rename_i e2
      split at h
      · rename_i t cs hm
        by_cases hc : T.lies t cs.length off u = true
        · rw [if_pos hc] at h
          have hdH := Prod.mk.inj (Option.some.inj h)
          rw [← hdH.1, ← hdH.2]
          cases hx with
          | ptr hρ =>
            rename_i B s
            obtain ⟨⟨pre, vs, post, T', fr, h1, h2, h3, h4, rfl, rfl, rfl⟩, h5⟩ := r.cells _ _ _ hm _ _ hρ
            have hs0 : s = 0 := by simpa using h2.symm
            subst hs0
            have hsh : w.shape? B = some (T', vs.length) := by simp [World.shape?, h1]
            obtain ⟨hl, i, hi⟩ := TO.lies _ _ _ _ hc
            rw [h3.1] at hl
            refine good_ok r (V.ptr hρ) ?_
            simp [convert, run_underlying (TO.und _ _ e2), run_underlying (TO.und _ _ e1), Conv.unsafePointer, Conv.seenAt, viewAt, variablesAt, hsh, sizeOf, typeInfo, hi, hl]
        · rw [if_neg hc] at h; cases h
      · cases h
    · cases h
  · rename_i e1
    split at h
    · rename_i e e2
      split at h
      · rename_i e3
        have hdH := Prod.mk.inj (Option.some.inj h)
        rw [← hdH.1, ← hdH.2]
        cases hx
        refine good_ok r (V.str []) ?_
        simp [convert, run_underlying (TO.und _ _ e2), run_underlying (TO.und _ _ e1), run_underlying (TO.und _ _ e3), Conv.bytesToString]
        rfl
      · cases h
    · cases h
  · rename_i id sz off es e1
    split at h
    · rename_i e e2
      split at h
      · rename_i l e3 e4
        by_cases hs : sz = 1
        · rw [if_pos hs] at h
          have hdH := Prod.mk.inj (Option.some.inj h)
          rw [← hdH.1, ← hdH.2]
          cases hx with
          | sl hsz he ho hl him hvv hln hcap hp =>
            rename_i vs B o cap len
            subst hs; subst hln
            obtain ⟨ns, rfl, rfl⟩ := bytesOf_ok ⟨hl, hvv⟩ e4
            refine good_ok r (V.str _) ?_
            have hnl : ns.length = es.length := by have := hl; rw [flat_length he] at this; simpa using this.symm
            have hld := run_loadCells_list (P := P) w ⟨B, o, none⟩ (ns.map (Value.int .u8)) (fun j v hj => by rw [addr_add]; exact r.imCell (him j v hj))
            simp only [List.length_map] at hld
            have := run_bytesToString (P := P) w ⟨B, o, none⟩ es.length cap ns (by rw [← hnl]; exact hld)
            rw [foldl_ints] at this
            have he0 : ByteArray.empty.data = #[] := rfl
            rw [he0] at this
            rw [run_convert_bytes_string w src dst e (some ⟨B, o, none⟩) es.length cap (TO.und _ _ e2) (TO.und _ _ e3) (TO.und _ _ e1), this]
            simp
        · rw [if_neg hs] at h; cases h
      · cases h
    · cases h
  · cases h

theorem bound_ok {x : Option DV} {vx : Option Value} {dflt top top' n : Nat} {code : BoundsCode} (hx : match x, vx with | none, none => True | some a, some b => V G a b | _, _ => False) (ht : top ≤ top') (h : boundD x dflt top = some n) :
    (match vx with | some v => Instr.sliceBound v top' code | none => pure dflt : Sem Nat).run P w = .ok n w := by
  unfold boundD at h
  split at h
  · cases vx with
    | none => simp at h; subst h; rfl
    | some v => exact hx.elim
  · rename_i k i
    cases vx with
    | none => exact hx.elim
    | some v =>
      cases hx
      split at h
      · rename_i hc
        obtain rfl := Option.some.inj h
        have : (0 : Int) ≤ i ∧ i ≤ (top' : Int) := by omega
        simp [Instr.sliceBound, asIntOf, this]
      · cases h
  · cases h

def OptV (G : Ghost) (x : Option DV) (vx : Option Value) : Prop := match x, vx with | none, none => True | some a, some b => V G a b | _, _ => False

theorem bounds_ok {b : Bool} {lo hi : Option DV} {vlo vhi : Option Value} {len cap l h : Nat} (hlo : OptV G lo vlo) (hhi : OptV G hi vhi) (hc : len ≤ cap)
    (h1 : boundD hi len len = some h) (h2 : boundD lo 0 h = some l) (w : World) : (Instr.sliceBounds b len cap vlo vhi none).run P w = .ok (l, h, cap) w := by
  unfold Instr.sliceBounds
  have e1 := fun c => bound_ok (P := P) (w := w) (code := c) (top' := cap) hhi hc h1
  have e2 := fun c => bound_ok (P := P) (w := w) (code := c) (top' := h) hlo (Nat.le_refl _) h2
  cases vhi <;> cases vlo <;> simp at e1 e2 <;> simp [e1, e2]

theorem bound_le {x : Option DV} {dflt top n : Nat} (hd : dflt ≤ top) (h : boundD x dflt top = some n) : n ≤ top := by
  unfold boundD at h
  split at h
  · simp at h; omega
  · split at h
    · simp at h; omega
    · cases h
  · cases h

theorem flat_drop {sz : Nat} : ∀ {es : List DV} (l : Nat), (∀ e ∈ es, e.cells.length = sz) → flat (es.drop l) = (flat es).drop (l * sz)
  | [], l, h => by simp [flat]
  | e :: es, 0, h => by simp
  | e :: es, l + 1, h => by
    rw [List.drop_succ_cons, flat_drop l fun x hx => h x (by simp [hx])]
    simp only [flat]
    have : (l + 1) * sz = e.cells.length + l * sz := by rw [h e (by simp), Nat.add_mul]; omega
    rw [this, ← List.drop_drop, List.drop_left]
theorem flat_take {sz : Nat} : ∀ {es : List DV} (l : Nat), (∀ e ∈ es, e.cells.length = sz) → flat (es.take l) = (flat es).take (l * sz)
  | [], l, h => by simp [flat]
  | e :: es, 0, h => by simp [flat]
  | e :: es, l + 1, h => by
    rw [List.take_succ_cons]
    simp only [flat]
    have : (l + 1) * sz = e.cells.length + l * sz := by rw [h e (by simp), Nat.add_mul]; omega
    rw [flat_take l fun x hx => h x (by simp [hx]), this, List.take_length_add_append]

theorem ba_extract (s : List UInt8) (l h : Nat) : (⟨s.toArray⟩ : ByteArray).extract l h = ⟨((s.take h).drop l).toArray⟩ := by
  apply ByteArray.ext
  rw [ByteArray.data_extract]
  apply Array.toList_inj.1
  rw [List.drop_take]
  simp

theorem slice_ok (TO : TabOk P T) (r : Rel G H w) {t : TypeId} {x : DV} {vx : Value} {lo hi : Option DV} {vlo vhi : Option Value} (hx : V G x vx) (hlo : OptV G lo vlo) (hhi : OptV G hi vhi)
    (h : sliceD T t x lo hi = some d) : GoodV P G H w H d ((Instr.sliceAt t vx vlo vhi none).run P w) := by
  unfold sliceD at h
  split at h
  · rename_i s e1
    cases hx
    split at h
    · rename_i hh e2
      split at h
      · rename_i l e3
        obtain rfl := Option.some.inj h
        refine good_ok r (V.str _) ?_
        have := bounds_ok (P := P) (b := false) hlo hhi (Nat.le_refl s.length) e2 e3 w
        simp [Instr.sliceAt, Instr.slice, run_underlying (TO.und _ _ e1), ba_size, this, ba_extract]
      · cases h
    · cases h
  · rename_i e id sz off es e1
    by_cases hsz : T.size e = some sz
    · rw [if_pos hsz] at h
      split at h
      · rename_i hh e2
        split at h
        · rename_i l e3
          obtain rfl := Option.some.inj h
          cases hx with
          | sl hsz0 he ho hl him hvv hln hcap hp =>
            rename_i vs B o cap len
            subst hln
            have hb := bounds_ok (P := P) (b := true) hlo hhi hcap e2 e3 w
            have h1 := bound_le (Nat.le_refl _) e2
            have h2 := bound_le (Nat.zero_le _) e3
            have hrun : (Instr.sliceAt t (.slice (some ⟨B, o, none⟩) es.length cap) vlo vhi none).run P w = .ok (.slice (some ⟨B, if cap = l then o else o + l * sz, none⟩) (hh - l) (cap - l)) w := by
              simp only [Instr.sliceAt, Instr.slice, Sem.run_bind, run_underlying (TO.und _ _ e1), Result.andThen_ok, hb, run_sizeOf' TO hsz, Sem.run_pure]
              split
              · rfl
              · simp [addr_add]
            have hes : ∀ x ∈ (es.take hh).drop l, x.cells.length = sz := fun x hx => he x (List.mem_of_mem_take (List.mem_of_mem_drop hx))
            have hfl : flat ((es.take hh).drop l) = ((flat es).take (hh * sz)).drop (l * sz) := by
              rw [flat_drop l fun x hx => he x (List.mem_of_mem_take hx), flat_take hh he]
            have hlen : ((es.take hh).drop l).length = hh - l := by simp; omega
            refine good_ok r (V.sl (vs := (vs.take (hh * sz)).drop (l * sz)) hsz0 hes ?_ ?_ ?_ ?_ hlen.symm (by omega) ?_) hrun
            · rw [hfl]
              rw [List.all_eq_true] at ho ⊢
              exact fun x hx => ho x (List.mem_of_mem_take (List.mem_of_mem_drop hx))
            · rw [hfl]; simp [hl]
            · intro i v hi
              rw [List.getElem?_drop, List.getElem?_take] at hi
              split at hi
              · rename_i hlt
                have hcl : cap ≠ l := by
                  rintro rfl
                  have : hh * sz ≤ cap * sz := Nat.mul_le_mul_right _ (by omega)
                  omega
                rw [if_neg hcl, Nat.add_assoc]
                exact him _ _ hi
              · cases hi
            · rw [hfl]
              exact (((VL.take ⟨hl, hvv⟩ (hh * sz)).drop (l * sz))).2
            · by_cases hcl : cap = l
              · left; omega
              · rcases hp with hp | hp | ⟨e', p, pc, q1, q2, q3, q4⟩
                · left; omega
                · right; left; exact hp
                · right; right
                  refine ⟨e', p, pc, by omega, q2, ?_, ?_⟩
                  · rw [if_neg hcl, ← q3, Nat.add_assoc, ← Nat.add_mul]
                    congr 2; omega
                  · rw [if_neg hcl, Nat.add_assoc, ← Nat.add_mul, show l + (cap - l) = cap by omega]
                    exact q4
        · cases h
      · cases h
    · rw [if_neg hsz] at h; cases h
  · rename_i e b sz off len e1
    by_cases hsz : T.size e = some sz
    · rw [if_pos hsz] at h
      split at h
      · rename_i hh e2
        split at h
        · rename_i l e3
          obtain rfl := Option.some.inj h
          cases hx with
          | hs hρ hcap hp =>
            rename_i B s o cap
            have hb := bounds_ok (P := P) (b := true) hlo hhi hcap e2 e3 w
            have h1 := bound_le (Nat.le_refl _) e2
            have h2 := bound_le (Nat.zero_le _) e3
            have hrun : (Instr.sliceAt t (.slice (some ⟨B, o, none⟩) len cap) vlo vhi none).run P w = .ok (.slice (some ⟨B, if cap = l then o else o + l * sz, none⟩) (hh - l) (cap - l)) w := by
              simp only [Instr.sliceAt, Instr.slice, Sem.run_bind, run_underlying (TO.und _ _ e1), Result.andThen_ok, hb, run_sizeOf' TO hsz, Sem.run_pure]
              split
              · rfl
              · simp [addr_add]
            refine good_ok r (V.hs hρ (by omega) ?_) hrun
            by_cases hcl : cap = l
            · left; omega
            · rcases hp with hp | ⟨rfl, p, pc, q1, q2⟩
              · left; omega
              · right
                rw [if_neg hcl]
                refine ⟨by omega, p, pc, q1, ?_⟩
                rw [Nat.add_assoc, ← Nat.add_mul, show l + (cap - l) = cap by omega]
                exact q2
        · cases h
      · cases h
    · rw [if_neg hsz] at h; cases h
  · rename_i e e1
    cases hx
    split at h
    · rename_i hh n e2 e4
      split at h
      · rename_i l e3
        obtain rfl := Option.some.inj h
        have hb := bounds_ok (P := P) (b := true) hlo hhi (Nat.le_refl 0) e2 e3 w
        have h1 := bound_le (Nat.le_refl _) e2
        have h2 := bound_le (Nat.zero_le _) e3
        obtain rfl : hh = 0 := by omega
        obtain rfl : l = 0 := by omega
        refine good_ok r .nils ?_
        simp [Instr.sliceAt, Instr.slice, run_underlying (TO.und _ _ e1), hb, run_sizeOf' TO e4]
      · cases h
    · cases h
  · cases h
end
end Go.Proofs.YtcknfhhbijlobaaDoor.D
