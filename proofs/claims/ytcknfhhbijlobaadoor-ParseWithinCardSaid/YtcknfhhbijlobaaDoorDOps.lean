/- D: what each operation does, held against the model's. -/
import Derived.Test.YtcknfhhbijlobaaDoorDRow
namespace Go.Proofs.YtcknfhhbijlobaaDoor.D
open Go
set_option linter.unusedVariables false

structure TabOk (P : Program) (T : Tab) : Prop where
  und : ∀ t d, T.und t = some d → P.underlying t = some d
  size : ∀ t n, T.size t = some n → ∃ i, P.info? t = some i ∧ i.size = n
  bytes : ∀ t n, T.bytes t = some n → ∃ i, P.info? t = some i ∧ i.bytes = n
  zero : ∀ t z, T.zero t = some z → ∃ i v, P.info? t = some i ∧ i.zero = some v ∧ ∀ G, V G z v
  flatEq : ∀ t ks, T.flatEq t = some ks → ∀ (G : Ghost) (xs ys : List DV) (vx vy : List Value) (w : World) (b : Bool) (x y : Operand), VL G xs vx → VL G ys vy → cellsEq ks xs ys = some b →
    (do eqGuard .eql t x y (.agg vx.toArray) (.agg vy.toArray); binOp .eql t (.agg vx.toArray) (.agg vy.toArray)).run P w = .ok (.bool b) w ∧
    (do eqGuard .neq t x y (.agg vx.toArray) (.agg vy.toArray); binOp .neq t (.agg vx.toArray) (.agg vy.toArray)).run P w = .ok (.bool (!b)) w
  lies : ∀ t n off u, T.lies t n off u = true → liesAt P P.depth t (n / P.cellsOf t) off u 1 = true ∧ ∃ i, P.info? u = some i

def GoodV (P : Program) (G : Ghost) (H : DH) (w : World) (H' : DH) (d : DV) : Result Value → Prop
  | .ok v w' => ∃ G', V G' d v ∧ Step G H w G' H' w'
  | _ => False
def Good (P : Program) (G : Ghost) (H : DH) (w : World) (H' : DH) (d : DV) : Result Next → Prop
  | .ok (.value v) w' => ∃ G', V G' d v ∧ Step G H w G' H' w'
  | .ok .skip w' => d = undefD ∧ ∃ G', Step G H w G' H' w'
  | .ok (.enter f args) w' => Calls P f args w' fun e w'' => ∃ v G', e = .returned v ∧ V G' d v ∧ Step G H w G' H' w''
  | _ => False

section
variable {P : Program} {T : Tab} {G : Ghost} {H H' : DH} {w : World} {d : DV}

theorem good_v {s : Sem Value} (h : GoodV P G H w H' d (s.run P w)) : Good P G H w H' d ((do let x ← s; pure (Next.value x) : Sem Next).run P w) := by
  rw [Sem.run_bind]
  cases hr : s.run P w with
  | ok v w' => rw [hr] at h; exact h
  | halt x w' => rw [hr] at h; exact h.elim

theorem good_ok {v : Value} (r : Rel G H w) (h : V G d v) {R : Result Value} (e : R = .ok v w) : GoodV P G H w H d R := by subst e; exact ⟨G, h, .refl r⟩

def SlotsOk (G : Ghost) (σ : Nat → DV) (a : Act) : Prop := ∀ t, V G (σ t) (a.tmps.getD t undef)
theorem SlotsOk.mono {G G' : Ghost} (h : G.le G') {σ : Nat → DV} {a : Act} (s : SlotsOk G σ a) : SlotsOk G' σ a := fun t => (s t).mono h

theorem constD_ok {v : Value} (h : constD v = some d) : V G d v := by
  unfold constD at h
  split at h
  · cases h; exact .bool _
  · cases h; exact .int _ _
  · cases h; exact .flt _ _
  · rename_i s; cases h; exact V.str s.data.toList
  · cases h; exact .nilp
  · cases h; exact .nils
  · cases h; exact .nilm
  · cases h; exact .nilf
  · cases h; exact .nili
  · rename_i vs
    split at h
    · rename_i hs
      cases h
      obtain rfl : vs = #[] := by simpa using hs
      exact V.tup (cs := []) (vs := []) rfl (fun i d v h => by simp at h)
    · cases h
  · cases h

theorem opd_ok {σ : Nat → DV} {a : Act} (hs : SlotsOk G σ a) {x : Operand} (h : opd σ x = some d) : V G d (a.eval x) := by
  cases x with
  | tmp t => simp only [opd, Option.some.injEq] at h; subst h; exact hs t
  | const v => exact constD_ok h
  | global g => simp [opd] at h
  | func f =>
    simp only [opd, Option.some.injEq] at h; subst h
    exact V.fn (x := []) (y := []) rfl rfl (fun i d v h => by simp at h) (fun i d v h => by simp at h)

theorem opds_ok {σ : Nat → DV} {a : Act} (hs : SlotsOk G σ a) {xs : List Operand} {ds : List DV} (h : opds σ xs = some ds) : VL G ds (xs.map a.eval) := by
  induction xs generalizing ds with
  | nil => simp [opds] at h; subst h; exact .nil _
  | cons x xs ih =>
    simp only [opds] at h
    split at h
    · rename_i v l e1 e2
      cases h
      exact .cons (opd_ok hs e1) (ih e2)
    · cases h

/-! ### Cells -/

theorem addr_add (B o n : Nat) : (⟨B, o, none⟩ : Addr).add n = ⟨B, o + n, none⟩ := by unfold Addr.add; split <;> simp_all

theorem cellsAt_ok (r : Rel G H w) {a : DV} {v : Value} (hv : V G a v) {cs : List DV} (h : cellsAt H a = some cs) :
    ∃ B o vs, v = .pointer (some ⟨B, o, none⟩) ∧ VL G cs vs ∧ ∀ (i : Nat) (u : Value), vs[i]? = some u → w.cell? ⟨B, o + i, none⟩ = some u := by
  cases hv with
  | ptr hρ =>
    rename_i b off B s
    simp only [cellsAt] at h
    split at h
    · rename_i T cs' hm
      cases h
      obtain ⟨⟨pre, vs, post, T', fr, h1, h2, h3, h4⟩, h5⟩ := r.cells b T cs' hm B s hρ
      refine ⟨B, s + off, vs.drop off, rfl, h3.drop off, fun i u hu => ?_⟩
      rw [List.getElem?_drop] at hu
      simp only [World.cell?, h1, Option.isSome_none, Bool.false_eq_true, if_false, List.getElem?_toArray]
      rw [List.append_assoc, List.getElem?_append_right (by omega), h2, show s + off + i - s = off + i by omega, List.getElem?_append_left (List.getElem?_eq_some_iff.1 hu).1]
      exact hu
    · rename_i T cs' hm
      cases h
      obtain ⟨⟨p, pc, c, fr, vs, h0, h1, h2, h3, h4, h6, h7⟩, h5⟩ := r.rows b T cs' hm B s hρ
      refine ⟨B, s + off, vs.drop off, rfl, h4.drop off, fun i u hu => ?_⟩
      rw [List.getElem?_drop] at hu
      have := h6 _ _ hu
      rw [← Nat.add_assoc] at this
      simp [World.cell?, h1, this]
    · cases h
  | ip hl hi hv =>
    rename_i cs' vs B o
    simp only [cellsAt, Option.some.injEq] at h; subst h
    exact ⟨B, o, vs, rfl, ⟨hl, hv⟩, fun i u hu => r.imCell (hi i u hu)⟩
  | _ => simp [cellsAt] at h

theorem run_isAgg (TO : TabOk P T) {t : TypeId} {td : TypeDesc} (h : T.und t = some td) (w : World) : (isAgg t).run P w = .ok (isAggD td) w := by
  simp only [isAgg, Sem.run_bind, run_underlying (TO.und _ _ h), Result.andThen_ok]
  cases td <;> rfl
theorem run_sizeOf' (TO : TabOk P T) {t : TypeId} {n : Nat} (h : T.size t = some n) (w : World) : (sizeOf t).run P w = .ok n w := by
  obtain ⟨i, h1, h2⟩ := TO.size _ _ h
  simp [sizeOf, typeInfo, h1, h2]

theorem load_run (TO : TabOk P T) (r : Rel G H w) {t : TypeId} {a : DV} {va : Value} (hv : V G a va) (h : loadD T t a H = some d) :
    ∃ v, (Instr.loadAt t va).run P w = .ok v w ∧ V G d v := by
  unfold loadD at h
  split at h
  · rename_i td n cs e1 e2 e3
    obtain ⟨B, o, vs, rfl, hvl, hc⟩ := cellsAt_ok r hv e3
    unfold takeVar at h
    by_cases hg : isAggD td = true
    · rw [if_pos hg] at h
      split at h
      · rename_i hn
        cases h
        have hl := run_loadCells_list (P := P) w ⟨B, o, none⟩ (vs.take n) (fun j v hj => by
          rw [addr_add]
          rw [List.getElem?_take] at hj
          split at hj
          · exact hc j v hj
          · cases hj)
        have hlen : (vs.take n).length = n := by simp [← hvl.1]; omega
        rw [hlen] at hl
        refine ⟨.agg (vs.take n).toArray, ?_, V.agg (vs := vs.take n) ?_ ?_⟩
        rotate_left
        · exact (hvl.take n).1
        · exact (hvl.take n).2
        · simp [Instr.loadAt, Instr.sureAddr, loadVar, run_isAgg TO e1, hg, run_sizeOf' TO e2, hl]
      · cases h
    · rw [if_neg hg] at h
      obtain ⟨u, hu, hvu⟩ := hvl.head h
      refine ⟨u, ?_, hvu⟩
      have := hc 0 u hu
      simp only [Nat.add_zero] at this
      simp [Instr.loadAt, Instr.sureAddr, loadVar, run_isAgg TO e1, hg, this]
  · cases h

theorem load_ok (TO : TabOk P T) (r : Rel G H w) {t : TypeId} {a : DV} {va : Value} (hv : V G a va) (h : loadD T t a H = some d) :
    GoodV P G H w H d ((Instr.loadAt t va).run P w) := by
  obtain ⟨v, h1, h2⟩ := load_run TO r hv h
  exact good_ok r h2 h1

/-! ### Stores -/
theorem arr_set_self {α : Type} {a : Array α} {k : Nat} {x : α} (h : a[k]? = some x) : a.setIfInBounds k x = a := by
  apply Array.ext_getElem?
  intro j
  rw [Array.getElem?_setIfInBounds]
  split
  · rename_i hk; subst hk
    obtain ⟨h1, h2⟩ := Array.getElem?_eq_some_iff.1 h
    simp [h1, h2]
  · rfl
theorem run_storeCells_free (P : Program) (B : Nat) (T' : TypeId) (fr : Nat × Nat) : ∀ (vs : List Value) (i o : Nat) (cur : Array Value) (w : World), w.heap[B]? = some (.cells cur T' fr) →
    (∀ q, o + i ≤ q → q < o + i + vs.length → ¬ (fr.1 ≤ q ∧ q < fr.2)) → o + i + vs.length ≤ cur.size → (∀ v ∈ vs, v.oneCell' = true) →
    (storeCells ⟨B, o, none⟩ vs i).run P w = .ok () (putBlk w B (.cells (cur.toList.take (o + i) ++ vs ++ cur.toList.drop (o + i + vs.length)).toArray T' fr))
  | [], i, o, cur, w, hg, _, _, _ => by
    have hlt := (Array.getElem?_eq_some_iff.1 hg).1
    have hv := (Array.getElem?_eq_some_iff.1 hg).2
    simp only [storeCells, List.append_nil, List.length_nil, Nat.add_zero, List.take_append_drop, Array.toArray_toList, Sem.run_pure]
    congr 1
    unfold putBlk
    rw [arr_set_self hg]
  | v :: rest, i, o, cur, w, hg, hfz, hl, h1 => by
    have hi : o + i < cur.size := by simp at hl; omega
    have hcell : w.cell? ⟨B, o + i, none⟩ = some cur[o + i] := by simp [World.cell?, hg, hi]
    have hfro : w.frozen? ⟨B, o + i, none⟩ = false := by
      have := hfz (o + i) (Nat.le_refl _) (by simp)
      simp only [World.frozen?, hg]
      simpa using this
    have hsc : w.setCell ⟨B, o + i, none⟩ v = putBlk w B (.cells (cur.setIfInBounds (o + i) v) T' fr) := by
      have hlt := (Array.getElem?_eq_some_iff.1 hg).1
      have hv := (Array.getElem?_eq_some_iff.1 hg).2
      unfold World.setCell putBlk
      congr 1
      apply Array.ext_getElem?
      intro k
      rw [Array.getElem?_modify, Array.getElem?_setIfInBounds]
      by_cases hk : B = k
      · subst hk; simp [hlt, hv]
      · simp [hk]
    have hst : (store ((⟨B, o, none⟩ : Addr).add i) v).run P w = .ok () (putBlk w B (.cells (cur.setIfInBounds (o + i) v) T' fr)) := by
      rw [addr_add, run_store P w _ v _ (h1 v (by simp)), hcell]
      simp [hfro, hsc]
    have ih := run_storeCells_free P B T' fr rest (i + 1) o (cur.setIfInBounds (o + i) v) (putBlk w B (.cells (cur.setIfInBounds (o + i) v) T' fr)) (putBlk_at hg)
      (fun q hq1 hq2 => hfz q (by omega) (by simp; omega)) (by simp at hl ⊢; omega) (fun x hx => h1 x (by simp [hx]))
    simp only [storeCells, Sem.run_bind, hst, Result.andThen_ok, ih]
    congr 1
    have e := list_seg_step cur.toList (o + i) v rest (by simp at hl ⊢; omega)
    have hpp : ∀ o1 o2, putBlk (putBlk w B o1) B o2 = putBlk w B o2 := by
      intro o1 o2
      unfold putBlk
      simp [Array.setIfInBounds_setIfInBounds]
    rw [hpp]
    congr 2
    simpa [Array.toList_setIfInBounds, Nat.add_assoc] using e

theorem store_ok (TO : TabOk P T) (r : Rel G H w) {t : TypeId} {a v : DV} {va vv : Value} (ha : V G a va) (hv : V G v vv) (h : storeD T t a v H = some H') :
    ∃ w', (Instr.storeAt t va vv).run P w = .ok () w' ∧ Step G H w G H' w' := by
  unfold storeD at h
  split at h
  · rename_i b off n e2
    split at h
    · rename_i ty cs hm
      split at h
      · rename_i hc
        obtain ⟨hc1, hc2, hc3⟩ := hc
        cases h
        cases ha with
        | ptr hρ =>
          rename_i B s
          obtain ⟨⟨pre, vs, post, T', fr, h1, h2, h3, h4⟩, h5⟩ := r.cells b ty cs hm B s hρ
          have hvl := hv.cells
          have hn : vv.cells.toList.length = n := by rw [← hvl.1]; exact hc1
          have hvs : vs.length = cs.length := h3.1.symm
          have hst := run_storeCells_free P B T' fr vv.cells.toList 0 (s + off) _ w h1 (fun q hq1 hq2 => h4.1 q (by omega) (by rw [hn] at hq2; omega)) (by rw [hn]; simp; omega) (hvl.ones hc3)
          refine ⟨putBlk w B (.cells (pre ++ (vs.take off ++ vv.cells.toList ++ vs.drop (off + n)) ++ post).toArray T' fr), ?_, ?_⟩
          rotate_left
          · refine Step.setBlk r b B (.cells _ T' fr) _ (by simp [ownR, hm, hρ]) (fun T n cl => by rw [hm]; simp) (fun T n cl => by simp) ?_ (fun T cs h => by cases h) (fun s pos h => by cases h) (fun es h => by cases h)
            intro T2 cs2 e s' hs'
            rw [hρ] at hs'
            obtain rfl : s = s' := by simpa using hs'
            cases e
            refine ⟨pre, vs.take off ++ vv.cells.toList ++ vs.drop (off + n), post, T', fr, rfl, h2, ((h3.take off).append hvl).append (h3.drop (off + n)), fun o ho1 ho2 => h4.1 o ho1 ?_, h4.2⟩
            simp at ho2 ⊢
            omega
          · simp only [Instr.storeAt, Instr.sureAddr, storeVar, Sem.run_bind, Sem.run_pure, Result.andThen_ok, run_sizeOf' TO e2]
            have hn' : vv.cells.size = n := by simpa using hn
            simp only [hn', ne_eq, not_true_eq_false, if_false]
            rw [hst]
            congr 3
            have g1 : (pre ++ vs ++ post).toArray.toList.take (s + off + 0) = pre ++ vs.take off := by
              simp only [List.toList_toArray, Nat.add_zero]
              rw [List.append_assoc, ← h2, List.take_append, Nat.add_sub_cancel_left, List.take_of_length_le (by omega), List.take_append_of_le_length (by omega)]
            have g2 : (pre ++ vs ++ post).toArray.toList.drop (s + off + 0 + vv.cells.toList.length) = vs.drop (off + n) ++ post := by
              simp only [List.toList_toArray, Nat.add_zero, hn]
              rw [List.append_assoc, show s + off + n = pre.length + (off + n) by omega, List.drop_append, List.drop_of_length_le (by omega : pre.length ≤ pre.length + (off + n)), Nat.add_sub_cancel_left, List.nil_append, List.drop_append_of_le_length (by omega)]
            rw [g1, g2]
            simp [List.append_assoc]
      · cases h
    · rename_i ty cs hm
      split at h
      · rename_i hc
        obtain ⟨hc1, hc2, hc3⟩ := hc
        cases h
        cases ha with
        | ptr hρ =>
          rename_i B s
          obtain ⟨⟨p, pc, c, fr, vs, h0, h1, h2, h3, h4, h6, h7⟩, h5⟩ := r.rows b ty cs hm B s hρ
          have hvl := hv.cells
          have hn : vv.cells.toList.length = n := by rw [← hvl.1]; exact hc1
          have hvs : vs.length = cs.length := h4.1.symm
          have hst := run_storeCells_free P B ty fr vv.cells.toList 0 (s + off) _ w h1 (fun q hq1 hq2 => h7 q (by omega) (by rw [hn] at hq2; omega)) (by rw [hn]; omega) (hvl.ones hc3)
          simp only [Nat.add_zero] at hst
          refine ⟨_, ?_, Step.setBlk r b B (.cells (c.toList.take (s + off) ++ vv.cells.toList ++ c.toList.drop (s + off + vv.cells.toList.length)).toArray ty fr) _ (by simp [ownR, hm, hρ]) (fun T n cl => by rw [hm]; simp) (fun T n cl => by simp) (fun T cs h => by cases h) ?_ (fun s pos h => by cases h) (fun es h => by cases h)⟩
          · simp only [Instr.storeAt, Instr.sureAddr, storeVar, Sem.run_bind, Sem.run_pure, Result.andThen_ok, run_sizeOf' TO e2]
            have hn' : vv.cells.size = n := by simpa using hn
            simp only [hn', ne_eq, not_true_eq_false, if_false]
            exact hst
          · intro T2 cs2 e
            cases e
            have hvv : (vs.take off ++ vv.cells.toList ++ vs.drop (off + n)).length = cs.length := by simp only [List.length_append, List.length_take, List.length_drop, hn]; omega
            have hcc : (cs.take off ++ v.cells ++ cs.drop (off + n)).length = cs.length := by simp only [List.length_append, List.length_take, List.length_drop]; omega
            refine ⟨p, pc, _, fr, vs.take off ++ vv.cells.toList ++ vs.drop (off + n), s, hρ, h0, rfl, by omega, ?_, ((h4.take off).append hvl).append (h4.drop (off + n)), fun i u hu => ?_, h7⟩
            · simp only [List.size_toArray, List.length_append, List.length_take, List.length_drop, Array.length_toList, hn]; omega
            · have hi := (List.getElem?_eq_some_iff.1 hu).1
              rw [hvv] at hi
              simp only [List.getElem?_toArray]
              have hl1 : (c.toList.take (s + off)).length = s + off := by simp; omega
              have hl2 : (vs.take off).length = off := by simp; omega
              rcases Nat.lt_or_ge i off with q | q
              · rw [List.append_assoc, List.getElem?_append_left (by omega)] at hu ⊢
                rw [List.getElem?_take, if_pos (by omega)] at hu ⊢
                simpa using h6 _ _ hu
              · rw [List.append_assoc, List.getElem?_append_right (by omega)] at hu ⊢
                rw [hl1, show s + i - (s + off) = i - off by omega]
                rw [hl2] at hu
                rcases Nat.lt_or_ge (i - off) n with q2 | q2
                · rw [List.getElem?_append_left (by omega)] at hu ⊢
                  exact hu
                · rw [List.getElem?_append_right (by omega)] at hu ⊢
                  rw [List.getElem?_drop] at hu ⊢
                  rw [hn] at hu ⊢
                  have := h6 _ _ hu
                  rw [Array.getElem?_toList, show s + off + n + (i - off - n) = s + (off + n + (i - off - n)) by omega]
                  exact this
      · cases h
    · cases h
  · cases h
end
end Go.Proofs.YtcknfhhbijlobaaDoor.D
