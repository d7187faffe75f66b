/- D: what each operation does, held against the model's (3). -/
import Derived.Test.YtcknfhhbijlobaaDoorDOps2
namespace Go.Proofs.YtcknfhhbijlobaaDoor.D
open Go
set_option linter.unusedVariables false
set_option linter.unusedSimpArgs false

section
variable {P : Program} {T : Tab} {G : Ghost} {H H' : DH} {w : World} {d : DV}

theorem alloc_ok (TO : TabOk P T) (r : Rel G H w) {e : TypeId} {z : DV} (hz : T.zero e = some z) :
    GoodV P G H w (H.new (.cells e z.cells)) (.ptr H.next 0) ((Instr.alloc e true (.tuple #[])).run P w) := by
  obtain ⟨i, v, h1, h2, h3⟩ := TO.zero _ _ hz
  have hs := Step.newBlock r (.cells v.cells e) (.cells e z.cells) 0 (fun T n cl => by simp) (fun T cs => by simp) (fun T cs h => by
    cases h
    exact ⟨[], v.cells.toList, [], e, (0, 0), by simp, rfl, (h3 G).cells, by simp, rfl, rfl, rfl⟩) (fun s pos h => by cases h) (fun es h => by cases h)
  have hrun : (Instr.alloc e true (.tuple #[])).run P w = .ok (.pointer (some ⟨w.heap.size, 0, none⟩)) (w.alloc (.cells v.cells e)) := by
    simp [Instr.alloc, zeroValue, typeInfo, h1, h2, newVar, newRow]
  rw [hrun]
  exact ⟨_, by have := V.ptr (off := 0) hs.2; simpa using this, hs.1⟩

theorem box_ok (r : Rel G H w) {e : TypeId} {x : DV} {vx : Value} (hv : V G x vx) :
    GoodV P G H w (H.new (.cells e x.cells)) (.ptr H.next 0) ((Instr.box e vx).run P w) := by
  have hs := Step.newBlock r (.cells vx.cells e) (.cells e x.cells) 0 (fun T n cl => by simp) (fun T cs => by simp) (fun T cs h => by
    cases h
    exact ⟨[], vx.cells.toList, [], e, (0, 0), by simp, rfl, hv.cells, by simp, rfl, rfl, rfl⟩) (fun s pos h => by cases h) (fun es h => by cases h)
  have hrun : (Instr.box e vx).run P w = .ok (.pointer (some ⟨w.heap.size, 0, none⟩)) (w.alloc (.cells vx.cells e)) := by
    simp [Instr.box, newVar, newRow]
  rw [hrun]
  exact ⟨_, by have := V.ptr (off := 0) hs.2; simpa using this, hs.1⟩

theorem nilCheck_ok (r : Rel G H w) {a : DV} {va : Value} (hv : V G a va) (h : a = d) (hk : (∃ b o, a = .ptr b o) ∨ (∃ cs, a = .ip cs) ∨ ∃ f x y, a = .fn (.func f) x y) (x : Operand) (ρ : Operand → Value) (hx : ρ x = va) (ty : TypeId) (pos : String) (after : Array Edge) (g : Option (Nat × Bool)) (dst : Option Tmp) :
    Good P G H w H d ((execOp ρ { dst := dst, op := .nilCheck x, type := ty, pos := pos, after := after, guard := g }).run P w) := by
  subst h
  simp only [execOp, hx]
  rcases hk with ⟨b, o, rfl⟩ | ⟨cs, rfl⟩ | ⟨f, x, y, rfl⟩
  · cases hv with
    | ptr h => exact ⟨G, .ptr h, .refl r⟩
  · cases hv with
    | ip h1 h2 h3 => exact ⟨G, .ip h1 h2 h3, .refl r⟩
  · cases hv with
    | fn h1 h2 h3 h4 => exact ⟨G, .fn h1 h2 h3 h4, .refl r⟩

theorem fieldAt_ok (TO : TabOk P T) (r : Rel G H w) {s : TypeId} {a : DV} {va : Value} {f : Nat} (hv : V G a va) (h : fieldAtD T s a f = some d) :
    GoodV P G H w H d ((Instr.fieldAt s va f).run P w) := by
  unfold fieldAtD at h
  split at h
  · rename_i fs e1
    split at h
    · rename_i fd e2
      split at h
      · rename_i n e3
        split at h
        · cases h
        · rename_i hn
          split at h
          · cases hv with
            | ptr hρ =>
              cases h
              refine good_ok r (V.ptr hρ) ?_
              simp [Instr.fieldAt, run_underlying (TO.und _ _ e1), e2, Instr.sureAddr, fieldPlace, run_sizeOf' TO e3, hn, addr_add, Nat.add_assoc]
          · cases hv with
            | ip h1 h2 h3 =>
              rename_i cs _ vs B o
              cases h
              refine good_ok r (V.ip (vs := vs.drop fd.offset) (B := B) (o := o + fd.offset) (by simp [h1]) (fun i v hi => ?_) (fun i d v a b => h3 (fd.offset + i) d v (by simpa using a) (by simpa using b))) ?_
              · rw [Nat.add_assoc]; exact h2 _ _ (by simpa using hi)
              · simp [Instr.fieldAt, run_underlying (TO.und _ _ e1), e2, Instr.sureAddr, fieldPlace, run_sizeOf' TO e3, hn, addr_add]
          · cases h
      · cases h
    · cases h
  · cases h

theorem part_ok (TO : TabOk P T) (r : Rel G H w) {t : TypeId} {td : TypeDesc} {n off : Nat} {cs : List DV} {vs : List Value} (e1 : T.und t = some td) (e2 : T.size t = some n) (hv : VL G cs vs)
    (h : takeVar (isAggD td) n (cs.drop off) = some d) : GoodV P G H w H d ((part t vs.toArray off).run P w) := by
  unfold takeVar at h
  by_cases hg : isAggD td = true
  · rw [if_pos hg] at h
    split at h
    · rename_i hn
      cases h
      have := (hv.drop off).take n
      refine good_ok r (V.agg this.1 this.2) ?_
      simp only [part, Sem.run_bind, run_isAgg TO e1, hg, Result.andThen_ok, if_true, run_sizeOf' TO e2, Sem.run_pure]
      congr 2
      apply Array.toList_inj.1
      simp [List.take_drop]
      try rw [List.drop_take]
      try (congr 1; omega)
    · cases h
  · rw [if_neg hg] at h
    obtain ⟨v, h1, h2⟩ := (hv.drop off).head h
    refine good_ok r h2 ?_
    have h3 : vs[off]? = some v := by simpa using h1
    simp [part, run_isAgg TO e1, hg, h3]

theorem field_ok (TO : TabOk P T) (r : Rel G H w) {s : TypeId} {a : DV} {va : Value} {f : Nat} (hv : V G a va) (h : fieldD T s a f = some d) :
    GoodV P G H w H d ((Instr.field s va f).run P w) := by
  unfold fieldD at h
  split at h
  · rename_i fs cs e1
    split at h
    · rename_i fd e2
      split at h
      · rename_i td n e3 e4
        cases hv with
        | agg hl hv =>
          have := part_ok (P := P) TO r e3 e4 ⟨hl, hv⟩ h
          simpa [Instr.field, run_underlying (TO.und _ _ e1), e2, asAgg] using this
      · cases h
    · cases h
  · cases h

theorem flat_get {sz : Nat} {es : List DV} (he : ∀ e ∈ es, e.cells.length = sz) {i : Nat} {e : DV} (h : es[i]? = some e) : ∃ a b, flat es = a ++ e.cells ++ b ∧ a.length = i * sz := by
  induction es generalizing i with
  | nil => simp at h
  | cons x es ih =>
    cases i with
    | zero =>
      simp at h; subst h
      exact ⟨[], flat es, by simp [flat], by simp⟩
    | succ i =>
      simp at h
      obtain ⟨a, b, h1, h2⟩ := ih (fun y hy => he y (by simp [hy])) h
      refine ⟨x.cells ++ a, b, by simp [flat, h1], ?_⟩
      rw [List.length_append, he x (by simp), h2, Nat.add_mul]; omega

theorem indexAt_ok (TO : TabOk P T) (r : Rel G H w) {t : TypeId} {x i : DV} {vx vi : Value} (hx : V G x vx) (hi : V G i vi) (h : indexAtD T t x i = some d) :
    GoodV P G H w H d ((Instr.indexAt t vx vi).run P w) := by
  unfold indexAtD at h
  split at h
  · rename_i e id sz off es k n e1
    split at h
    · rename_i hc
      obtain ⟨hc1, hc2⟩ := hc
      split at h
      · rename_i v hv
        cases h
        cases hi
        cases hx with
        | sl hsz he ho hl him hvv hn hcap hp =>
          rename_i vs B o cap len
          obtain ⟨a, b, h1, h2⟩ := flat_get he hv
          have hlt := (List.getElem?_eq_some_iff.1 hv).1
          have hw : (0 : Int) ≤ n ∧ n < (len : Int) := by omega
          refine good_ok r (V.ip (vs := (vs.drop (n.toNat * sz)).take v.cells.length) (B := B) (o := o + n.toNat * sz) ?_ ?_ ?_) ?_
          · have : vs.length = (flat es).length := hl.symm
            rw [List.length_take, List.length_drop, this, h1]
            simp [h2]
          · intro j u hj
            rw [List.getElem?_take] at hj
            split at hj
            · rw [Nat.add_assoc]; exact him _ _ (by simpa using hj)
            · cases hj
          · intro j d u hj hu
            rw [List.getElem?_take] at hu
            split at hu
            · refine hvv (n.toNat * sz + j) d u ?_ (by simpa using hu)
              rw [h1, List.append_assoc, List.getElem?_append_right (by omega), h2, Nat.add_sub_cancel_left, List.getElem?_append_left (List.getElem?_eq_some_iff.1 hj).1]
              exact hj
            · cases hu
          · simp [Instr.indexAt, asIntOf, run_underlying (TO.und _ _ e1), hw, run_sizeOf' TO hc1, addr_add]
      · cases h
    · cases h
  · rename_i e b sz off len k n e1
    split at h
    · rename_i hc
      obtain ⟨hc1, hc2, hc3⟩ := hc
      cases h
      cases hi
      cases hx with
      | hs hρ hcap hp =>
        rename_i B s o cap
        have ho : o = s + off := by
          rcases hp with h | h
          · omega
          · exact h.1
        subst ho
        refine good_ok r (V.ptr hρ) ?_
        simp [Instr.indexAt, asIntOf, run_underlying (TO.und _ _ e1), hc2, hc3, run_sizeOf' TO hc1, addr_add, Nat.add_assoc]
    · cases h
  · rename_i len e b off k n e1
    split at h
    · rename_i sz e2
      split at h
      · rename_i hc
        cases h
        cases hi
        cases hx with
        | ptr hρ =>
          refine good_ok r (V.ptr hρ) ?_
          simp [Instr.indexAt, asIntOf, run_underlying (TO.und _ _ e1), hc, run_sizeOf' TO e2, addr_add, Nat.add_assoc, Instr.sureAddr]
      · cases h
    · cases h
  · cases h

theorem index_ok (TO : TabOk P T) (r : Rel G H w) {t : TypeId} {x i : DV} {vx vi : Value} (hx : V G x vx) (hi : V G i vi) (h : indexD T t x i = some d) :
    GoodV P G H w H d ((Instr.index t vx vi).run P w) := by
  unfold indexD at h
  split at h
  · rename_i s k n e1
    split at h
    · rename_i hc
      split at h
      · rename_i b hb
        cases h
        cases hi
        cases hx
        refine good_ok r (V.int .u8 _) ?_
        simp [Instr.index, asIntOf, run_underlying (TO.und _ _ e1), hc, ba_get, hb]
      · cases h
    · cases h
  · rename_i len e cs k n e1
    split at h
    · rename_i td sz e2 e3
      split at h
      · rename_i hc
        cases hi
        cases hx with
        | agg hl hv =>
          have := part_ok (P := P) TO r e2 e3 ⟨hl, hv⟩ h
          simpa [Instr.index, asIntOf, run_underlying (TO.und _ _ e1), hc, run_sizeOf' TO e3] using this
      · cases h
    · cases h
  · cases h

theorem extract_ok (r : Rel G H w) {x : List DV} {vx : Value} {i : Nat} (hx : V G (.tup x) vx) (h : x[i]? = some d) : GoodV P G H w H d ((Instr.extract vx i).run P w) := by
  cases hx with
  | tup hl hv =>
    obtain ⟨v, h1, h2⟩ := VL.get ⟨hl, hv⟩ h
    exact good_ok r h2 (by simp [Instr.extract, h1])

theorem makeFunc_ok (r : Rel G H w) {f : Fn} {a b : List DV} {x y : List Value} (ha : VL G a x) (hb : VL G b y) : GoodV P G H w H (.fn f a b) ((Instr.makeFunc f x.toArray y.toArray).run P w) :=
  good_ok r (.fn ha.1 hb.1 ha.2 hb.2) rfl

theorem len_ok (TO : TabOk P T) (r : Rel G H w) {t ty : TypeId} {x : DV} {vx : Value} {rest : List TypeId} (hx : V G x vx) (h : lenD T H t x = some d) :
    GoodV P G H w H d ((Builtin.len_ (t :: rest).toArray ty #[vx]).run P w) := by
  unfold lenD at h
  split at h
  · split at h
    · rename_i e; cases h; cases hx
      exact good_ok r (.int _ _) (by simp [Builtin.len_, run_underlying (TO.und _ _ e), goInt, ba_size])
    · cases h
  · split at h
    · rename_i e; cases h; cases hx
      exact good_ok r (.int _ _) (by simp [Builtin.len_, run_underlying (TO.und _ _ e), goInt])
    · cases h
  · split at h
    · rename_i e; cases h
      cases hx with
      | sl hsz he ho hl him hvv hn hcap hp =>
        subst hn
        exact good_ok r (.int _ _) (by simp [Builtin.len_, run_underlying (TO.und _ _ e), goInt])
    · cases h
  · split at h
    · rename_i e; cases h; cases hx
      exact good_ok r (.int _ _) (by simp [Builtin.len_, run_underlying (TO.und _ _ e), goInt])
    · cases h
  · split at h
    · rename_i e; cases h; cases hx
      exact good_ok r (.int _ _) (by simp [Builtin.len_, run_underlying (TO.und _ _ e), goInt])
    · cases h
  · split at h
    · rename_i es e hm
      cases h
      cases hx with
      | mp hρ =>
        obtain ⟨h1, ⟨ms, clk, h2, h3, h4⟩, h5⟩ := r.maps _ _ hm _ _ hρ
        have hlen : ms.size = es.length := by have := h3.1; simpa using this.symm
        refine good_ok r (.int _ _) ?_
        simp [Builtin.len_, run_underlying (TO.und _ _ e), goInt, getObj, Sem.run, h2, hlen]
    · cases h
  · cases h

theorem max_ok (r : Rel G H w) {x y : DV} {vx vy : Value} {ts : Array TypeId} {ty : TypeId} (hx : V G x vx) (hy : V G y vy) (h : maxD x y = some d) : GoodV P G H w H d ((Builtin.max_ ts ty #[vx, vy]).run P w) := by
  unfold maxD at h
  split at h
  · cases h; cases hx; cases hy
    refine good_ok r (.int _ _) ?_
    simp [Builtin.max_, Builtin.max2]
  · cases h
theorem min_ok (r : Rel G H w) {x y : DV} {vx vy : Value} {ts : Array TypeId} {ty : TypeId} (hx : V G x vx) (hy : V G y vy) (h : minD x y = some d) : GoodV P G H w H d ((Builtin.min_ ts ty #[vx, vy]).run P w) := by
  unfold minD at h
  split at h
  · cases h; cases hx; cases hy
    refine good_ok r (.int _ _) ?_
    simp [Builtin.min_, Builtin.min2]
  · cases h

theorem range_ok (TO : TabOk P T) (r : Rel G H w) {t : TypeId} {x : DV} {vx : Value} (hx : V G x vx) (h : rangeD T t x H = some (d, H')) : GoodV P G H w H' d ((Instr.range t vx).run P w) := by
  unfold rangeD at h
  split at h
  · rename_i s e
    cases h
    cases hx
    have hs := Step.newBlock r (.stringIter ⟨s.toArray⟩ 0) (.iter s 0) 0 (fun T n cl => by simp) (fun T cs => by simp) (fun T cs h => by cases h) (fun s pos h => by cases h; exact ⟨rfl, rfl⟩) (fun es h => by cases h)
    have hrun : (Instr.range t (.string ⟨s.toArray⟩)).run P w = .ok (.pointer (some ⟨w.heap.size, 0, none⟩)) (w.alloc (.stringIter ⟨s.toArray⟩ 0)) := by
      simp [Instr.range, run_underlying (TO.und _ _ e)]
    rw [hrun]
    exact ⟨_, by have := V.ptr (off := 0) hs.2; simpa using this, hs.1⟩
  · cases h

theorem next_ok (r : Rel G H w) {it : DV} {vi : Value} {b : Bool} {ty : TypeId} (hi : V G it vi) (h : nextD it b H = some (d, H')) : GoodV P G H w H' d ((Instr.next vi b ty).run P w) := by
  unfold nextD at h
  split at h
  · rename_i b
    split at h
    · rename_i s pos hm
      cases hi with
      | ptr hρ =>
        rename_i B s0
        obtain ⟨rfl, h2, h3⟩ := r.iters b s pos hm B s0 hρ
        split at h
        · rename_i hp
          cases h
          have hown : ownR G H b = some B := by simp [ownR, hm, hρ]
          have hs := Step.setBlk r b B (.stringIter ⟨s.toArray⟩ (pos + (Utf8.decode ⟨s.toArray⟩ pos).2)) (.iter s (pos + (Utf8.decode ⟨s.toArray⟩ pos).2)) hown (fun T n cl => by rw [hm]; simp) (fun T n cl => by simp)
            (fun T cs h => by cases h) (fun T cs h => by cases h) (fun s' pos' h x hx => by cases h; rw [hρ] at hx; cases hx; exact ⟨rfl, rfl⟩) (fun es h => by cases h)
          have hrun : (Instr.next (.pointer (some ⟨B, 0 + 0, none⟩)) true ty).run P w = .ok (.tuple #[.bool true, .int .i64 pos, .int .i32 (Utf8.decode ⟨s.toArray⟩ pos).1]) (putBlk w B (.stringIter ⟨s.toArray⟩ (pos + (Utf8.decode ⟨s.toArray⟩ pos).2))) := by
            simp [Instr.next, getObj, setObj, Sem.run, h2, ba_size, hp, goInt, putBlk]
          rw [hrun]
          exact ⟨G, V.tup (vs := [_, _, _]) rfl (VL.cons (.bool _) (.cons (.int _ _) (.cons (.int _ _) (.nil _)))).2, hs⟩
        · rename_i hp
          cases h
          refine good_ok r (V.tup (vs := [_]) rfl (VL.cons (.bool false) (.nil _)).2) ?_
          simp [Instr.next, getObj, Sem.run, h2, ba_size, hp]
    · cases h
  · cases h
end
end Go.Proofs.YtcknfhhbijlobaaDoor.D
