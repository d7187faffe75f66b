/- D: every operation that the evaluator takes, held against the model's. -/
import Derived.Test.YtcknfhhbijlobaaDoorDOps7
namespace Go.Proofs.YtcknfhhbijlobaaDoor.D
open Go
set_option linter.unusedVariables false
set_option linter.unusedSimpArgs false

def OrcOk (P : Program) (E : Orc) : Prop := ∀ f args H d H', E f args H = some (d, H') → ∀ G w vs, Rel G H w → VL G args vs → Good P G H w H' d ((callFunc f vs.toArray).run P w)

section
variable {P : Program} {T : Tab} {G : Ghost} {H H' : DH} {w : World} {d : DV}

theorem good_val (r : Rel G H w) {v : Value} (h : V G d v) : Good P G H w H d (.ok (.value v) w) := ⟨G, h, .refl r⟩

theorem opds_arr {σ : Nat → DV} {a : Act} (hs : SlotsOk G σ a) {xs : Array Operand} {ds : List DV} (h : opds σ xs.toList = some ds) : ∃ vs, xs.map a.eval = vs.toArray ∧ VL G ds vs :=
  ⟨xs.toList.map a.eval, by apply Array.toList_inj.1; simp, opds_ok hs h⟩

theorem call_ok (TO : TabOk P T) {E : Orc} (EO : OrcOk P E) (r : Rel G H w) {σ : Nat → DV} {a : Act} (hs : SlotsOk G σ a) {c : Call} {ty : TypeId} (h : callD T E σ c H = some (d, H')) :
    Good P G H w H' d ((do let x ← resolve a.eval c ty; invoke x.target x.args : Sem Next).run P w) := by
  unfold callD at h
  cases ha : opds σ c.args.toList with
  | none => simp [ha] at h
  | some args =>
    simp only [ha] at h
    obtain ⟨vs, hvs, hvl⟩ := opds_arr hs ha
    cases hc : c.callee with
    | invoke _ _ => simp [hc] at h
    | builtin b =>
      simp only [hc] at h
      obtain ⟨cc, hres⟩ : ∃ cc, (resolve a.eval c ty).run P w = .ok { target := .builtin b c.argTypes ty cc, args := vs.toArray } w := ⟨_, by simp only [resolve, hc, hvs]; rfl⟩
      rw [Sem.run_bind, hres]
      simp only [Result.andThen_ok, invoke]
      unfold builtinD at h
      split at h
      · rename_i t rest x heq
        obtain ⟨v, vs', rfl, hv, hvl'⟩ := hvl.cons_inv
        obtain rfl := hvl'.nil_inv
        cases hl : lenD T H t x with
        | none => simp [hl] at h
        | some u =>
          simp only [hl] at h
          have hdH := Prod.mk.inj (Option.some.inj h)
          rw [← hdH.1, ← hdH.2]
          refine good_v (s := Builtin.len_ c.argTypes ty #[v]) ?_
          have : c.argTypes = (t :: rest).toArray := by rw [← heq]
          rw [this]
          exact len_ok TO r hv hl
      · rename_i t u s x heq
        obtain ⟨v, vs', rfl, hv, hvl'⟩ := hvl.cons_inv
        obtain ⟨v2, vs2, rfl, hv2, hvl2⟩ := hvl'.cons_inv
        obtain rfl := hvl2.nil_inv
        refine good_v (s := Builtin.append_ c.argTypes ty #[v, v2]) ?_
        have : c.argTypes = #[t, u] := by apply Array.toList_inj.1; simpa using heq
        rw [this]
        exact append_ok TO r hv hv2 h
      · rename_i x
        obtain ⟨v, vs', rfl, hv, hvl'⟩ := hvl.cons_inv
        obtain rfl := hvl'.nil_inv
        cases hl : dataD x with
        | none => simp [hl] at h
        | some u =>
          simp only [hl] at h
          have hdH := Prod.mk.inj (Option.some.inj h)
          rw [← hdH.1, ← hdH.2]
          exact good_v (s := Builtin.unsafeSliceData_ c.argTypes ty #[v]) (data_ok r hv hl)
      · rename_i t it x y heq
        obtain ⟨v, vs', rfl, hv, hvl'⟩ := hvl.cons_inv
        obtain ⟨v2, vs2, rfl, hv2, hvl2⟩ := hvl'.cons_inv
        obtain rfl := hvl2.nil_inv
        cases hl : unsafeStrD T H t x y with
        | none => simp [hl] at h
        | some u =>
          simp only [hl] at h
          have hdH := Prod.mk.inj (Option.some.inj h)
          rw [← hdH.1, ← hdH.2]
          refine good_v (s := Builtin.unsafeString_ c.argTypes ty #[v, v2]) ?_
          have : c.argTypes = #[t, it] := by apply Array.toList_inj.1; simpa using heq
          rw [this]
          exact unsafeStr_ok TO r hv hv2 hl
      · rename_i x y
        obtain ⟨v, vs', rfl, hv, hvl'⟩ := hvl.cons_inv
        obtain ⟨v2, vs2, rfl, hv2, hvl2⟩ := hvl'.cons_inv
        obtain rfl := hvl2.nil_inv
        cases hl : maxD x y with
        | none => simp [hl] at h
        | some u =>
          simp only [hl] at h
          have hdH := Prod.mk.inj (Option.some.inj h)
          rw [← hdH.1, ← hdH.2]
          exact good_v (s := Builtin.max_ c.argTypes ty #[v, v2]) (max_ok r hv hv2 hl)
      · rename_i x y
        obtain ⟨v, vs', rfl, hv, hvl'⟩ := hvl.cons_inv
        obtain ⟨v2, vs2, rfl, hv2, hvl2⟩ := hvl'.cons_inv
        obtain rfl := hvl2.nil_inv
        cases hl : minD x y with
        | none => simp [hl] at h
        | some u =>
          simp only [hl] at h
          have hdH := Prod.mk.inj (Option.some.inj h)
          rw [← hdH.1, ← hdH.2]
          exact good_v (s := Builtin.min_ c.argTypes ty #[v, v2]) (min_ok r hv hv2 hl)
      · cases h
    | value f =>
      simp only [hc] at h
      cases hf : opd σ f with
      | none => simp [hf] at h
      | some fv =>
        simp only [hf] at h
        split at h
        · rename_i g first cap heq
          obtain rfl := Option.some.inj heq
          have hfv := opd_ok hs hf
          generalize hfe : a.eval f = fe at hfv
          cases hfv with
          | fn h1 h2 h3 h4 =>
            rename_i x y
            have hres : (resolve a.eval c ty).run P w = .ok { target := .fn (.func g) y.toArray, args := (x ++ vs).toArray } w := by
              simp [resolve, hc, hvs, hfe, Deferred.ofValue]
            rw [Sem.run_bind, hres]
            simp only [Result.andThen_ok, invoke]
            have := EO g _ H d H' h G w (x ++ vs ++ y) r ((VL.append ⟨h1, h3⟩ hvl).append ⟨h2, h4⟩)
            simpa using this
        · cases h

set_option maxHeartbeats 4000000 in
theorem op_ok (TO : TabOk P T) {E : Orc} (EO : OrcOk P E) (r : Rel G H w) {σ : Nat → DV} {a : Act} (hs : SlotsOk G σ a) {o : Oper} (h : evalOp T E o.op σ H = some (d, H')) :
    Good P G H w H' d ((execOp a.eval o).run P w) := by
  obtain ⟨dst, op, ty, pos, after, guard⟩ := o
  have map1 : ∀ {x : Option DV}, x.map (·, H) = some (d, H') → x = some d ∧ H = H' := by
    intro x hx
    cases x with
    | none => cases hx
    | some v => have := Prod.mk.inj (Option.some.inj hx); exact ⟨congrArg some this.1, this.2⟩
  cases op <;> simp only [evalOp] at h
  case move x => obtain ⟨h1, rfl⟩ := map1 h; exact good_val r (opd_ok hs h1)
  case assign x => obtain ⟨h1, rfl⟩ := map1 h; exact good_val r (opd_ok hs h1)
  case pick c x y =>
    split at h
    · rename_i t e
      obtain ⟨h1, rfl⟩ := map1 h
      have hc := opd_ok hs e
      generalize hce : a.eval c = ce at hc
      cases hc
      have hv := opd_ok hs h1
      have : (execOp a.eval { dst := dst, op := .pick c x y, type := ty, pos := pos, after := after, guard := guard }).run P w = .ok (.value (a.eval (if t then x else y))) w := by
        simp only [execOp, hce, asBool]
        cases t <;> simp
      rw [this]
      exact good_val r hv
    · cases h
  case alloc e =>
    cases hz : T.zero e with
    | none => simp [hz] at h
    | some z =>
      simp only [hz] at h
      split at h
      · have hdH := Prod.mk.inj (Option.some.inj h)
        rw [← hdH.1, ← hdH.2]
        exact good_v (alloc_ok TO r hz)
      · cases h
  case box e x =>
    cases hx : opd σ x with
    | none => simp [hx] at h
    | some v =>
      simp only [hx] at h
      split at h
      · have hdH := Prod.mk.inj (Option.some.inj h)
        rw [← hdH.1, ← hdH.2]
        exact good_v (box_ok r (opd_ok hs hx))
      · cases h
  case build t ps =>
    cases hp : opdParts σ ps.toList with
    | none => simp [hp] at h
    | some l =>
      simp only [hp] at h
      obtain ⟨h1, rfl⟩ := map1 h
      obtain ⟨p1, p2⟩ := opdParts_ok hs hp
      have := build_ok TO r p1 p2 h1
      refine good_v (s := Instr.build t (ps.map fun (i, x) => (i, a.eval x))) ?_
      have e : (ps.map fun (i, x) => (i, a.eval x)) = (ps.toList.map fun p => (p.1, a.eval p.2)).toArray := by apply Array.toList_inj.1; simp
      rw [e]; exact this
  case buildSlice t n ps =>
    cases hp : opdParts σ ps.toList with
    | none => simp [hp] at h
    | some l =>
      simp only [hp] at h
      obtain ⟨p1, p2⟩ := opdParts_ok hs hp
      have := buildSlice_ok TO r p1 p2 h
      refine good_v (s := Instr.buildSlice t n (ps.map fun (i, x) => (i, a.eval x))) ?_
      have e : (ps.map fun (i, x) => (i, a.eval x)) = (ps.toList.map fun p => (p.1, a.eval p.2)).toArray := by apply Array.toList_inj.1; simp
      rw [e]; exact this
  case load t x =>
    cases hx : opd σ x with
    | none => simp [hx] at h
    | some v =>
      simp only [hx] at h
      obtain ⟨h1, rfl⟩ := map1 h
      exact good_v (load_ok TO r (opd_ok hs hx) h1)
  case store t x y =>
    cases hx : opd σ x with
    | none => simp [hx] at h
    | some v =>
      cases hy : opd σ y with
      | none => simp [hx, hy] at h
      | some u =>
        simp only [hx, hy] at h
        cases hst : storeD T t v u H with
        | none => simp [hst] at h
        | some H2 =>
          simp only [hst, Option.map_some, Option.some.injEq, Prod.mk.injEq] at h
          rw [← h.1, ← h.2]
          obtain ⟨w', h1, h2⟩ := store_ok TO r (opd_ok hs hx) (opd_ok hs hy) hst
          have : (execOp a.eval { dst := dst, op := .store t x y, type := ty, pos := pos, after := after, guard := guard }).run P w = .ok .skip w' := by
            simp [execOp, h1]
          rw [this]
          exact ⟨rfl, G, h2⟩
  case nilCheck x =>
    cases hx : opd σ x with
    | none => simp [hx] at h
    | some v =>
      simp only [hx] at h
      split at h
      · rename_i b o heq
        have hdH := Prod.mk.inj (Option.some.inj h)
        rw [← hdH.2]
        obtain rfl := Option.some.inj heq
        exact nilCheck_ok r (opd_ok hs hx) hdH.1 (.inl ⟨b, o, rfl⟩) x a.eval rfl ty pos after guard dst
      · rename_i cs heq
        have hdH := Prod.mk.inj (Option.some.inj h)
        rw [← hdH.2]
        obtain rfl := Option.some.inj heq
        exact nilCheck_ok r (opd_ok hs hx) hdH.1 (.inr (.inl ⟨cs, rfl⟩)) x a.eval rfl ty pos after guard dst
      · rename_i f u v heq
        have hdH := Prod.mk.inj (Option.some.inj h)
        rw [← hdH.2]
        obtain rfl := Option.some.inj heq
        exact nilCheck_ok r (opd_ok hs hx) hdH.1 (.inr (.inr ⟨f, u, v, rfl⟩)) x a.eval rfl ty pos after guard dst
      · cases h
  case binOp op t x y yt =>
    cases hx : opd σ x with
    | none => simp [hx] at h
    | some v =>
      cases hy : opd σ y with
      | none => simp [hx, hy] at h
      | some u =>
        simp only [hx, hy] at h
        obtain ⟨h1, rfl⟩ := map1 h
        exact good_v (s := do eqGuard op t x y (a.eval x) (a.eval y); binOp op t (a.eval x) (a.eval y)) (bin_ok TO r (opd_ok hs hx) (opd_ok hs hy) h1)
  case unOp op t x =>
    cases hx : opd σ x with
    | none => simp [hx] at h
    | some v =>
      simp only [hx] at h
      obtain ⟨h1, rfl⟩ := map1 h
      exact good_v (un_ok r (opd_ok hs hx) h1)
  case convert s t x =>
    cases hx : opd σ x with
    | none => simp [hx] at h
    | some v =>
      cases hsrc : T.und s with
      | none => simp [hx, hsrc] at h
      | some td =>
        simp only [hx, hsrc] at h
        exact good_v (conv_ok TO r (opd_ok hs hx) ⟨td, TO.und _ _ hsrc⟩ h)
  case slice t x lo hi mx =>
    cases hx : opd σ x with
    | none => simp [hx] at h
    | some v =>
      cases mx with
      | some m => simp [hx] at h
      | none =>
        simp only [hx] at h
        have hopt : ∀ (q : Option Operand) (z : Option DV), optOpd σ q = some z → OptV G z (q.map a.eval) := by
          intro q z hq
          cases q with
          | none => simp [optOpd] at hq; subst hq; trivial
          | some l =>
            simp only [optOpd, Option.map_eq_some_iff] at hq
            obtain ⟨u, hu, rfl⟩ := hq
            exact opd_ok hs hu
        split at h
        · rename_i l hh e1 e2
          obtain ⟨h1, rfl⟩ := map1 h
          exact good_v (s := Instr.sliceAt t (a.eval x) (lo.map a.eval) (hi.map a.eval) none) (slice_ok TO r (opd_ok hs hx) (hopt lo l e1) (hopt hi hh e2) h1)
        · cases h
  case fieldAddr s x f =>
    cases hx : opd σ x with
    | none => simp [hx] at h
    | some v =>
      simp only [hx] at h
      obtain ⟨h1, rfl⟩ := map1 h
      exact good_v (fieldAt_ok TO r (opd_ok hs hx) h1)
  case field s x f =>
    cases hx : opd σ x with
    | none => simp [hx] at h
    | some v =>
      simp only [hx] at h
      obtain ⟨h1, rfl⟩ := map1 h
      exact good_v (field_ok TO r (opd_ok hs hx) h1)
  case indexAddr t x i =>
    cases hx : opd σ x with
    | none => simp [hx] at h
    | some v =>
      cases hi : opd σ i with
      | none => simp [hx, hi] at h
      | some u =>
        simp only [hx, hi] at h
        obtain ⟨h1, rfl⟩ := map1 h
        exact good_v (indexAt_ok TO r (opd_ok hs hx) (opd_ok hs hi) h1)
  case index t x i =>
    cases hx : opd σ x with
    | none => simp [hx] at h
    | some v =>
      cases hi : opd σ i with
      | none => simp [hx, hi] at h
      | some u =>
        simp only [hx, hi] at h
        obtain ⟨h1, rfl⟩ := map1 h
        exact good_v (index_ok TO r (opd_ok hs hx) (opd_ok hs hi) h1)
  case extract x i =>
    cases hx : opd σ x with
    | none => simp [hx] at h
    | some v =>
      simp only [hx] at h
      split at h
      · rename_i vs heq
        obtain rfl := Option.some.inj heq
        obtain ⟨h1, rfl⟩ := map1 h
        exact good_v (extract_ok r (opd_ok hs hx) h1)
      · cases h
  case makeSlice t x y =>
    cases hx : opd σ x with
    | none => simp [hx] at h
    | some v =>
      cases hy : opd σ y with
      | none => simp [hx, hy] at h
      | some u =>
        simp only [hx, hy] at h
        exact good_v (makeSlice_ok TO r (opd_ok hs hx) (opd_ok hs hy) h)
  case makeFunc f x y =>
    cases hx : opds σ x.toList with
    | none => simp [hx] at h
    | some u =>
      cases hy : opds σ y.toList with
      | none => simp [hx, hy] at h
      | some v =>
        simp only [hx, hy] at h
        have hdH := Prod.mk.inj (Option.some.inj h)
        rw [← hdH.1, ← hdH.2]
        obtain ⟨xs, ex, hxs⟩ := opds_arr hs hx
        obtain ⟨ys, ey, hys⟩ := opds_arr hs hy
        refine good_v (s := Instr.makeFunc f (x.map a.eval) (y.map a.eval)) ?_
        rw [ex, ey]
        exact makeFunc_ok r hxs hys
  case call c => exact call_ok TO EO r hs h
  case range t x =>
    cases hx : opd σ x with
    | none => simp [hx] at h
    | some v =>
      simp only [hx] at h
      exact good_v (range_ok TO r (opd_ok hs hx) h)
  case next x b =>
    cases hx : opd σ x with
    | none => simp [hx] at h
    | some v =>
      simp only [hx] at h
      exact good_v (next_ok r (opd_ok hs hx) h)
  all_goals cases h
end
end Go.Proofs.YtcknfhhbijlobaaDoor.D
