/- D: the evaluator without fuel, and its rules. -/
import Derived.Test.YtcknfhhbijlobaaDoorDDraw3
namespace Go.Proofs.YtcknfhhbijlobaaDoor.D
open Go
set_option linter.unusedVariables false
set_option linter.unusedSimpArgs false

structure Cfg where
  P : Program
  T : Tab
  ext : FuncId → Option (List DV → DH → Option (DV × DH))
  draw : Array Oper → Bool

abbrev Res := Option (Out × St × DV)

theorem callD_mono {T : Tab} {E E' : Orc} (h : ∀ f a H r, E f a H = some r → E' f a H = some r) {σ : Nat → DV} {c : Call} {H : DH} {r : DV × DH} (hr : callD T E σ c H = some r) : callD T E' σ c H = some r := by
  unfold callD at hr ⊢
  cases ha : opds σ c.args.toList with
  | none => simp [ha] at hr
  | some args =>
    simp only [ha] at hr ⊢
    cases hc : c.callee with
    | invoke _ _ => simp [hc] at hr
    | builtin b => simpa [hc] using hr
    | value f =>
      simp only [hc] at hr ⊢
      split at hr
      · exact h _ _ _ _ hr
      · cases hr

theorem evalOp_mono {T : Tab} {E E' : Orc} (h : ∀ f a H r, E f a H = some r → E' f a H = some r) {o : Op} {σ : Nat → DV} {H : DH} {r : DV × DH} (hr : evalOp T E o σ H = some r) : evalOp T E' o σ H = some r := by
  cases o <;> first | exact hr | exact callD_mono h hr

theorem evalOps_mono {T : Tab} {E E' : Orc} (h : ∀ f a H r, E f a H = some r → E' f a H = some r) {ops : Array Oper} : ∀ {l : List Oper} {s r : St}, evalOps T E ops l s = some r → evalOps T E' ops l s = some r
  | [], s, r, hr => hr
  | o :: l, s, r, hr => by
    simp only [evalOps] at hr ⊢
    cases hw : wantedD ops o s.1 with
    | none => simp [hw] at hr
    | some b =>
      cases b with
      | true =>
        cases he : evalOp T E o.op s.1 s.2 with
        | none => simp [hw, he] at hr
        | some q =>
          simp only [hw, he] at hr
          simp only [evalOp_mono h he]
          exact evalOps_mono h hr
      | false =>
        simp only [hw] at hr ⊢
        exact evalOps_mono h hr

theorem evalOps_app {T : Tab} {E : Orc} {ops : Array Oper} : ∀ (l r : List Oper) (s : St), evalOps T E ops (l ++ r) s = match evalOps T E ops l s with | some s' => evalOps T E ops r s' | none => none
  | [], r, s => by simp [evalOps]
  | o :: l, r, s => by
    simp only [List.cons_append, evalOps]
    split
    · split
      · exact evalOps_app l r _
      · rfl
    · exact evalOps_app l r _
    · rfl
theorem evalOps_pre {T : Tab} {E : Orc} {ops : Array Oper} {l : List Oper} {s r : St} (h : evalOps T E ops l s = some r) (k : Nat) : ∃ r', evalOps T E ops (l.take k) s = some r' := by
  rw [← List.take_append_drop k l, evalOps_app] at h
  cases hq : evalOps T E ops (l.take k) s with
  | none => simp [hq] at h
  | some r' => exact ⟨r', rfl⟩
theorem one_orc {T : Tab} {E E' : Orc} {ops : Array Oper} {o : Oper} {s : St} (h : isRead o.op = true) : one T E ops o s = one T E' ops o s := by
  unfold one
  have : evalOp T E o.op s.1 s.2 = evalOp T E' o.op s.1 s.2 := by
    generalize o.op = p at h
    cases p <;> first | (simp [isRead] at h; done) | rfl | skip
    rename_i c
    obtain ⟨callee, args, ts⟩ := c
    cases callee <;> first | (simp [isRead] at h; done) | rfl
  rw [this]
/-- Whether loads read the same does not turn on which evaluator stands behind the calls. -/
theorem floats_iff {T : Tab} {E E' : Orc} (hE : ∀ f a H r, E f a H = some r → E' f a H = some r) {ops : Array Oper} {s r : St} (h : evalOps T E ops ops.toList s = some r) : Floats T E ops s ↔ Floats T E' ops s := by
  have key : ∀ k x, evalOps T E ops (ops.toList.take k) s = some x ↔ evalOps T E' ops (ops.toList.take k) s = some x := by
    intro k x
    obtain ⟨y, hy⟩ := evalOps_pre h k
    have hy' := evalOps_mono hE hy
    rw [hy, hy']
  unfold Floats
  constructor
  · rintro ⟨h1, h2⟩
    refine ⟨h1, fun i o ho hr k hk hw si v H' sk a b c => ?_⟩
    rw [← one_orc (E := E) hr] at b ⊢
    exact h2 i o ho hr k hk hw si v H' sk ((key i si).2 a) b ((key k sk).2 c)
  · rintro ⟨h1, h2⟩
    refine ⟨h1, fun i o ho hr k hk hw si v H' sk a b c => ?_⟩
    rw [one_orc (E' := E') hr] at b ⊢
    exact h2 i o ho hr k hk hw si v H' sk ((key i si).1 a) b ((key k sk).1 c)

variable (C : Cfg)

noncomputable def orcN (n : Nat) : Orc := orc C.P C.T C.ext C.draw n
noncomputable abbrev ev (n : Nat) (w : Work) (s : St) : Res := evalW C.P C.T C.ext C.draw n w s

open Classical in
/-- One step of the evaluator, over whatever stands for the evaluator with less fuel. -/
noncomputable def stepW (E : Orc) (R : Work → St → Res) (w : Work) (s : St) : Res :=
    match w with
    | .call f args =>
      match C.P.funcs[f]? with
      | none => none
      | some fn => match fn.body with
        | none => none
        | some c =>
          if args.length ≤ fn.ntmps ∧ bnd fn.ntmps c = true then
            match R (.code c) (frame0 args, s.2) with
            | some (.norm, s', _) | some (.ret, s', _) => match resD C.T s'.1 s'.2 fn.results.toList with
              | some vs => some (.norm, s', resOne vs)
              | none => none
            | _ => none
          else none
    | .code c =>
      match c with
      | .skip | .label _ => some (.norm, s, undefD)
      | .ret => some (.ret, s, undefD)
      | .exit id => some (.exit id, s, undefD)
      | .goto l => some (.goto l, s, undefD)
      | .seq a b => match R (.code a) s with
        | some (.norm, s', _) => R (.code b) s'
        | r => r
      | .cond x a b => match opd s.1 x with
        | some (.bool t) => R (.code (if t then a else b)) s
        | _ => none
      | .block id body => match R (.code body) s with
        | some (.exit id', s', v) => if id' = id then some (.norm, s', v) else some (.exit id', s', v)
        | r => r
      | .loop body => match R (.code body) s with
        | some (.norm, s', _) => R (.code (.loop body)) s'
        | r => r
      | .scope body => R (.sc body body) s
      | .region _ ops dr =>
        if dr = true ∧ ¬ (C.draw ops = true ∨ Floats C.T E ops s) then none else
        match evalOps C.T E ops ops.toList s with
        | some s' => some (.norm, s', undefD)
        | none => none
      | _ => none
    | .sc body rest =>
      match R (.code rest) s with
      | some (.goto l, s', v) => match findLabel body l with
        | some rest' => R (.sc body rest') s'
        | none => some (.goto l, s', v)
      | r => r

theorem ev_succ (n : Nat) (w : Work) (s : St) : ev C (n + 1) w s = stepW C (orcN C n) (ev C n) w s := by
  cases w with
  | call f args => rfl
  | sc b r => rfl
  | code c => cases c <;> rfl

theorem stepW_mono {E E' : Orc} {R R' : Work → St → Res} (hE : ∀ f a H r, E f a H = some r → E' f a H = some r) (hR : ∀ w s r, R w s = some r → R' w s = some r) {w : Work} {s : St} {r : Out × St × DV}
    (h : stepW C E R w s = some r) : stepW C E' R' w s = some r := by
  cases w with
  | call f args =>
    simp only [stepW] at h ⊢
    cases hf : C.P.funcs[f]? with
    | none => simp [hf] at h
    | some fn =>
      simp only [hf] at h ⊢
      cases hb : fn.body with
      | none => simp [hb] at h
      | some c =>
        simp only [hb] at h ⊢
        split at h
        · rename_i hc
          rw [if_pos hc]
          cases hq : R (.code c) (frame0 args, s.2) with
          | none => simp [hq] at h
          | some q => rw [hR _ _ _ hq]; simpa [hq] using h
        · cases h
  | sc body rest =>
    simp only [stepW] at h ⊢
    cases hq : R (.code rest) s with
    | none => simp [hq] at h
    | some q =>
      rw [hR _ _ _ hq]
      obtain ⟨o, s', v⟩ := q
      cases o with
      | goto l =>
        simp only [hq] at h ⊢
        cases hf : findLabel body l with
        | none => simpa [hf] using h
        | some r' => simp only [hf] at h ⊢; exact hR _ _ _ h
      | _ => simpa [hq] using h
  | code c =>
    cases c with
    | skip => exact h
    | label l => exact h
    | ret => exact h
    | exit id => exact h
    | goto l => exact h
    | rangeFunc _ _ _ _ => exact h
    | refuse _ => exact h
    | seq a b =>
      simp only [stepW] at h ⊢
      cases hq : R (.code a) s with
      | none => simp [hq] at h
      | some q =>
        rw [hR _ _ _ hq]
        obtain ⟨o, s', v⟩ := q
        cases o with
        | norm => simp only [hq] at h ⊢; exact hR _ _ _ h
        | _ => simpa [hq] using h
    | cond x a b =>
      simp only [stepW] at h ⊢
      split at h
      · rename_i t e; exact hR _ _ _ h
      · cases h
    | block id body =>
      simp only [stepW] at h ⊢
      cases hq : R (.code body) s with
      | none => simp [hq] at h
      | some q => rw [hR _ _ _ hq]; simpa [hq] using h
    | loop body =>
      simp only [stepW] at h ⊢
      cases hq : R (.code body) s with
      | none => simp [hq] at h
      | some q =>
        rw [hR _ _ _ hq]
        obtain ⟨o, s', v⟩ := q
        cases o with
        | norm => simp only [hq] at h ⊢; exact hR _ _ _ h
        | _ => simpa [hq] using h
    | scope body => exact hR _ _ _ h
    | region id ops dr =>
      simp only [stepW] at h ⊢
      split at h
      · cases h
      · rename_i hd
        cases he : evalOps C.T E ops ops.toList s with
        | none => simp [he] at h
        | some s' =>
          rw [floats_iff hE he] at hd
          rw [if_neg hd, evalOps_mono hE he]; simpa [he] using h

theorem orc_of_ev {n m : Nat} (h : ∀ w s r, ev C n w s = some r → ev C m w s = some r) : ∀ f a H r, orcN C n f a H = some r → orcN C m f a H = some r := by
  intro f a H r hr
  unfold orcN orc at hr ⊢
  cases he : C.ext f with
  | some e => simpa [he] using hr
  | none =>
    simp only [he] at hr ⊢
    cases hq : evalW C.P C.T C.ext C.draw n (.call f a) (fun _ => undefD, H) with
    | none => simp [hq] at hr
    | some q =>
      have := h _ _ _ hq
      simp only [ev] at this
      rw [this]
      simpa [hq] using hr

theorem ev_mono : ∀ (n : Nat) (w : Work) (s : St) (r : Out × St × DV), ev C n w s = some r → ev C (n + 1) w s = some r
  | 0, w, s, r, h => by simp [ev, evalW] at h
  | n + 1, w, s, r, h => by
    rw [ev_succ] at h ⊢
    exact stepW_mono C (orc_of_ev C (ev_mono n)) (ev_mono n) h
theorem ev_le {n m : Nat} (hnm : n ≤ m) {w : Work} {s : St} {r : Out × St × DV} (h : ev C n w s = some r) : ev C m w s = some r := by
  induction hnm with
  | refl => exact h
  | step _ ih => exact ev_mono C _ _ _ _ ih

/-- The evaluator. -/
noncomputable def run (w : Work) (s : St) : Res := open Classical in if h : ∃ n r, ev C n w s = some r then some h.choose_spec.choose else none

theorem run_iff {w : Work} {s : St} {r : Out × St × DV} : run C w s = some r ↔ ∃ n, ev C n w s = some r := by
  unfold run
  constructor
  · intro h
    split at h
    · rename_i hx
      cases h
      exact ⟨_, hx.choose_spec.choose_spec⟩
    · cases h
  · rintro ⟨n, h⟩
    have hx : ∃ n r, ev C n w s = some r := ⟨n, r, h⟩
    rw [dif_pos hx]
    have h1 := hx.choose_spec.choose_spec
    have h2 := ev_le C (Nat.le_max_left hx.choose n) h1
    have h3 := ev_le C (Nat.le_max_right hx.choose n) h
    rw [h2] at h3
    exact h3

/-- A call of a function, as the evaluator takes it. -/
noncomputable def callF : Orc := fun f args H => match C.ext f with
  | some e => e args H
  | none => match run C (.call f args) (fun _ => undefD, H) with
    | some (_, s', v) => some (v, s'.2)
    | none => none

theorem callF_iff {f : FuncId} {a : List DV} {H : DH} {r : DV × DH} : callF C f a H = some r ↔ ∃ n, orcN C n f a H = some r := by
  unfold callF orcN orc
  cases he : C.ext f with
  | some e => simp
  | none =>
    simp only
    constructor
    · intro h
      cases hq : run C (.call f a) (fun _ => undefD, H) with
      | none => simp [hq] at h
      | some q =>
        obtain ⟨n, hn⟩ := (run_iff C).1 hq
        refine ⟨n, ?_⟩
        simp only [ev] at hn
        rw [hn]; simpa [hq] using h
    · rintro ⟨n, h⟩
      cases hq : evalW C.P C.T C.ext C.draw n (.call f a) (fun _ => undefD, H) with
      | none => simp [hq] at h
      | some q =>
        rw [(run_iff C).2 ⟨n, hq⟩]
        simpa [hq] using h

theorem orcN_le {n m : Nat} (h : n ≤ m) : ∀ f a H r, orcN C n f a H = some r → orcN C m f a H = some r := orc_of_ev C fun w s r hr => ev_le C h hr

theorem evalOp_cont {o : Op} {σ : Nat → DV} {H : DH} {r : DV × DH} (h : evalOp C.T (callF C) o σ H = some r) : ∃ n, evalOp C.T (orcN C n) o σ H = some r := by
  cases o
  case call c =>
    simp only [evalOp] at h ⊢
    unfold callD at h ⊢
    cases ha : opds σ c.args.toList with
    | none => simp [ha] at h
    | some args =>
      simp only [ha] at h ⊢
      cases hc : c.callee with
      | invoke _ _ => simp [hc] at h
      | builtin b => exact ⟨0, by simpa [hc] using h⟩
      | value f =>
        simp only [hc] at h ⊢
        split at h
        · rename_i g first cap e
          obtain ⟨n, hn⟩ := (callF_iff C).1 h
          exact ⟨n, by simpa [e] using hn⟩
        · cases h
  all_goals exact ⟨0, h⟩

theorem evalOps_cont {ops : Array Oper} : ∀ {l : List Oper} {s r : St}, evalOps C.T (callF C) ops l s = some r → ∃ n, evalOps C.T (orcN C n) ops l s = some r
  | [], s, r, h => ⟨0, h⟩
  | o :: l, s, r, h => by
    simp only [evalOps] at h
    split at h
    · rename_i hw
      cases he : evalOp C.T (callF C) o.op s.1 s.2 with
      | none => simp [he] at h
      | some q =>
        simp only [he] at h
        obtain ⟨n1, h1⟩ := evalOp_cont C he
        obtain ⟨n2, h2⟩ := evalOps_cont h
        refine ⟨max n1 n2, ?_⟩
        simp only [evalOps, hw, evalOp_mono (orcN_le C (Nat.le_max_left n1 n2)) h1]
        exact evalOps_mono (orcN_le C (Nat.le_max_right n1 n2)) h2
    · rename_i hw
      obtain ⟨n, hn⟩ := evalOps_cont h
      exact ⟨n, by simp only [evalOps, hw]; exact hn⟩
    · cases h

theorem step_cont {w : Work} {s : St} {r : Out × St × DV} (h : stepW C (callF C) (run C) w s = some r) : ∃ n, stepW C (orcN C n) (ev C n) w s = some r := by
  have up : ∀ {n m : Nat}, n ≤ m → ∀ w s r, ev C n w s = some r → ev C m w s = some r := fun hnm w s r hr => ev_le C hnm hr
  cases w with
  | call f args =>
    simp only [stepW] at h ⊢
    cases hf : C.P.funcs[f]? with
    | none => simp [hf] at h
    | some fn =>
      simp only [hf] at h ⊢
      cases hb : fn.body with
      | none => simp [hb] at h
      | some c =>
        simp only [hb] at h ⊢
        split at h
        · rename_i hc
          cases hq : run C (.code c) (frame0 args, s.2) with
          | none => simp [hq] at h
          | some q =>
            obtain ⟨n, hn⟩ := (run_iff C).1 hq
            exact ⟨n, by rw [if_pos hc, hn]; simpa [hq] using h⟩
        · cases h
  | sc body rest =>
    simp only [stepW] at h ⊢
    cases hq : run C (.code rest) s with
    | none => simp [hq] at h
    | some q =>
      obtain ⟨n, hn⟩ := (run_iff C).1 hq
      obtain ⟨o, s', v⟩ := q
      cases o with
      | goto l =>
        simp only [hq] at h
        cases hf : findLabel body l with
        | none => exact ⟨n, by simp only [hn, hf]; simpa [hf] using h⟩
        | some r' =>
          simp only [hf] at h
          obtain ⟨m, hm⟩ := (run_iff C).1 h
          exact ⟨max n m, by simp only [up (Nat.le_max_left n m) _ _ _ hn, hf]; exact up (Nat.le_max_right n m) _ _ _ hm⟩
      | _ => exact ⟨n, by rw [hn]; simpa [hq] using h⟩
  | code c =>
    cases c with
    | skip => exact ⟨0, h⟩
    | label l => exact ⟨0, h⟩
    | ret => exact ⟨0, h⟩
    | exit id => exact ⟨0, h⟩
    | goto l => exact ⟨0, h⟩
    | rangeFunc _ _ _ _ => exact ⟨0, h⟩
    | refuse _ => exact ⟨0, h⟩
    | seq a b =>
      simp only [stepW] at h ⊢
      cases hq : run C (.code a) s with
      | none => simp [hq] at h
      | some q =>
        obtain ⟨n, hn⟩ := (run_iff C).1 hq
        obtain ⟨o, s', v⟩ := q
        cases o with
        | norm =>
          simp only [hq] at h
          obtain ⟨m, hm⟩ := (run_iff C).1 h
          exact ⟨max n m, by simp only [up (Nat.le_max_left n m) _ _ _ hn]; exact up (Nat.le_max_right n m) _ _ _ hm⟩
        | _ => exact ⟨n, by rw [hn]; simpa [hq] using h⟩
    | cond x a b =>
      simp only [stepW] at h ⊢
      split at h
      · rename_i t e
        obtain ⟨n, hn⟩ := (run_iff C).1 h
        exact ⟨n, hn⟩
      · cases h
    | block id body =>
      simp only [stepW] at h ⊢
      cases hq : run C (.code body) s with
      | none => simp [hq] at h
      | some q =>
        obtain ⟨n, hn⟩ := (run_iff C).1 hq
        exact ⟨n, by rw [hn]; simpa [hq] using h⟩
    | loop body =>
      simp only [stepW] at h ⊢
      cases hq : run C (.code body) s with
      | none => simp [hq] at h
      | some q =>
        obtain ⟨n, hn⟩ := (run_iff C).1 hq
        obtain ⟨o, s', v⟩ := q
        cases o with
        | norm =>
          simp only [hq] at h
          obtain ⟨m, hm⟩ := (run_iff C).1 h
          exact ⟨max n m, by simp only [up (Nat.le_max_left n m) _ _ _ hn]; exact up (Nat.le_max_right n m) _ _ _ hm⟩
        | _ => exact ⟨n, by rw [hn]; simpa [hq] using h⟩
    | scope body =>
      obtain ⟨n, hn⟩ := (run_iff C).1 h
      exact ⟨n, hn⟩
    | region id ops dr =>
      simp only [stepW] at h ⊢
      split at h
      · cases h
      · rename_i hd
        cases he : evalOps C.T (callF C) ops ops.toList s with
        | none => simp [he] at h
        | some s' =>
          obtain ⟨n, hn⟩ := evalOps_cont C he
          have hle : ∀ f a H r, orcN C n f a H = some r → callF C f a H = some r := fun f a H r hr => (callF_iff C).2 ⟨n, hr⟩
          rw [← floats_iff hle hn] at hd
          exact ⟨n, by rw [if_neg hd, hn]; simpa [he] using h⟩

/-- THE EVALUATOR's EQUATION. -/
theorem run_eq (w : Work) (s : St) : run C w s = stepW C (callF C) (run C) w s := by
  apply Option.ext
  intro r
  constructor
  · intro h
    obtain ⟨n, hn⟩ := (run_iff C).1 h
    cases n with
    | zero => simp [ev, evalW] at hn
    | succ n =>
      rw [ev_succ] at hn
      exact stepW_mono C (fun f a H r hr => (callF_iff C).2 ⟨n, hr⟩) (fun w s r hr => (run_iff C).2 ⟨n, hr⟩) hn
  · intro h
    obtain ⟨n, hn⟩ := step_cont C h
    exact (run_iff C).2 ⟨n + 1, by rw [ev_succ]; exact hn⟩

/-- What the evaluator finds of a call, the machine does. -/
theorem calls_of {C : Cfg} (TO : TabOk C.P C.T) (XO : ExtOk C.P C.ext) (NO : NameOk C.P) (DO : DrawOk C.P C.T C.draw) {f : FuncId} {args : List DV} {H H' : DH} {d : DV} (hx : C.ext f = none) (h : callF C f args H = some (d, H'))
    {G : Ghost} {w : World} {vs : List Value} (r : Rel G H w) (hv : VL G args vs) : Calls C.P f vs.toArray w fun e w' => ∃ v G', e = .returned v ∧ V G' d v ∧ Step G H w G' H' w' := by
  obtain ⟨n, hn⟩ := (callF_iff C).1 h
  unfold orcN orc at hn
  simp only [hx] at hn
  cases hq : evalW C.P C.T C.ext C.draw n (.call f args) (fun _ => undefD, H) with
  | none => simp [hq] at hn
  | some q =>
    obtain ⟨o, ⟨σ', H2⟩, v⟩ := q
    simp only [hq, Option.some.injEq, Prod.mk.injEq] at hn
    obtain ⟨rfl, rfl⟩ := hn
    exact ((sound TO XO NO DO n).call f args _ H o σ' H2 v hq G w vs r hv).2
end Go.Proofs.YtcknfhhbijlobaaDoor.D
