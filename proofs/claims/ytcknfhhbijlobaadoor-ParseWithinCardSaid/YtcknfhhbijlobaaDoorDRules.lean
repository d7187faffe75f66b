/- D: rules: what code comes to, as a property of what it leaves. -/
import Derived.Test.YtcknfhhbijlobaaDoorDRun
namespace Go.Proofs.YtcknfhhbijlobaaDoor.D
open Go
set_option linter.unusedVariables false
set_option linter.unusedSimpArgs false

variable (C : Cfg)
def W (c : Code) (σ : Nat → DV) (H : DH) (K : Out → (Nat → DV) → DH → Prop) : Prop := ∃ o s' v, run C (.code c) (σ, H) = some (o, s', v) ∧ K o s'.1 s'.2
def WS (body rest : Code) (σ : Nat → DV) (H : DH) (K : Out → (Nat → DV) → DH → Prop) : Prop := ∃ o s' v, run C (.sc body rest) (σ, H) = some (o, s', v) ∧ K o s'.1 s'.2
def WO (ops : Array Oper) (l : List Oper) (σ : Nat → DV) (H : DH) (K : (Nat → DV) → DH → Prop) : Prop := ∃ s', evalOps C.T (callF C) ops l (σ, H) = some s' ∧ K s'.1 s'.2
def W1 (o : Op) (σ : Nat → DV) (H : DH) (K : DV → DH → Prop) : Prop := ∃ v H', evalOp C.T (callF C) o σ H = some (v, H') ∧ K v H'
def WC (f : FuncId) (args : List DV) (H : DH) (K : DV → DH → Prop) : Prop := ∃ v H', callF C f args H = some (v, H') ∧ K v H'
/-- A test that must come to a bool. -/
def WB (x : Option DV) (t e : Prop) : Prop := ∃ b, x = some (.bool b) ∧ (b = true → t) ∧ (b = false → e)
/-- A value that must be there. -/
def WV (x : Option DV) (K : DV → Prop) : Prop := ∃ v, x = some v ∧ K v

variable {C}
theorem W_mono {c : Code} {σ : Nat → DV} {H : DH} {K K' : Out → (Nat → DV) → DH → Prop} (h : W C c σ H K) (k : ∀ o σ H, K o σ H → K' o σ H) : W C c σ H K' :=
  let ⟨o, s, v, h1, h2⟩ := h; ⟨o, s, v, h1, k _ _ _ h2⟩
theorem WC_mono {f : FuncId} {a : List DV} {H : DH} {K K' : DV → DH → Prop} (h : WC C f a H K) (k : ∀ v H, K v H → K' v H) : WC C f a H K' :=
  let ⟨v, H', h1, h2⟩ := h; ⟨v, H', h1, k _ _ h2⟩

theorem ex_some {a : Out} {σ : Nat → DV} {H : DH} {u : DV} {K : Out → (Nat → DV) → DH → Prop} : (∃ o s' v, (some (a, (σ, H), u) : Res) = some (o, s', v) ∧ K o s'.1 s'.2) ↔ K a σ H := by
  constructor
  · rintro ⟨o, s, v, h, hk⟩
    simp only [Option.some.injEq, Prod.mk.injEq] at h
    obtain ⟨rfl, rfl, rfl⟩ := h
    exact hk
  · intro h; exact ⟨_, _, _, rfl, h⟩
theorem W_skip {σ H K} : W C .skip σ H K ↔ K .norm σ H := by
  unfold W; rw [run_eq]; exact ex_some
theorem W_label {l σ H K} : W C (.label l) σ H K ↔ K .norm σ H := by
  unfold W; rw [run_eq]; exact ex_some
theorem W_ret {σ H K} : W C .ret σ H K ↔ K .ret σ H := by
  unfold W; rw [run_eq]; exact ex_some
theorem W_exit {id σ H K} : W C (.exit id) σ H K ↔ K (.exit id) σ H := by
  unfold W; rw [run_eq]; exact ex_some
theorem W_goto {l σ H K} : W C (.goto l) σ H K ↔ K (.goto l) σ H := by
  unfold W; rw [run_eq]; exact ex_some
theorem W_seq {a b σ H K} : W C (.seq a b) σ H K ↔ W C a σ H fun o σ' H' => if o = .norm then W C b σ' H' K else K o σ' H' := by
  unfold W; rw [run_eq]; simp only [stepW]
  constructor
  · rintro ⟨o, s, v, h, hk⟩
    cases hq : run C (.code a) (σ, H) with
    | none => simp [hq] at h
    | some q =>
      obtain ⟨o1, s1, v1⟩ := q
      refine ⟨o1, s1, v1, rfl, ?_⟩
      cases o1 with
      | norm => rw [if_pos rfl]; simp only [hq] at h; exact ⟨o, s, v, h, hk⟩
      | _ => simp only [hq, Option.some.injEq, Prod.mk.injEq] at h; obtain ⟨rfl, rfl, rfl⟩ := h; rw [if_neg (by simp)]; exact hk
  · rintro ⟨o1, s1, v1, h, hk⟩
    rw [h]
    cases o1 with
    | norm => rw [if_pos rfl] at hk; exact hk
    | _ => rw [if_neg (by simp)] at hk; exact ⟨_, _, _, rfl, hk⟩
theorem W_cond {x a b σ H K} : W C (.cond x a b) σ H K ↔ WB (opd σ x) (W C a σ H K) (W C b σ H K) := by
  unfold W WB; rw [run_eq]; simp only [stepW]
  constructor
  · rintro ⟨o, s, v, h, hk⟩
    split at h
    · rename_i t e
      refine ⟨t, e, ?_, ?_⟩
      · rintro rfl; exact ⟨o, s, v, h, hk⟩
      · rintro rfl; exact ⟨o, s, v, h, hk⟩
    · cases h
  · rintro ⟨t, e, h1, h2⟩
    simp only [e]
    cases t with
    | true => exact h1 rfl
    | false => exact h2 rfl
theorem W_block {id c σ H K} : W C (.block id c) σ H K ↔ W C c σ H fun o σ' H' => if o = .exit id then K .norm σ' H' else K o σ' H' := by
  unfold W; rw [run_eq]; simp only [stepW]
  constructor
  · rintro ⟨o, s, v, h, hk⟩
    cases hq : run C (.code c) (σ, H) with
    | none => simp [hq] at h
    | some q =>
      obtain ⟨o1, s1, v1⟩ := q
      refine ⟨o1, s1, v1, rfl, ?_⟩
      cases o1 with
      | exit id' =>
        simp only [hq] at h
        by_cases hid : id' = id
        · rw [if_pos hid] at h
          simp only [Option.some.injEq, Prod.mk.injEq] at h; obtain ⟨rfl, rfl, rfl⟩ := h
          rw [if_pos (by rw [hid])]; exact hk
        · rw [if_neg hid] at h
          simp only [Option.some.injEq, Prod.mk.injEq] at h; obtain ⟨rfl, rfl, rfl⟩ := h
          rw [if_neg (by simp [hid])]; exact hk
      | _ => simp only [hq, Option.some.injEq, Prod.mk.injEq] at h; obtain ⟨rfl, rfl, rfl⟩ := h; rw [if_neg (by simp)]; exact hk
  · rintro ⟨o1, s1, v1, h, hk⟩
    rw [h]
    cases o1 with
    | exit id' =>
      simp only
      by_cases hid : id' = id
      · rw [if_pos (by rw [hid])] at hk; rw [if_pos hid]; exact ⟨_, _, _, rfl, hk⟩
      · rw [if_neg (by simp [hid])] at hk; rw [if_neg hid]; exact ⟨_, _, _, rfl, hk⟩
    | _ => rw [if_neg (by simp)] at hk; exact ⟨_, _, _, rfl, hk⟩
theorem W_region {id ops dr σ H K} : W C (.region id ops dr) σ H K ↔ (dr = true → C.draw ops = true ∨ Floats C.T (callF C) ops (σ, H)) ∧ WO C ops ops.toList σ H (K .norm) := by
  unfold W WO; rw [run_eq]; simp only [stepW]
  constructor
  · rintro ⟨o, s, v, h, hk⟩
    split at h
    · cases h
    · rename_i hd
      refine ⟨fun hdr => Classical.byContradiction fun hq => hd ⟨hdr, hq⟩, ?_⟩
      · cases he : evalOps C.T (callF C) ops ops.toList (σ, H) with
        | none => simp [he] at h
        | some s' => simp only [he, Option.some.injEq, Prod.mk.injEq] at h; obtain ⟨rfl, rfl, _⟩ := h; exact ⟨_, rfl, hk⟩
  · rintro ⟨h1, s', h2, hk⟩
    rw [if_neg (by rintro ⟨a, b⟩; exact b (h1 a)), h2]
    exact ⟨_, _, _, rfl, hk⟩
theorem WO_nil {ops σ H K} : WO C ops [] σ H K ↔ K σ H := by simp [WO, evalOps]
theorem WO_cons {ops o l σ H K} : WO C ops (o :: l) σ H K ↔
    match wantedD ops o σ with
    | some true => W1 C o.op σ H fun v H' => WO C ops l (put σ o.dst v) H' K
    | some false => WO C ops l (put σ o.dst undefD) H K
    | none => False := by
  unfold WO W1; simp only [evalOps]
  cases hw : wantedD ops o σ with
  | none => simp
  | some b =>
    cases b with
    | false => simp
    | true =>
      simp only
      constructor
      · rintro ⟨s', h, hk⟩
        cases he : evalOp C.T (callF C) o.op σ H with
        | none => simp [he] at h
        | some q => obtain ⟨v, H'⟩ := q; simp only [he] at h; exact ⟨v, H', rfl, s', h, hk⟩
      · rintro ⟨v, H', he, s', h, hk⟩
        exact ⟨s', by simp only [he]; exact h, hk⟩
theorem WO_step {ops o l σ H K} (hg : o.guard = none) : WO C ops (o :: l) σ H K ↔ W1 C o.op σ H fun v H' => WO C ops l (put σ o.dst v) H' K := by
  rw [WO_cons]; simp [wantedD, hg]

/-- A loop, by what holds at its head and a measure. -/
theorem W_loop {c : Code} {σ : Nat → DV} {H : DH} {K : Out → (Nat → DV) → DH → Prop} (I : (Nat → DV) → DH → Prop) (μ : (Nat → DV) → DH → Nat) (h0 : I σ H)
    (round : ∀ σ H, I σ H → W C c σ H fun o σ' H' => if o = .norm then I σ' H' ∧ μ σ' H' < μ σ H else K o σ' H') : W C (.loop c) σ H K := by
  have key : ∀ n σ H, μ σ H = n → I σ H → W C (.loop c) σ H K := by
    intro n
    induction n using Nat.strongRecOn with
    | _ n ih =>
      intro σ H hn hI
      obtain ⟨o, s, v, h, hk⟩ := round σ H hI
      unfold W
      rw [run_eq]; simp only [stepW, h]
      cases o with
      | norm =>
        rw [if_pos rfl] at hk
        exact ih _ (hn ▸ hk.2) s.1 s.2 rfl hk.1
      | _ => rw [if_neg (by simp)] at hk; exact ⟨_, _, _, rfl, hk⟩
  exact key _ σ H rfl h0

theorem W_scope {c σ H K} : W C (.scope c) σ H K ↔ WS C c c σ H K := by
  unfold W WS; rw [run_eq]; rfl
theorem WS_iff {body rest σ H K} : WS C body rest σ H K ↔ W C rest σ H fun o σ' H' =>
    match o with
    | .goto l => match findLabel body l with
      | some r => WS C body r σ' H' K
      | none => K (.goto l) σ' H'
    | o => K o σ' H' := by
  unfold WS W; rw [run_eq]; simp only [stepW]
  constructor
  · rintro ⟨o, s, v, h, hk⟩
    cases hq : run C (.code rest) (σ, H) with
    | none => simp [hq] at h
    | some q =>
      obtain ⟨o1, s1, v1⟩ := q
      refine ⟨o1, s1, v1, rfl, ?_⟩
      cases o1 with
      | goto l =>
        simp only [hq] at h
        cases hf : findLabel body l with
        | none => simp only [hf, Option.some.injEq, Prod.mk.injEq] at h ⊢; obtain ⟨rfl, rfl, rfl⟩ := h; exact hk
        | some r => simp only [hf] at h ⊢; exact ⟨o, s, v, h, hk⟩
      | _ => simp only [hq, Option.some.injEq, Prod.mk.injEq] at h; obtain ⟨rfl, rfl, rfl⟩ := h; exact hk
  · rintro ⟨o1, s1, v1, h, hk⟩
    rw [h]
    cases o1 with
    | goto l =>
      simp only
      cases hf : findLabel body l with
      | none => simp only [hf] at hk ⊢; exact ⟨_, _, _, rfl, hk⟩
      | some r => simp only [hf] at hk ⊢; exact hk
    | _ => exact ⟨_, _, _, rfl, hk⟩

/-- A call of a function with a body. -/
theorem WC_body {f : FuncId} {fn : Func} {c : Code} {args : List DV} {H : DH} {K : DV → DH → Prop} (hx : C.ext f = none) (hf : C.P.funcs[f]? = some fn) (hb : fn.body = some c) (hN : bnd fn.ntmps c = true)
    (hl : args.length ≤ fn.ntmps) (h : W C c (frame0 args) H fun o σ H => (o = .norm ∨ o = .ret) ∧ ∃ vs, resD C.T σ H fn.results.toList = some vs ∧ K (resOne vs) H) : WC C f args H K := by
  obtain ⟨o, s, v, h1, h2, vs, h3, h4⟩ := h
  refine ⟨resOne vs, s.2, ?_, h4⟩
  unfold callF
  simp only [hx]
  rw [run_eq]
  simp only [stepW, hf, hb]
  rw [if_pos ⟨hl, hN⟩, h1]
  rcases h2 with rfl | rfl <;> simp [h3]

theorem WC_ext {f : FuncId} {e : List DV → DH → Option (DV × DH)} {args : List DV} {H : DH} {K : DV → DH → Prop} (hx : C.ext f = some e) : WC C f args H K ↔ ∃ v H', e args H = some (v, H') ∧ K v H' := by
  unfold WC callF; simp [hx]

theorem W1_call {c : Call} {σ H K} (hc : ∃ f, c.callee = .value f) : W1 C (.call c) σ H K ↔ ∃ args, opds σ c.args.toList = some args ∧ match c.callee with
    | .value f => ∃ g a b, opd σ f = some (.fn (.func g) a b) ∧ WC C g (a ++ args ++ b) H K
    | _ => False := by
  obtain ⟨f, hf⟩ := hc
  unfold W1 WC
  simp only [evalOp, callD, hf]
  constructor
  · rintro ⟨v, H', h, hk⟩
    cases ha : opds σ c.args.toList with
    | none => simp [ha] at h
    | some args =>
      simp only [ha] at h
      split at h
      · rename_i g a b e
        exact ⟨args, rfl, g, a, b, e, v, H', h, hk⟩
      · cases h
  · rintro ⟨args, ha, g, a, b, e, v, H', h, hk⟩
    exact ⟨v, H', by simp only [ha, e]; exact h, hk⟩
theorem W1_callf {g : FuncId} {as : Array Operand} {ts σ H K} : W1 C (.call { callee := .value (.func g), args := as, argTypes := ts }) σ H K ↔ ∃ args, opds σ as.toList = some args ∧ WC C g args H K := by
  rw [W1_call ⟨_, rfl⟩]
  constructor
  · rintro ⟨args, h, g', a, b, e, hk⟩
    simp only [opd, Option.some.injEq, DV.fn.injEq, Fn.func.injEq] at e
    obtain ⟨rfl, rfl, rfl⟩ := e
    exact ⟨args, h, by simpa using hk⟩
  · rintro ⟨args, h, hk⟩
    exact ⟨args, h, g, [], [], rfl, by simpa using hk⟩
theorem W1_callt {t : Tmp} {as : Array Operand} {ts σ H K} : W1 C (.call { callee := .value (.tmp t), args := as, argTypes := ts }) σ H K ↔ ∃ args, opds σ as.toList = some args ∧ ∃ g a b, σ t = .fn (.func g) a b ∧ WC C g (a ++ args ++ b) H K := by
  rw [W1_call ⟨_, rfl⟩]
  simp [opd]
end Go.Proofs.YtcknfhhbijlobaaDoor.D
