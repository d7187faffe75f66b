/- D: what the evaluator finds, the machine does. -/
import Derived.Test.YtcknfhhbijlobaaDoorDOpAll
namespace Go.Proofs.YtcknfhhbijlobaaDoor.D
open Go
set_option linter.unusedVariables false
set_option linter.unusedSimpArgs false

def toExit : Out → Exit
  | .norm => .normal
  | .exit id => .exit id
  | .goto l => .goto l
  | .ret => .ret

/-- What is known when code of a frame of N temporaries is left. -/
def Post (G : Ghost) (H : DH) (w : World) (N : Nat) (out : Out) (σ' : Nat → DV) (H' : DH) : Exit → Act → World → Prop :=
  fun e a' w' => e = toExit out ∧ ∃ G', SlotsOk G' σ' a' ∧ a'.defers = [] ∧ a'.tmps.size = N ∧ Step G H w G' H' w'

def ExtOk (P : Program) (ext : FuncId → Option (List DV → DH → Option (DV × DH))) : Prop :=
  ∀ f e, ext f = some e → ∀ args H d H', e args H = some (d, H') → ∀ G w vs, Rel G H w → VL G args vs → Good P G H w H' d ((callFunc f vs.toArray).run P w)
def NameOk (P : Program) : Prop := ∀ (f : Nat) (fn : Func), P.funcs[f]? = some fn → (fn.name == "runtime.NumGoroutine") = false
def DrawOk (P : Program) (T : Tab) (draw : Array Oper → Bool) : Prop :=
  ∀ ops, ∀ E, OrcOk P E → ∀ σ H σ' H', (draw ops = true ∨ Floats T E ops (σ, H)) → evalOps T E ops ops.toList (σ, H) = some (σ', H') → ∀ G w a N id, Rel G H w → SlotsOk G σ a → a.defers = [] → a.tmps.size = N → bnd N (.region id ops true) = true →
    (Code.region id ops true).wp P (Post G H w N .norm σ' H') a w

section
variable {P : Program} {T : Tab} {G : Ghost} {H H' : DH} {w : World} {d : DV}

theorem put_ok {σ : Nat → DV} {a : Act} {dst : Option Tmp} {v : Value} {dv : DV} (hs : SlotsOk G σ a) (hv : V G dv v) (hd : ∀ t, dst = some t → t < a.tmps.size) : SlotsOk G (put σ dst dv) (a.put dst v) := by
  cases dst with
  | none => exact hs
  | some t =>
    intro i
    have ht := hd t rfl
    simp only [put, upd, Act.put]
    by_cases hi : i = t
    · subst hi
      rw [if_pos rfl]
      simpa [ht] using hv
    · rw [if_neg hi]
      have := hs i
      simpa [Array.getElem?_setIfInBounds_ne (Ne.symm hi)] using this

theorem put_size (a : Act) (dst : Option Tmp) (v : Value) : (a.put dst v).tmps.size = a.tmps.size := by cases dst <;> simp [Act.put]
theorem put_defers (a : Act) (dst : Option Tmp) (v : Value) : (a.put dst v).defers = a.defers := by cases dst <;> simp [Act.put]

theorem V_undef (G : Ghost) : V G undefD undef := V.tup (cs := []) (vs := []) rfl (fun i d v h => by simp at h)

theorem wanted_ok {σ : Nat → DV} {a : Act} (hs : SlotsOk G σ a) {ops : Array Oper} {o : Oper} {b : Bool} (h : wantedD ops o σ = some b) (hN : ∀ (j : Nat) (p : Oper) t, ops[j]? = some p → p.dst = some t → t < a.tmps.size) :
    Region.wanted o (yielded ops a.tmps) = b := by
  unfold wantedD at h
  unfold Region.wanted
  cases hg : o.guard with
  | none => simp [hg] at h; subst h; rfl
  | some jw =>
    obtain ⟨j, want⟩ := jw
    simp only [hg] at h
    cases hd : (ops[j]?).bind (·.dst) with
    | none => simp [hd] at h; subst h; simp [yielded, hd]
    | some t =>
      simp only [hd] at h
      have ht : t < a.tmps.size := by
        rw [Option.bind_eq_some_iff] at hd
        obtain ⟨p, hp, hpt⟩ := hd
        exact hN j p t hp hpt
      have hv := hs t
      have hget : a.tmps[t]? = some (a.tmps.getD t undef) := by simp [ht]
      split at h
      · rename_i x e
        rw [e] at hv
        generalize hx : a.tmps.getD t undef = u at hv hget
        cases hv
        cases h
        simp [yielded, hd, hget]
      · rename_i e
        rw [e] at hv
        generalize hx : a.tmps.getD t undef = u at hv hget
        cases h
        cases hv with
        | tup hl hv => simp [yielded, hd, hget]
      · cases h

/-- What follows an operation. -/
theorem upon_ok {o : Oper} {a : Act} {K : Act → World → Prop} {Q : Exit → Act → World → Prop} {R : Result Next} (h : Good P G H w H' d R)
    (hK : ∀ v w' G', V G' d v → Step G H w G' H' w' → K (a.put o.dst v) w') : o.upon P a K Q R := by
  unfold Good at h
  split at h
  · obtain ⟨G', h1, h2⟩ := h
    exact hK _ _ G' h1 h2
  · obtain ⟨rfl, G', h2⟩ := h
    exact hK _ _ G' (V_undef G') h2
  · exact h.mono fun e w'' ⟨v, G', he, h1, h2⟩ => by subst he; exact hK _ _ G' h1 h2
  · exact h.elim

theorem evalOps_ok (TO : TabOk P T) {E : Orc} (EO : OrcOk P E) {ops : Array Oper} {N : Nat} (hN : ∀ (j : Nat) (p : Oper) t, ops[j]? = some p → p.dst = some t → t < N) {Q : Exit → Act → World → Prop} :
    ∀ (l : List Oper) (σ : Nat → DV) (H : DH) (σ' : Nat → DV) (H' : DH), (∀ o ∈ l, ∀ t, o.dst = some t → t < N) → evalOps T E ops l (σ, H) = some (σ', H') → ∀ (G : Ghost) (w : World) (a : Act), Rel G H w → SlotsOk G σ a → a.defers = [] → a.tmps.size = N →
      (∀ a' w' G', SlotsOk G' σ' a' → a'.defers = [] → a'.tmps.size = N → Step G H w G' H' w' → Q .normal a' w') → wpList P ops Q l a w
  | [], σ, H, σ', H', hl, h, G, w, a, r, hs, hd, hn, hQ => by
    simp only [evalOps, Option.some.injEq, Prod.mk.injEq] at h
    obtain ⟨rfl, rfl⟩ := h
    exact hQ a w G hs hd hn (.refl r)
  | o :: l, σ, H, σ', H', hl, h, G, w, a, r, hs, hd, hn, hQ => by
    simp only [evalOps] at h
    have hlt : ∀ t, o.dst = some t → t < a.tmps.size := fun t ht => hn ▸ hl o (by simp) t ht
    unfold wpList
    split at h
    · rename_i hw
      rw [wanted_ok hs hw (hn ▸ hN)]
      rw [if_pos rfl]
      split at h
      · rename_i v H1 he
        refine .inl ?_
        unfold Oper.wp
        refine upon_ok (op_ok TO EO r hs he) fun v' w' G' hv hst => ?_
        refine evalOps_ok TO EO hN l _ H1 σ' H' (fun o' ho' => hl o' (by simp [ho'])) h G' w' _ hst.rel (put_ok (hs.mono hst.le) hv hlt) (by rw [put_defers]; exact hd) (by rw [put_size]; exact hn) ?_
        exact fun a' w'' G'' h1 h2 h3 h4 => hQ a' w'' G'' h1 h2 h3 (hst.trans h4)
      · cases h
    · rename_i hw
      rw [wanted_ok hs hw (hn ▸ hN)]
      rw [if_neg (by simp)]
      exact evalOps_ok TO EO hN l _ H σ' H' (fun o' ho' => hl o' (by simp [ho'])) h G w _ r (put_ok hs (V_undef G) hlt) (by rw [put_defers]; exact hd) (by rw [put_size]; exact hn) hQ
    · cases h

theorem bnd_region {N id : Nat} {ops : Array Oper} {b : Bool} (h : bnd N (.region id ops b) = true) : (∀ (j : Nat) (p : Oper) t, ops[j]? = some p → p.dst = some t → t < N) ∧ ∀ o ∈ ops.toList, ∀ t, o.dst = some t → t < N := by
  have k : ∀ o ∈ ops.toList, ∀ t, o.dst = some t → t < N := by
    intro o ho t ht
    simp only [bnd, List.all_eq_true] at h
    have := h o ho
    simpa [ht] using this
  exact ⟨fun j p t hp ht => k p (by have := Array.mem_of_getElem? hp; simpa using this) t ht, k⟩

theorem bnd_find {N : Nat} : ∀ {c : Code} {l : Nat} {r : Code}, bnd N c = true → findLabel c l = some r → bnd N r = true
  | .seq a b, l, r, h, hf => by
    simp only [bnd, Bool.and_eq_true] at h
    simp only [findLabel] at hf
    split at hf
    · rename_i rest e
      cases hf
      simp only [bnd, Bool.and_eq_true]
      exact ⟨bnd_find h.1 e, h.2⟩
    · exact bnd_find h.2 hf
  | .label l', l, r, h, hf => by
    simp only [findLabel] at hf
    split at hf
    · cases hf; rfl
    · cases hf
  | .skip, _, _, _, hf => by simp [findLabel] at hf
  | .region .., _, _, _, hf => by simp [findLabel] at hf
  | .cond .., _, _, _, hf => by simp [findLabel] at hf
  | .block .., _, _, _, hf => by simp [findLabel] at hf
  | .loop .., _, _, _, hf => by simp [findLabel] at hf
  | .rangeFunc .., _, _, _, hf => by simp [findLabel] at hf
  | .exit .., _, _, _, hf => by simp [findLabel] at hf
  | .scope .., _, _, _, hf => by simp [findLabel] at hf
  | .goto .., _, _, _, hf => by simp [findLabel] at hf
  | .ret, _, _, _, hf => by simp [findLabel] at hf
  | .refuse .., _, _, _, hf => by simp [findLabel] at hf

theorem res_ok (TO : TabOk P T) (r : Rel G H w) {σ : Nat → DV} {a : Act} (hs : SlotsOk G σ a) : ∀ {l : List ResultVar} {vs : List DV}, resD T σ H l = some vs →
    ∃ rs, (l.mapM fun (y : ResultVar) => (match y with | .tmp t => pure (a.tmps.getD t undef) | .cell x t => do loadVar t (← asAddr (a.tmps.getD x undef)) : Sem Value)).run P w = .ok rs w ∧ VL G vs rs
  | [], vs, h => by simp [resD] at h; subst h; exact ⟨[], rfl, .nil _⟩
  | .tmp t :: l, vs, h => by
    simp only [resD] at h
    cases hr : resD T σ H l with
    | none => simp [hr] at h
    | some l' =>
      simp only [hr, Option.some.injEq] at h
      subst h
      obtain ⟨rs, h1, h2⟩ := res_ok TO r hs hr
      refine ⟨a.tmps.getD t undef :: rs, ?_, .cons (hs t) h2⟩
      rw [List.mapM_cons]
      simp only [Sem.run_bind, Sem.run_pure, Result.andThen_ok, h1]
  | .cell x t :: l, vs, h => by
    simp only [resD] at h
    cases hl : loadD T t (σ x) H with
    | none => simp [hl] at h
    | some v =>
      cases hr : resD T σ H l with
      | none => simp [hl, hr] at h
      | some l' =>
        simp only [hl, hr, Option.some.injEq] at h
        subst h
        obtain ⟨rs, h1, h2⟩ := res_ok TO r hs hr
        obtain ⟨u, hg, hvu⟩ := load_run (P := P) TO r (hs x) hl
        have hptr : ∃ A, a.tmps.getD x undef = .pointer (some A) := by
          have hv := hs x
          generalize hx : a.tmps.getD x undef = u at hv ⊢
          unfold loadD at hl
          split at hl
          · rename_i e1 e2 e3
            obtain ⟨B, o, vs, rfl, _⟩ := cellsAt_ok r hv e3
            exact ⟨_, rfl⟩
          · cases hl
        obtain ⟨A, hA⟩ := hptr
        rw [hA] at hg
        have hA' : (Instr.loadAt t (.pointer (some A))).run P w = (loadVar t A).run P w := by simp [Instr.loadAt, Instr.sureAddr]
        rw [hA'] at hg
        refine ⟨u :: rs, ?_, .cons hvu h2⟩
        rw [List.mapM_cons]
        have hA2 : (asAddr (a.tmps.getD x undef)).run P w = .ok A w := by rw [hA]; rfl
        simp only [Sem.run_bind, Sem.run_pure, Result.andThen_ok, h1, hA2, hg]

def scWp (P : Program) (body rest : Code) (Q : Exit → Act → World → Prop) (a : Act) (w : World) : Prop :=
  ∀ (b : Frame) (k : List Item) (cs : List Frame), ∃ e a' w', Q e a' w' ∧ Arrives P (lone (b.at a (.code rest :: .inScope body :: k)) cs w) b k cs e a' w'

theorem sc_ok {body rest : Code} {Q Q1 : Exit → Act → World → Prop} {a : Act} {w : World} (h : rest.wp P Q1 a w)
    (hnorm : ∀ a w, Q1 .normal a w → Q .normal a w) (hexit : ∀ id a w, Q1 (.exit id) a w → Q (.exit id) a w) (hret : ∀ a w, Q1 .ret a w → Q .ret a w)
    (hpan : ∀ c a w, ¬ Q1 (.panic c) a w) (hout : ∀ a w, ¬ Q1 .outgrown a w)
    (hgoto : ∀ l a w, Q1 (.goto l) a w → (∃ rest', findLabel body l = some rest' ∧ scWp P body rest' Q a w) ∨ (findLabel body l = none ∧ Q (.goto l) a w)) : scWp P body rest Q a w := by
  intro b k cs
  obtain ⟨e, a₁, w₁, hq, harr⟩ := h b (.inScope body :: k) cs
  cases e with
  | normal => exact ⟨.normal, a₁, w₁, hnorm _ _ hq, Steps.trans harr (.one step_inScope)⟩
  | exit id => exact ⟨.exit id, a₁, w₁, hexit _ _ _ hq, fun k' hk => harr k' (by simp [exitTo, hk])⟩
  | ret => exact ⟨.ret, a₁, w₁, hret _ _ hq, harr⟩
  | panic c => exact (hpan _ _ _ hq).elim
  | outgrown => exact (hout _ _ hq).elim
  | goto l =>
    rcases hgoto l a₁ w₁ hq with ⟨rest', hf, hsc⟩ | ⟨hf, hq'⟩
    · obtain ⟨e, a₂, w₂, hq₂, harr₂⟩ := hsc b k cs
      refine ⟨e, a₂, w₂, hq₂, .of_steps (harr _ (by simp [gotoIn, hf])) harr₂⟩
    · exact ⟨.goto l, a₁, w₁, hq', fun k' hk => harr k' (by simp [gotoIn, hf, hk])⟩

theorem wp_scope_sc {body : Code} {Q : Exit → Act → World → Prop} {a : Act} {w : World} (h : scWp P body body Q a w) : (Code.scope body).wp P Q a w := by
  intro b k cs
  obtain ⟨e, a₁, w₁, hq, harr⟩ := h b k cs
  exact ⟨e, a₁, w₁, hq, .of_steps (.one step_scope) harr⟩

def lpWp (P : Program) (c : Code) (Q : Exit → Act → World → Prop) (a : Act) (w : World) : Prop :=
  ∀ (b : Frame) (k : List Item) (cs : List Frame), ∃ e a' w', Q e a' w' ∧ Arrives P (lone (b.at a (.code c :: .inLoop c :: k)) cs w) b k cs e a' w'

theorem wp_loop_lp {c : Code} {Q : Exit → Act → World → Prop} {a : Act} {w : World} (h : lpWp P c Q a w) : (Code.loop c).wp P Q a w := by
  intro b k cs
  obtain ⟨e, a₁, w₁, hq, harr⟩ := h b k cs
  exact ⟨e, a₁, w₁, hq, .of_steps (.one step_loop) harr⟩

theorem lp_ok {c : Code} {Q : Exit → Act → World → Prop} {a : Act} {w : World} (h : c.wp P (Exit.then (lpWp P c Q) Q) a w) : lpWp P c Q a w := by
  intro b k cs
  obtain ⟨e, a₁, w₁, hq, harr⟩ := h b (.inLoop c :: k) cs
  cases e with
  | normal =>
    obtain ⟨e₂, a₂, w₂, hq₂, harr₂⟩ := hq b k cs
    exact ⟨e₂, a₂, w₂, hq₂, .of_steps (Steps.trans harr (.one step_inLoop)) harr₂⟩
  | exit id => exact ⟨_, a₁, w₁, hq, .pass (x := .inLoop c) rfl (fun _ _ => .inl (by simp)) harr⟩
  | goto l => exact ⟨_, a₁, w₁, hq, .pass (x := .inLoop c) rfl (fun _ _ => .inl (by simp)) harr⟩
  | ret => exact ⟨_, a₁, w₁, hq, .pass (x := .inLoop c) rfl (fun _ _ => .inl (by simp)) harr⟩
  | panic ch => exact ⟨_, a₁, w₁, hq, .pass (x := .inLoop c) rfl (fun _ _ => .inl (by simp)) harr⟩
  | outgrown => exact ⟨_, a₁, w₁, hq, .pass (x := .inLoop c) rfl (fun _ _ => .inl (by simp)) harr⟩

theorem Post.trans {G1 : Ghost} {H1 : DH} {w1 : World} {N : Nat} {out : Out} {σ' : Nat → DV} (st : Step G H w G1 H1 w1) {e : Exit} {a' : Act} {w' : World}
    (h : Post G1 H1 w1 N out σ' H' e a' w') : Post G H w N out σ' H' e a' w' := by
  obtain ⟨h1, G', h2, h3, h4, h5⟩ := h
  exact ⟨h1, G', h2, h3, h4, st.trans h5⟩

/-- What the evaluator with fuel n finds, the machine does. -/
structure Sound (P : Program) (T : Tab) (ext : FuncId → Option (List DV → DH → Option (DV × DH))) (draw : Array Oper → Bool) (n : Nat) : Prop where
  code : ∀ c σ H out σ' H' u, evalW P T ext draw n (.code c) (σ, H) = some (out, (σ', H'), u) → ∀ G w a N, Rel G H w → SlotsOk G σ a → a.defers = [] → a.tmps.size = N → bnd N c = true →
    c.wp P (Post G H w N out σ' H') a w
  lp : ∀ c σ H out σ' H' u, evalW P T ext draw n (.code (.loop c)) (σ, H) = some (out, (σ', H'), u) → ∀ G w a N, Rel G H w → SlotsOk G σ a → a.defers = [] → a.tmps.size = N → bnd N c = true →
    lpWp P c (Post G H w N out σ' H') a w
  sc : ∀ body rest σ H out σ' H' u, evalW P T ext draw n (.sc body rest) (σ, H) = some (out, (σ', H'), u) → ∀ G w a N, Rel G H w → SlotsOk G σ a → a.defers = [] → a.tmps.size = N → bnd N body = true → bnd N rest = true →
    scWp P body rest (Post G H w N out σ' H') a w
  call : ∀ f args σ H out σ' H' v, evalW P T ext draw n (.call f args) (σ, H) = some (out, (σ', H'), v) → ∀ G w vs, Rel G H w → VL G args vs →
    (∃ fn c, P.funcs[f]? = some fn ∧ fn.body = some c) ∧ Calls P f vs.toArray w fun e w'' => ∃ v' G', e = .returned v' ∧ V G' v v' ∧ Step G H w G' H' w''

noncomputable def orc (P : Program) (T : Tab) (ext : FuncId → Option (List DV → DH → Option (DV × DH))) (draw : Array Oper → Bool) (n : Nat) : Orc := fun f args H => match ext f with
      | some e => e args H
      | none => match evalW P T ext draw n (.call f args) (fun _ => undefD, H) with
        | some (_, s', v) => some (v, s'.2)
        | none => none

theorem orc_ok {ext : FuncId → Option (List DV → DH → Option (DV × DH))} {draw : Array Oper → Bool} {n : Nat} (XO : ExtOk P ext) (NO : NameOk P) (S : Sound P T ext draw n) : OrcOk P (orc P T ext draw n) := by
  intro f args H d H' h G w vs r hv
  unfold orc at h
  cases he : ext f with
  | some e => simp only [he] at h; exact XO f e he args H d H' h G w vs r hv
  | none =>
    simp only [he] at h
    cases hc : evalW P T ext draw n (.call f args) (fun _ => undefD, H) with
    | none => simp [hc] at h
    | some q =>
      obtain ⟨out, ⟨σ', H2⟩, v⟩ := q
      simp only [hc, Option.some.injEq, Prod.mk.injEq] at h
      obtain ⟨rfl, rfl⟩ := h
      obtain ⟨⟨fn, c, hf, hb⟩, hcall⟩ := S.call f args _ H out σ' H2 v hc G w vs r hv
      have hname := NO f fn hf
      have : (callFunc f vs.toArray).run P w = .ok (.enter f vs.toArray) w := by
        simp only [callFunc, Sem.run_bind, run_program, Result.andThen_ok, hf, hname, hb, Bool.false_eq_true, if_false, Option.isNone_some, Sem.run_pure]
      rw [this]
      exact hcall

theorem frame_ok {args : List DV} {vs : List Value} (hv : VL G args vs) (N : Nat) : SlotsOk G (frame0 args) { tmps := vs.toArray ++ Array.replicate (N - vs.toArray.size) undef, defers := [] } := by
  intro t
  simp only [frame0]
  by_cases ht : t < args.length
  · obtain ⟨v, h1, h2⟩ := hv.get (List.getElem?_eq_getElem ht)
    have hl : t < vs.length := by rw [← hv.1]; exact ht
    have e1 : args.getD t undefD = args[t] := by simp [List.getD, ht]
    rw [e1]
    have e2 : (vs.toArray ++ Array.replicate (N - vs.toArray.size) undef).getD t undef = v := by
      rw [Array.getD_eq_getD_getElem?, Array.getElem?_append_left (by simpa using hl)]
      simp [h1]
    rw [e2]; exact h2
  · have e1 : args.getD t undefD = undefD := by simp [List.getD, List.getElem?_eq_none (by omega : args.length ≤ t)]
    rw [e1]
    have hl : ¬ t < vs.length := by rw [← hv.1]; exact ht
    have e2 : (vs.toArray ++ Array.replicate (N - vs.toArray.size) undef).getD t undef = undef := by
      rw [Array.getD_eq_getD_getElem?, Array.getElem?_append_right (by simp; omega), Array.getElem?_replicate]
      split <;> rfl
    rw [e2]; exact V_undef G

open Classical in
theorem sound (TO : TabOk P T) {ext : FuncId → Option (List DV → DH → Option (DV × DH))} {draw : Array Oper → Bool} (XO : ExtOk P ext) (NO : NameOk P) (DO : DrawOk P T draw) : ∀ n, Sound P T ext draw n
  | 0 => ⟨fun _ _ _ _ _ _ _ h => by simp [evalW] at h, fun _ _ _ _ _ _ _ h => by simp [evalW] at h, fun _ _ _ _ _ _ _ _ h => by simp [evalW] at h, fun _ _ _ _ _ _ _ _ h => by simp [evalW] at h⟩
  | n + 1 => by
    have S := sound TO XO NO DO n
    have EO := orc_ok XO NO S
    have LP : ∀ c σ H out σ' H' u, evalW P T ext draw (n + 1) (.code (.loop c)) (σ, H) = some (out, (σ', H'), u) → ∀ G w a N, Rel G H w → SlotsOk G σ a → a.defers = [] → a.tmps.size = N → bnd N c = true →
        lpWp P c (Post G H w N out σ' H') a w := by
      intro c σ H out σ' H' u h G w a N r hs hd hn hb
      simp only [evalW] at h
      cases hc : evalW P T ext draw n (.code c) (σ, H) with
      | none => simp [hc] at h
      | some q =>
        obtain ⟨o1, ⟨σ1, H1⟩, u1⟩ := q
        have hwp := S.code c σ H o1 σ1 H1 u1 hc G w a N r hs hd hn hb
        refine lp_ok (wp_mono hwp fun e a' w' hp => ?_)
        simp only [hc] at h
        obtain ⟨rfl, G', g1, g2, g3, g4⟩ := hp
        cases o1 with
        | norm =>
          simp only at h
          have := S.lp c σ1 H1 out σ' H' u h G' w' a' N g4.rel g1 g2 g3 hb
          intro b k cs
          obtain ⟨e, a2, w2, hq, harr⟩ := this b k cs
          exact ⟨e, a2, w2, hq.trans g4, harr⟩
        | exit id =>
          simp only [Option.some.injEq, Prod.mk.injEq] at h
          obtain ⟨rfl, ⟨rfl, rfl⟩, _⟩ := h
          exact ⟨rfl, G', g1, g2, g3, g4⟩
        | goto l =>
          simp only [Option.some.injEq, Prod.mk.injEq] at h
          obtain ⟨rfl, ⟨rfl, rfl⟩, _⟩ := h
          exact ⟨rfl, G', g1, g2, g3, g4⟩
        | ret =>
          simp only [Option.some.injEq, Prod.mk.injEq] at h
          obtain ⟨rfl, ⟨rfl, rfl⟩, _⟩ := h
          exact ⟨rfl, G', g1, g2, g3, g4⟩
    refine ⟨?_, LP, ?_, ?_⟩
    · intro c σ H out σ' H' u h G w a N r hs hd hn hb
      have fin : ∀ {e : Exit}, e = toExit out → σ' = σ → H' = H → Post G H w N out σ' H' e a w := by
        rintro e rfl rfl rfl
        exact ⟨rfl, G, hs, hd, hn, .refl r⟩
      cases c with
      | skip => simp only [evalW, Option.some.injEq, Prod.mk.injEq] at h; obtain ⟨rfl, ⟨rfl, rfl⟩, _⟩ := h; exact wp_skip (fin rfl rfl rfl)
      | label l => simp only [evalW, Option.some.injEq, Prod.mk.injEq] at h; obtain ⟨rfl, ⟨rfl, rfl⟩, _⟩ := h; exact wp_label (fin rfl rfl rfl)
      | ret => simp only [evalW, Option.some.injEq, Prod.mk.injEq] at h; obtain ⟨rfl, ⟨rfl, rfl⟩, _⟩ := h; exact wp_ret (fin rfl rfl rfl)
      | exit id => simp only [evalW, Option.some.injEq, Prod.mk.injEq] at h; obtain ⟨rfl, ⟨rfl, rfl⟩, _⟩ := h; exact wp_exit (fin rfl rfl rfl)
      | goto l => simp only [evalW, Option.some.injEq, Prod.mk.injEq] at h; obtain ⟨rfl, ⟨rfl, rfl⟩, _⟩ := h; exact wp_goto (fin rfl rfl rfl)
      | rangeFunc _ _ _ _ => simp [evalW] at h
      | refuse _ => simp [evalW] at h
      | loop body => exact wp_loop_lp (LP body σ H out σ' H' u h G w a N r hs hd hn (by simpa [bnd] using hb))
      | scope body =>
        simp only [evalW] at h
        have hb' : bnd N body = true := by simpa [bnd] using hb
        exact wp_scope_sc (S.sc body body σ H out σ' H' u h G w a N r hs hd hn hb' hb')
      | cond x t e =>
        simp only [evalW] at h
        cases hx : opd σ x with
        | none => simp [hx] at h
        | some v =>
          simp only [hx] at h
          split at h
          · rename_i b heq
            obtain rfl := Option.some.inj heq
            have hv := opd_ok hs hx
            generalize hve : a.eval x = ve at hv
            cases hv
            simp only [bnd, Bool.and_eq_true] at hb
            exact wp_cond hve (S.code _ σ H out σ' H' u h G w a N r hs hd hn (by cases b; exact hb.2; exact hb.1))
          · cases h
      | seq x y =>
        simp only [evalW] at h
        simp only [bnd, Bool.and_eq_true] at hb
        cases hc : evalW P T ext draw n (.code x) (σ, H) with
        | none => simp [hc] at h
        | some q =>
          obtain ⟨o1, ⟨σ1, H1⟩, u1⟩ := q
          have hwp := S.code x σ H o1 σ1 H1 u1 hc G w a N r hs hd hn hb.1
          refine wp_seq (wp_mono hwp fun e a' w' hp => ?_)
          simp only [hc] at h
          obtain ⟨rfl, G', g1, g2, g3, g4⟩ := hp
          cases o1 with
          | norm =>
            simp only at h
            exact wp_mono (S.code y σ1 H1 out σ' H' u h G' w' a' N g4.rel g1 g2 g3 hb.2) fun e a2 w2 hq => hq.trans g4
          | exit id =>
            simp only [Option.some.injEq, Prod.mk.injEq] at h
            obtain ⟨rfl, ⟨rfl, rfl⟩, _⟩ := h
            exact ⟨rfl, G', g1, g2, g3, g4⟩
          | goto l =>
            simp only [Option.some.injEq, Prod.mk.injEq] at h
            obtain ⟨rfl, ⟨rfl, rfl⟩, _⟩ := h
            exact ⟨rfl, G', g1, g2, g3, g4⟩
          | ret =>
            simp only [Option.some.injEq, Prod.mk.injEq] at h
            obtain ⟨rfl, ⟨rfl, rfl⟩, _⟩ := h
            exact ⟨rfl, G', g1, g2, g3, g4⟩
      | block id x =>
        simp only [evalW] at h
        simp only [bnd] at hb
        cases hc : evalW P T ext draw n (.code x) (σ, H) with
        | none => simp [hc] at h
        | some q =>
          obtain ⟨o1, ⟨σ1, H1⟩, u1⟩ := q
          have hwp := S.code x σ H o1 σ1 H1 u1 hc G w a N r hs hd hn hb
          refine wp_block (wp_mono hwp fun e a' w' hp => ?_)
          simp only [hc] at h
          obtain ⟨rfl, G', g1, g2, g3, g4⟩ := hp
          cases o1 with
          | exit id' =>
            simp only [toExit, Exit.inBlock]
            simp only at h
            by_cases hid : id' = id
            · rw [if_pos hid] at h ⊢
              simp only [Option.some.injEq, Prod.mk.injEq] at h
              obtain ⟨rfl, ⟨rfl, rfl⟩, _⟩ := h
              exact ⟨rfl, G', g1, g2, g3, g4⟩
            · rw [if_neg hid] at h ⊢
              simp only [Option.some.injEq, Prod.mk.injEq] at h
              obtain ⟨rfl, ⟨rfl, rfl⟩, _⟩ := h
              exact ⟨rfl, G', g1, g2, g3, g4⟩
          | norm =>
            simp only [Option.some.injEq, Prod.mk.injEq] at h
            obtain ⟨rfl, ⟨rfl, rfl⟩, _⟩ := h
            exact ⟨rfl, G', g1, g2, g3, g4⟩
          | goto l =>
            simp only [Option.some.injEq, Prod.mk.injEq] at h
            obtain ⟨rfl, ⟨rfl, rfl⟩, _⟩ := h
            exact ⟨rfl, G', g1, g2, g3, g4⟩
          | ret =>
            simp only [Option.some.injEq, Prod.mk.injEq] at h
            obtain ⟨rfl, ⟨rfl, rfl⟩, _⟩ := h
            exact ⟨rfl, G', g1, g2, g3, g4⟩
      | region id ops dr =>
        simp only [evalW] at h
        change (if dr = true ∧ ¬ (draw ops = true ∨ Floats T (orc P T ext draw n) ops (σ, H)) then none else match evalOps T (orc P T ext draw n) ops ops.toList (σ, H) with | some s' => some (Out.norm, s', undefD) | none => none) = _ at h
        split at h
        · cases h
        · rename_i hdr
          cases he : evalOps T (orc P T ext draw n) ops ops.toList (σ, H) with
          | none => simp [he] at h
          | some s' =>
            obtain ⟨σ2, H2⟩ := s'
            simp only [he, Option.some.injEq, Prod.mk.injEq] at h
            obtain ⟨rfl, ⟨rfl, rfl⟩, _⟩ := h
            cases dr with
            | true =>
              have hdw : draw ops = true ∨ Floats T (orc P T ext draw n) ops (σ, H) := Classical.byContradiction fun hq => hdr ⟨rfl, hq⟩
              exact DO ops _ EO σ H σ2 H2 hdw he G w a N id r hs hd hn hb
            | false =>
              obtain ⟨b1, b2⟩ := bnd_region hb
              refine wp_region_list (evalOps_ok TO EO b1 ops.toList σ H σ2 H2 b2 he G w a r hs hd hn fun a' w' G' h1 h2 h3 h4 => ⟨rfl, G', h1, h2, h3, h4⟩)
    · intro body rest σ H out σ' H' u h G w a N r hs hd hn hb hb2
      simp only [evalW] at h
      cases hc : evalW P T ext draw n (.code rest) (σ, H) with
      | none => simp [hc] at h
      | some q =>
        obtain ⟨o1, ⟨σ1, H1⟩, u1⟩ := q
        have hwp := S.code rest σ H o1 σ1 H1 u1 hc G w a N r hs hd hn hb2
        simp only [hc] at h
        cases o1 with
        | goto l =>
          simp only at h
          refine sc_ok hwp (fun _ _ q => by cases q.1) (fun _ _ _ q => by cases q.1) (fun _ _ q => by cases q.1) (fun _ _ _ q => by cases q.1) (fun _ _ q => by cases q.1) fun l' a' w' q => ?_
          obtain ⟨he, G', g1, g2, g3, g4⟩ := q
          obtain rfl : l' = l := by simpa [toExit] using he
          cases hf : findLabel body l' with
          | some rest' =>
            simp only [hf] at h
            refine .inl ⟨rest', rfl, ?_⟩
            have := S.sc body rest' σ1 H1 out σ' H' u h G' w' a' N g4.rel g1 g2 g3 hb (bnd_find hb hf)
            intro b k cs
            obtain ⟨e, a2, w2, hq, harr⟩ := this b k cs
            exact ⟨e, a2, w2, hq.trans g4, harr⟩
          | none =>
            simp only [hf, Option.some.injEq, Prod.mk.injEq] at h
            obtain ⟨rfl, ⟨rfl, rfl⟩, _⟩ := h
            exact .inr ⟨rfl, rfl, G', g1, g2, g3, g4⟩
        | norm =>
          simp only [Option.some.injEq, Prod.mk.injEq] at h
          obtain ⟨rfl, ⟨rfl, rfl⟩, _⟩ := h
          exact sc_ok hwp (fun _ _ q => q) (fun _ _ _ q => by cases q.1) (fun _ _ q => by cases q.1) (fun _ _ _ q => by cases q.1) (fun _ _ q => by cases q.1) (fun _ _ _ q => by cases q.1)
        | exit id =>
          simp only [Option.some.injEq, Prod.mk.injEq] at h
          obtain ⟨rfl, ⟨rfl, rfl⟩, _⟩ := h
          exact sc_ok hwp (fun _ _ q => by cases q.1) (fun _ _ _ q => q) (fun _ _ q => by cases q.1) (fun _ _ _ q => by cases q.1) (fun _ _ q => by cases q.1) (fun _ _ _ q => by cases q.1)
        | ret =>
          simp only [Option.some.injEq, Prod.mk.injEq] at h
          obtain ⟨rfl, ⟨rfl, rfl⟩, _⟩ := h
          exact sc_ok hwp (fun _ _ q => by cases q.1) (fun _ _ _ q => by cases q.1) (fun _ _ q => q) (fun _ _ _ q => by cases q.1) (fun _ _ q => by cases q.1) (fun _ _ _ q => by cases q.1)
    · intro f args σ H out σ' H' v h G w vs r hv
      simp only [evalW] at h
      cases hf : P.funcs[f]? with
      | none => simp [hf] at h
      | some fn =>
        simp only [hf] at h
        cases hb : fn.body with
        | none => simp [hb] at h
        | some c =>
          simp only [hb] at h
          by_cases hlen : args.length ≤ fn.ntmps ∧ bnd fn.ntmps c = true
          · rw [if_pos hlen] at h
            refine ⟨⟨fn, c, rfl, hb⟩, ?_⟩
            cases hc : evalW P T ext draw n (.code c) (frame0 args, H) with
            | none => simp [hc] at h
            | some q =>
              obtain ⟨o1, ⟨σ1, H1⟩, u1⟩ := q
              have hsz : (vs.toArray ++ Array.replicate (fn.ntmps - vs.toArray.size) undef).size = fn.ntmps := by
                have := hv.1
                simp; omega
              have hwp := S.code c _ H o1 σ1 H1 u1 hc G w { tmps := vs.toArray ++ Array.replicate (fn.ntmps - vs.toArray.size) undef, defers := [] } fn.ntmps r (frame_ok hv _) rfl hsz hlen.2
              refine calls_of_wp hf hb (wp_mono hwp fun e a' w' hp => ?_)
              obtain ⟨rfl, G', g1, g2, g3, g4⟩ := hp
              have key : ∀ vs', resD T σ1 H1 fn.results.toList = some vs' → H1 = H' → resOne vs' = v → ∃ x, (results fn a'.tmps).run P w' = .ok x w' ∧ V G' v x := by
                intro vs' hr hH hvv
                obtain ⟨rs, k1, k2⟩ := res_ok TO g4.rel g1 hr
                have hmap : (fn.results.mapM fun (y : ResultVar) => (match y with | .tmp t => pure (a'.tmps.getD t undef) | .cell x t => do loadVar t (← asAddr (a'.tmps.getD x undef)) : Sem Value)).run P w' = .ok rs.toArray w' := by
                  rw [Array.mapM_eq_mapM_toList]
                  simp only [Sem.run_map, k1, Result.andThen_ok]
                refine ⟨if h : rs.toArray.size = 1 then rs.toArray[0] else .tuple rs.toArray, ?_, ?_⟩
                · unfold results
                  rw [Sem.run_bind]
                  refine (congrArg (fun r => Result.andThen r _) hmap).trans ?_
                  rfl
                · subst hvv
                  cases vs' with
                  | nil =>
                    obtain rfl := k2.nil_inv
                    exact V.tup (vs := []) rfl (fun i d v h => by simp at h)
                  | cons d1 r1 =>
                    obtain ⟨v1, rs1, rfl, m1, m2⟩ := k2.cons_inv
                    cases r1 with
                    | nil =>
                      obtain rfl := m2.nil_inv
                      simpa [resOne] using m1
                    | cons d2 r2 =>
                      obtain ⟨v2, rs2, rfl, m3, m4⟩ := m2.cons_inv
                      have hne : ¬ (v1 :: v2 :: rs2).toArray.size = 1 := by simp
                      rw [dif_neg hne]
                      exact V.tup k2.1 k2.2
              simp only [hc] at h
              cases o1 with
              | norm =>
                simp only at h
                cases hr : resD T σ1 H1 fn.results.toList with
                | none => simp [hr] at h
                | some vs' =>
                  simp only [hr, Option.some.injEq, Prod.mk.injEq] at h
                  obtain ⟨_, ⟨rfl, rfl⟩, h3⟩ := h
                  obtain ⟨x, hx, hvx⟩ := key vs' hr rfl h3
                  exact ⟨g2, x, hx, x, G', rfl, hvx, g4⟩
              | ret =>
                simp only at h
                cases hr : resD T σ1 H1 fn.results.toList with
                | none => simp [hr] at h
                | some vs' =>
                  simp only [hr, Option.some.injEq, Prod.mk.injEq] at h
                  obtain ⟨_, ⟨rfl, rfl⟩, h3⟩ := h
                  obtain ⟨x, hx, hvx⟩ := key vs' hr rfl h3
                  exact ⟨g2, x, hx, x, G', rfl, hvx, g4⟩
              | exit id => simp at h
              | goto l => simp at h
          · rw [if_neg hlen] at h; cases h
end
end Go.Proofs.YtcknfhhbijlobaaDoor.D
