/- D: symbolic execution by rewriting. -/
import Derived.Test.YtcknfhhbijlobaaDoorDLite
namespace Go.Proofs.YtcknfhhbijlobaaDoor.D
open Go
set_option linter.unusedVariables false
set_option linter.unusedSimpArgs false

abbrev Sg := Nat → DV
abbrev Pt := Sg → DH → Prop
/-- What comes later: simp does not look into it. -/
inductive Later {α : Type} : α → Type where
  | mk (a : α) : Later a
def WD {K : DV → Prop} (x : Option DV) (b : Later K) : Prop := match x with | some v => K v | none => False
def WX {K : DV → DH → Prop} (x : Option (DV × DH)) (b : Later K) : Prop := match x with | some p => K p.1 p.2 | none => False
def WR {K : List DV → Prop} (x : Option (List DV)) (b : Later K) : Prop := match x with | some v => K v | none => False
def WL {K : Option DV → Prop} (x : Option (Option DV)) (b : Later K) : Prop := match x with | some v => K v | none => False
def WP {K : List (Nat × DV) → Prop} (x : Option (List (Nat × DV))) (b : Later K) : Prop := match x with | some v => K v | none => False
def WH {K : DH → Prop} (x : Option DH) (b : Later K) : Prop := match x with | some v => K v | none => False
def WT {f : Bool → Prop} (v : DV) (b : Later f) : Prop := match v with | .bool b => f b | _ => False
def WK (C : Cfg) (f : FuncId) (a : List DV) (H : DH) {K : DV → DH → Prop} (b : Later K) : Prop := WC C f a H K
/-- Both ways. -/
def WIf {a b : Prop} (t : Bool) (l : Later (a, b)) : Prop := (t = true → a) ∧ (t = false → b)
/-- What is to hold by how code ends. -/
def KK (n : Pt) (e g : Nat → Pt) (r : Pt) : Out → Sg → DH → Prop := fun o σ H => match o with | .norm => n σ H | .exit i => e i σ H | .goto l => g l σ H | .ret => r σ H
def Y (C : Cfg) (c : Code) (σ : Sg) (H : DH) (n : Pt) (e g : Nat → Pt) (r : Pt) (p : Later (c, n, e, g, r)) : Prop := W C (lite c) σ H (KK n e g r)
def YS (C : Cfg) (b c : Code) (σ : Sg) (H : DH) (n : Pt) (e g : Nat → Pt) (r : Pt) (p : Later (b, c, n, e, g, r)) : Prop := WS C (lite b) (lite c) σ H (KK n e g r)
theorem WT_bool {b : Bool} {f : Bool → Prop} {p : Later f} : WT (.bool b) p = f b := rfl
theorem WIf_t {a b : Prop} {l : Later (a, b)} : WIf true l = a := by simp [WIf]
theorem WIf_f {a b : Prop} {l : Later (a, b)} : WIf false l = b := by simp [WIf]
theorem WIf_dec {c a b : Prop} [Decidable c] {l : Later (a, b)} : WIf (decide c) l = ((c → a) ∧ (¬ c → b)) := by
  unfold WIf; by_cases h : c <;> simp [h]
theorem WIf_not {a b : Prop} {t : Bool} {l : Later (a, b)} : WIf (!t) l = WIf t (.mk (b, a)) := by cases t <;> simp [WIf]
theorem WIf_beq {α : Type} [BEq α] [LawfulBEq α] {x y : α} {a b : Prop} {l : Later (a, b)} : WIf (x == y) l = ((x = y → a) ∧ (¬ x = y → b)) := by
  unfold WIf; simp
theorem WIf_bne {α : Type} [BEq α] [LawfulBEq α] {x y : α} {a b : Prop} {l : Later (a, b)} : WIf (x != y) l = ((x = y → b) ∧ (¬ x = y → a)) := by
  unfold WIf; by_cases h : x = y <;> simp [h]
theorem WIf_and {x y : Bool} {a b : Prop} {l : Later (a, b)} : WIf (x && y) l = WIf x (.mk (WIf y l, b)) := by cases x <;> cases y <;> simp [WIf]
theorem WIf_or {x y : Bool} {a b : Prop} {l : Later (a, b)} : WIf (x || y) l = WIf x (.mk (a, WIf y l)) := by cases x <;> cases y <;> simp [WIf]
theorem WD_some {v : DV} {K : DV → Prop} {b : Later K} : WD (some v) b = K v := rfl
theorem WX_some {v : DV} {H : DH} {K : DV → DH → Prop} {b : Later K} : WX (some (v, H)) b = K v H := rfl
theorem WR_some {v : List DV} {K : List DV → Prop} {b : Later K} : WR (some v) b = K v := rfl
theorem WL_some' {v : Option DV} {K : Option DV → Prop} {b : Later K} : WL (some v) b = K v := rfl
theorem WP_some {v : List (Nat × DV)} {K : List (Nat × DV) → Prop} {b : Later K} : WP (some v) b = K v := rfl
theorem WH_some {v : DH} {K : DH → Prop} {b : Later K} : WH (some v) b = K v := rfl
theorem WX_ifn {c : Prop} [Decidable c] {x : Option (DV × DH)} {K : DV → DH → Prop} {b : Later K} : WX (if c then x else none) b = (c ∧ WX x b) := by
  apply propext; by_cases h : c <;> simp [h, WX]
theorem WD_ifn {c : Prop} [Decidable c] {x : Option DV} {K : DV → Prop} {b : Later K} : WD (if c then x else none) b = (c ∧ WD x b) := by
  apply propext; by_cases h : c <;> simp [h, WD]
theorem WH_ifn {c : Prop} [Decidable c] {x : Option DH} {K : DH → Prop} {b : Later K} : WH (if c then x else none) b = (c ∧ WH x b) := by
  apply propext; by_cases h : c <;> simp [h, WH]
theorem WD_nif {c : Prop} [Decidable c] {x : Option DV} {K : DV → Prop} {b : Later K} : WD (if c then none else x) b = (¬ c ∧ WD x b) := by
  apply propext; by_cases h : c <;> simp [h, WD]
theorem WX_if {c : Prop} [Decidable c] {x y : Option (DV × DH)} {K : DV → DH → Prop} {b : Later K} : WX (if c then x else y) b = WIf (decide c) (.mk (WX x b, WX y b)) := by
  apply propext; by_cases h : c <;> simp [h, WIf]
theorem WD_if {c : Prop} [Decidable c] {x y : Option DV} {K : DV → Prop} {b : Later K} : WD (if c then x else y) b = WIf (decide c) (.mk (WD x b, WD y b)) := by
  apply propext; by_cases h : c <;> simp [h, WIf]
theorem WX_map {x : Option DV} {H : DH} {K : DV → DH → Prop} {b : Later K} : WX (x.map (·, H)) b = WD x (.mk fun v => K v H) := by cases x <;> rfl

variable {C : Cfg} {σ : Sg} {H : DH} {n : Pt} {e g : Nat → Pt} {r : Pt}
theorem KK_seq {b : Code} : (fun o σ' H' => if o = Out.norm then W C b σ' H' (KK n e g r) else KK n e g r o σ' H') = KK (fun σ H => W C b σ H (KK n e g r)) e g r := by
  funext o σ H
  cases o <;> simp [KK]
theorem Y_skip {p : Later (Code.skip, n, e, g, r)} : Y C .skip σ H n e g r p = n σ H := propext W_skip
theorem Y_label {l : Nat} {p : Later (Code.label l, n, e, g, r)} : Y C (.label l) σ H n e g r p = n σ H := propext W_label
theorem Y_ret {p : Later (Code.ret, n, e, g, r)} : Y C .ret σ H n e g r p = r σ H := propext W_ret
theorem Y_exit {i : Nat} {p : Later (Code.exit i, n, e, g, r)} : Y C (.exit i) σ H n e g r p = e i σ H := propext W_exit
theorem Y_goto {l : Nat} {p : Later (Code.goto l, n, e, g, r)} : Y C (.goto l) σ H n e g r p = g l σ H := propext W_goto
theorem Y_seq {a b : Code} {p : Later (Code.seq a b, n, e, g, r)} : Y C (.seq a b) σ H n e g r p = Y C a σ H (fun σ H => Y C b σ H n e g r (.mk _)) e g r (.mk _) := by
  unfold Y; rw [lite, propext W_seq, KK_seq]
theorem Y_cond {x : Operand} {a b : Code} {p : Later (Code.cond x a b, n, e, g, r)} : Y C (.cond x a b) σ H n e g r p = WD (opd σ x) (.mk fun v => WT v (.mk fun t => WIf t (.mk (Y C a σ H n e g r (.mk _), Y C b σ H n e g r (.mk _))))) := by
  unfold Y; rw [lite, propext W_cond]
  apply propext
  unfold WB WIf WD WT
  cases opd σ x with
  | none => simp
  | some v => cases v <;> simp
theorem Y_block {i : Nat} {c : Code} {p : Later (Code.block i c, n, e, g, r)} : Y C (.block i c) σ H n e g r p = Y C c σ H n (fun j σ H => WIf (decide (j = i)) (.mk (n σ H, e j σ H))) g r (.mk _) := by
  unfold Y; rw [lite, propext W_block]
  congr 1
  funext o σ H
  cases o with
  | exit j => by_cases h : j = i <;> simp [KK, WIf, h]
  | _ => simp [KK]
/-- That a region's order does not count. -/
structure DrawYes (C : Cfg) (l : List Oper) : Prop where
  look : C.draw l.toArray = true
theorem Y_region_t {id : Nat} {l : List Oper} {p : Later (Code.region id l.toArray true, n, e, g, r)} (h : DrawYes C l) : Y C (.region id l.toArray true) σ H n e g r p = WO C l.toArray l σ H n := by
  unfold Y; rw [lite, if_pos rfl, propext W_region]
  have hl : l = l.toArray.toList := rfl
  rw [← hl]
  unfold WO
  simp [KK, h.look]
theorem Y_region {id : Nat} {l : List Oper} {p : Later (Code.region id l.toArray false, n, e, g, r)} : Y C (.region id l.toArray false) σ H n e g r p = WO C l.toArray l σ H n := by
  unfold Y; rw [lite, if_neg (by simp), propext W_region]
  have hl : l = l.toArray.toList := rfl
  generalize hq : l.toArray = ops
  have : l = ops.toList := by rw [← hq]
  subst this
  unfold WO
  rw [evalOps_lite]
  simp [KK]
theorem Y_scope {c : Code} {p : Later (Code.scope c, n, e, g, r)} : Y C (.scope c) σ H n e g r p = YS C c c σ H n e g r (.mk _) := by
  unfold Y YS; rw [lite, propext W_scope]
/-- Where a goto leads, within a scope. -/
def Hd (C : Cfg) (b : Code) (n : Pt) (e g : Nat → Pt) (r : Pt) (p : Later (b, n, e, g, r)) : Nat → Pt := fun l σ H => match findLabel b l with
  | some q => YS C b q σ H n e g r (.mk _)
  | none => g l σ H
theorem Hd_goto {b q : Code} {l : Nat} {p : Later (b, n, e, g, r)} (h : findLabel b l = some q) (k : YS C b q σ H n e g r (.mk _)) : Hd C b n e g r p l σ H := by unfold Hd; rw [h]; exact k
theorem YS_eq {b c : Code} {p : Later (b, c, n, e, g, r)} : YS C b c σ H n e g r p = Y C c σ H n e (Hd C b n e g r (.mk _)) r (.mk _) := by
  unfold Y YS; rw [propext WS_iff]
  congr 1
  funext o σ H
  cases o with
  | goto l => simp only [KK, findLabel_lite, Hd]; cases findLabel b l <;> rfl
  | _ => rfl
/-- A loop: 'I a': what holds at its head, for some a of a measure that grows less. -/
theorem Y_loop {α : Type} {c : Code} {p : Later (Code.loop c, n, e, g, r)} (I : α → Pt) (μ : α → Nat) (a : α) (h : I a σ H)
    (round : ∀ a σ H, I a σ H → Y C c σ H (fun σ' H' => ∃ a', I a' σ' H' ∧ μ a' < μ a) e g r (.mk _)) : Y C (.loop c) σ H n e g r p := by
  have : ∀ m a σ H, μ a = m → I a σ H → Y C (.loop c) σ H n e g r p := by
    intro m
    induction m using Nat.strongRecOn with
    | _ m ih =>
      intro a σ H hm hI
      have hr := round a σ H hI
      unfold Y at hr ⊢
      obtain ⟨o, s, v, h1, h2⟩ := hr
      unfold W
      rw [lite, run_eq]; simp only [stepW, h1]
      cases o with
      | norm =>
        obtain ⟨a', h3, h4⟩ := h2
        have := ih _ (hm ▸ h4) a' s.1 s.2 rfl h3
        exact this
      | _ => exact ⟨_, _, _, rfl, h2⟩
  exact this _ a σ H rfl h
/-- A loop, once round. -/
theorem Y_loop1 {c : Code} {p : Later (Code.loop c, n, e, g, r)} (h : Y C c σ H (fun σ H => Y C (.loop c) σ H n e g r p) e g r (.mk _)) : Y C (.loop c) σ H n e g r p := by
  unfold Y at h ⊢
  obtain ⟨o, s, v, h1, h2⟩ := h
  unfold W
  rw [lite, run_eq]; simp only [stepW, h1]
  cases o with
  | norm => exact h2
  | _ => exact ⟨_, _, _, rfl, h2⟩
theorem Y_mono {c : Code} {n' : Pt} {e' g' : Nat → Pt} {r' : Pt} {p : Later (c, n, e, g, r)} {p' : Later (c, n', e', g', r')} (h : Y C c σ H n e g r p) (hn : ∀ σ H, n σ H → n' σ H) (he : ∀ i σ H, e i σ H → e' i σ H) (hg : ∀ i σ H, g i σ H → g' i σ H) (hr : ∀ σ H, r σ H → r' σ H) : Y C c σ H n' e' g' r' p' := by
  refine W_mono h ?_
  intro o σ H
  cases o <;> simp only [KK] <;> first | exact hn _ _ | exact he _ _ _ | exact hg _ _ _ | exact hr _ _

/-- A place that a goto leads back to: 'I a': what holds there. -/
def YAt (C : Cfg) (L : Nat) (c : Code) (σ : Sg) (H : DH) (n : Pt) (e g : Nat → Pt) (r : Pt) (p : Later (c, n, e, g, r)) : Prop := Y C (.seq (.label L) c) σ H n e g r (.mk _)
theorem Y_at {L : Nat} {c : Code} {p : Later (Code.seq (.label L) c, n, e, g, r)} : Y C (.seq (.label L) c) σ H n e g r p = YAt C L c σ H n e g r (.mk _) := rfl
theorem YAt_eq {L : Nat} {c : Code} {p : Later (c, n, e, g, r)} : YAt C L c σ H n e g r p = Y C c σ H n e g r (.mk _) := by
  unfold YAt; rw [Y_seq, Y_label]
theorem YAt_loop {α : Type} {b c : Code} {L : Nat} {p : Later (c, n, e, Hd C b n e g r (.mk _), r)} (I : α → Pt) (μ : α → Nat) (a : α) (hf : ∃ q, findLabel b L = some (.seq q c) ∧ (q = .skip ∨ q = .label L)) (h : I a σ H)
    (round : ∀ a σ H, I a σ H → Y C c σ H n e (fun l σ' H' => if l = L then ∃ a', I a' σ' H' ∧ μ a' < μ a else Hd C b n e g r (.mk _) l σ' H') r (.mk _)) : YAt C L c σ H n e (Hd C b n e g r (.mk _)) r p := by
  rw [YAt_eq]
  obtain ⟨q, hq, hqq⟩ := hf
  have : ∀ m a σ H, μ a = m → I a σ H → Y C c σ H n e (Hd C b n e g r (.mk _)) r (.mk _) := by
    intro m
    induction m using Nat.strongRecOn with
    | _ m ih =>
      intro a σ H hm hI
      refine Y_mono (round a σ H hI) (fun _ _ h => h) (fun _ _ _ h => h) (fun l σ' H' hl => ?_) (fun _ _ h => h)
      split at hl
      · rename_i e1
        subst e1
        obtain ⟨a', h1, h2⟩ := hl
        refine Hd_goto hq ?_
        rw [YS_eq, Y_seq]
        have := ih _ (hm ▸ h2) a' σ' H' rfl h1
        rcases hqq with rfl | rfl
        · rw [Y_skip]; exact this
        · rw [Y_label]; exact this
      · exact hl
  exact this _ a σ H rfl h
/-- What a function is. -/
structure Has (C : Cfg) (f : FuncId) (n : Nat) (res : List ResultVar) (c : Code) : Prop where
  ext : C.ext f = none
  is : ∃ (fn : Func), C.P.funcs[f]? = some fn ∧ fn.body = some c ∧ fn.ntmps = n ∧ fn.results.toList = res ∧ bnd n c = true
theorem WC_of {f : FuncId} {n : Nat} {res : List ResultVar} {c : Code} {args : List DV} {K : DV → DH → Prop} (h : Has C f n res c) (hl : args.length ≤ n)
    (k : Y C c (frame0 args) H (fun σ H => WR (resD C.T σ H res) (.mk fun vs => K (resOne vs) H)) (fun _ _ _ => False) (fun _ _ _ => False) (fun σ H => WR (resD C.T σ H res) (.mk fun vs => K (resOne vs) H)) (.mk _)) : WC C f args H K := by
  obtain ⟨hx, fn, h1, h2, rfl, rfl, h5⟩ := h
  refine WC_body hx h1 h2 h5 hl ?_
  unfold Y at k
  rw [W_lite] at k
  refine W_mono k ?_
  intro o σ H hr
  have go : WR (resD C.T σ H fn.results.toList) (.mk fun vs => K (resOne vs) H) → ∃ vs, resD C.T σ H fn.results.toList = some vs ∧ K (resOne vs) H := by
    intro hr
    cases hq : resD C.T σ H fn.results.toList with
    | none => rw [hq] at hr; exact hr.elim
    | some vs => rw [hq] at hr; exact ⟨vs, rfl, hr⟩
  cases o with
  | norm => exact ⟨.inl rfl, go hr⟩
  | ret => exact ⟨.inr rfl, go hr⟩
  | exit i => exact hr.elim
  | goto l => exact hr.elim
/-- A call, by what is known of it. -/
theorem call {f : FuncId} {a : List DV} {K K' : DV → DH → Prop} {b : Later K'} (h : WC C f a H K) (k : ∀ v H, K v H → K' v H) : WK C f a H b := WC_mono h k
/-- A call whose result is known, as a rule. -/
theorem WK_det {f : FuncId} {a : List DV} {u : DV} {K : DV → DH → Prop} {b : Later K} (h : WC C f a H fun v H' => v = u ∧ H' = H) : WK C f a H b = K u H := by
  obtain ⟨v, H', h1, rfl, rfl⟩ := h
  apply propext
  unfold WK WC
  constructor
  · rintro ⟨v, H'', h2, h3⟩
    rw [h1] at h2
    cases h2; exact h3
  · intro h; exact ⟨_, _, h1, h⟩
theorem WR_nil {T : Tab} {K : List DV → Prop} {b : Later K} : WR (resD T σ H []) b = K [] := rfl
theorem WR_tmp {T : Tab} {t : Tmp} {l : List ResultVar} {K : List DV → Prop} {b : Later K} : WR (resD T σ H (.tmp t :: l)) b = WR (resD T σ H l) (.mk fun vs => K (σ t :: vs)) := by
  simp only [resD]; cases resD T σ H l <;> rfl
theorem WR_cell {T : Tab} {a : Tmp} {t : TypeId} {l : List ResultVar} {K : List DV → Prop} {b : Later K} : WR (resD T σ H (.cell a t :: l)) b = WD (loadD T t (σ a) H) (.mk fun v => WR (resD T σ H l) (.mk fun vs => K (v :: vs))) := by
  simp only [resD]; cases loadD T t (σ a) H <;> cases resD T σ H l <;> simp [WR, WD]
theorem resOne_1 {v : DV} : resOne [v] = v := rfl
theorem resOne_2 {v u : DV} {l : List DV} : resOne (v :: u :: l) = .tup (v :: u :: l) := rfl
theorem resOne_0 : resOne [] = .tup [] := rfl

/- Regions. -/
variable {ops : Array Oper} {l : List Oper} {K : Pt}
theorem O_nil : WO C ops [] σ H K = K σ H := propext WO_nil
theorem O_1 {d : Nat} {o : Op} {t : TypeId} {p : String} {a : Array Edge} : WO C ops ({ dst := some d, op := o, type := t, pos := p, after := a, guard := none } :: l) σ H K = W1 C o σ H fun v H' => WO C ops l (upd σ d v) H' K := propext (WO_step rfl)
theorem O_0 {o : Op} {t : TypeId} {p : String} {a : Array Edge} : WO C ops ({ dst := none, op := o, type := t, pos := p, after := a, guard := none } :: l) σ H K = W1 C o σ H fun v H' => WO C ops l σ H' K := propext (WO_step rfl)
/-- The slot that a guard looks at. -/
def gslot (ops : Array Oper) (j : Nat) : Option Nat := (ops[j]?).bind (·.dst)
def WG {f : Bool → Prop} {u : Prop} (x : DV) (l : Later (f, u)) : Prop := match x with | .bool b => f b | .tup [] => u | _ => False
theorem WG_bool {b : Bool} {f : Bool → Prop} {u : Prop} {l : Later (f, u)} : WG (.bool b) l = f b := rfl
theorem WG_undef {f : Bool → Prop} {u : Prop} {l : Later (f, u)} : WG (.tup []) l = u := rfl
def WGs {f : Bool → Prop} {u : Prop} (s : Option Nat) (σ : Sg) (l : Later (f, u)) : Prop := match s with | some s => WG (σ s) l | none => u
theorem WGs_some {s : Nat} {f : Bool → Prop} {u : Prop} {l : Later (f, u)} : WGs (some s) σ l = WG (σ s) l := rfl
theorem gslot_succ {o : Oper} {l : List Oper} {j : Nat} : gslot (List.toArray (o :: l)) (j + 1) = gslot (List.toArray l) j := by simp [gslot]
theorem gslot_zero {o : Oper} {l : List Oper} : gslot (List.toArray (o :: l)) 0 = o.dst := by simp [gslot]
theorem O_gt {d : Option Nat} {o : Op} {t : TypeId} {p : String} {a : Array Edge} {j : Nat} :
    WO C ops ({ dst := d, op := o, type := t, pos := p, after := a, guard := some (j, true) } :: l) σ H K =
      WGs (gslot ops j) σ (.mk (fun b => WIf b (.mk (W1 C o σ H fun v H' => WO C ops l (put σ d v) H' K, WO C ops l (put σ d undefD) H K)), WO C ops l (put σ d undefD) H K)) := by
  rw [propext WO_cons]
  have hs : (ops[j]?).bind (·.dst) = gslot ops j := rfl
  simp only [wantedD, hs]
  cases gslot ops j with
  | none => simp [WGs]
  | some s =>
    simp only [WGs]
    generalize σ s = x
    cases x with
    | bool b => cases b <;> simp [WG, WIf]
    | tup vs => cases vs <;> simp [WG]
    | _ => simp [WG]
theorem O_gf {d : Option Nat} {o : Op} {t : TypeId} {p : String} {a : Array Edge} {j : Nat} :
    WO C ops ({ dst := d, op := o, type := t, pos := p, after := a, guard := some (j, false) } :: l) σ H K =
      WGs (gslot ops j) σ (.mk (fun b => WIf b (.mk (WO C ops l (put σ d undefD) H K, W1 C o σ H fun v H' => WO C ops l (put σ d v) H' K)), WO C ops l (put σ d undefD) H K)) := by
  rw [propext WO_cons]
  have hs : (ops[j]?).bind (·.dst) = gslot ops j := rfl
  simp only [wantedD, hs]
  cases gslot ops j with
  | none => simp [WGs]
  | some s =>
    simp only [WGs]
    generalize σ s = x
    cases x with
    | bool b => cases b <;> simp [WG, WIf]
    | tup vs => cases vs <;> simp [WG]
    | _ => simp [WG]
theorem put_some {d : Nat} {v : DV} : put σ (some d) v = upd σ d v := rfl
theorem put_none {v : DV} : put σ none v = σ := rfl
theorem upd_get {d i : Nat} {v : DV} : upd σ d v i = if i = d then v else σ i := rfl

/- Operands. -/
theorem opd_tmp {t : Tmp} : opd σ (.tmp t) = some (σ t) := rfl
theorem opd_const {v : Value} : opd σ (.const v) = constD v := rfl
theorem opd_func {f : FuncId} : opd σ (.func f) = some (.fn (.func f) [] []) := rfl
theorem cD_bool {b : Bool} : constD (.bool b) = some (.bool b) := rfl
theorem cD_int {k : IntKind} {n : Int} : constD (.int k n) = some (.int k n) := rfl
theorem cD_flt {k : FloatKind} {n : Nat} : constD (.float k n) = some (.flt k n) := rfl
theorem cD_str {a : List UInt8} : constD (.string ⟨a.toArray⟩) = some (.str a) := by simp [constD]
theorem cD_nilp : constD (.pointer none) = some .nilp := rfl
theorem cD_nils : constD (.slice none 0 0) = some .nils := rfl
theorem cD_nilf : constD .nilFunc = some .nilf := rfl
theorem cD_nili : constD .nilIface = some .nili := rfl
theorem cD_nilm : constD (.map none) = some .nilm := rfl
theorem opds_nil : opds σ [] = some [] := rfl
theorem opds_cons {x : Operand} {l : List Operand} {K : List DV → Prop} {b : Later K} : WR (opds σ (x :: l)) b = WD (opd σ x) (.mk fun v => WR (opds σ l) (.mk fun vs => K (v :: vs))) := by
  simp only [opds]; cases opd σ x <;> cases opds σ l <;> simp [WD, WR]
theorem parts_nil : opdParts σ [] = some [] := rfl
theorem parts_cons {i : Nat} {x : Operand} {l : List (Nat × Operand)} {K : List (Nat × DV) → Prop} {b : Later K} : WP (opdParts σ ((i, x) :: l)) b = WD (opd σ x) (.mk fun v => WP (opdParts σ l) (.mk fun vs => K ((i, v) :: vs))) := by
  simp only [opdParts]; cases opd σ x <;> cases opdParts σ l <;> simp [WD, WP]
def isSome' : DV → Prop
  | .ptr _ _ | .ip _ | .fn (.func _) _ _ => True
  | _ => False
def tupAt : DV → Nat → Option DV
  | .tup vs, i => vs[i]?
  | _, _ => none
/- Operations. -/
variable {J : DV → DH → Prop}
theorem W1_eq {o : Op} : W1 C o σ H J = WX (evalOp C.T (callF C) o σ H) (.mk J) := by
  apply propext; unfold W1 WX
  cases evalOp C.T (callF C) o σ H with
  | none => simp
  | some q =>
    obtain ⟨a, b⟩ := q
    simp only [Option.some.injEq, Prod.mk.injEq]
    constructor
    · rintro ⟨v, H', ⟨rfl, rfl⟩, h⟩; exact h
    · intro h; exact ⟨a, b, ⟨rfl, rfl⟩, h⟩
theorem s_move {x : Operand} : W1 C (.move x) σ H J = WD (opd σ x) (.mk fun v => J v H) := by rw [W1_eq]; exact WX_map
theorem s_assign {x : Operand} : W1 C (.assign x) σ H J = WD (opd σ x) (.mk fun v => J v H) := by rw [W1_eq]; exact WX_map
theorem s_pick {c a b : Operand} : W1 C (.pick c a b) σ H J = WD (opd σ c) (.mk fun v => WT v (.mk fun t => WIf t (.mk (WD (opd σ a) (.mk fun v => J v H), WD (opd σ b) (.mk fun v => J v H))))) := by
  rw [W1_eq]; simp only [evalOp]
  cases opd σ c with
  | none => rfl
  | some v =>
    cases v with
    | bool t =>
      simp only [WD_some, WT_bool]
      cases t with
      | true => rw [WIf_t]; exact WX_map
      | false => rw [WIf_f]; exact WX_map
    | _ => rfl
theorem s_bin {op : BinOp} {t u : TypeId} {x y : Operand} : W1 C (.binOp op t x y u) σ H J = WD (opd σ x) (.mk fun a => WD (opd σ y) (.mk fun b => WD (binD C.T op t x y a b) (.mk fun v => J v H))) := by
  rw [W1_eq]; simp only [evalOp]
  cases opd σ x <;> cases opd σ y <;> first | rfl | exact WX_map
theorem s_un {op : UnOp} {t : TypeId} {x : Operand} : W1 C (.unOp op t x) σ H J = WD (opd σ x) (.mk fun a => WD (unD op a) (.mk fun v => J v H)) := by
  rw [W1_eq]; simp only [evalOp]
  cases opd σ x <;> first | rfl | exact WX_map
theorem s_conv {s d : TypeId} {x : Operand} : W1 C (.convert s d x) σ H J = ((C.T.und s).isSome = true ∧ WD (opd σ x) (.mk fun v => WX (convD C.T s d v H) (.mk J))) := by
  rw [W1_eq]; simp only [evalOp]
  cases C.T.und s <;> cases opd σ x <;> simp [WD, WX]
theorem WL_none {K : Option DV → Prop} {b : Later K} : WL (optOpd σ none) b = K none := rfl
theorem WL_some {x : Operand} {K : Option DV → Prop} {b : Later K} : WL (optOpd σ (some x)) b = WD (opd σ x) (.mk fun v => K (some v)) := by
  simp only [optOpd]; cases opd σ x <;> rfl
theorem s_slice {t : TypeId} {x : Operand} {lo hi : Option Operand} : W1 C (.slice t x lo hi none) σ H J = WD (opd σ x) (.mk fun v => WL (optOpd σ lo) (.mk fun a => WL (optOpd σ hi) (.mk fun b => WD (sliceD C.T t v a b) (.mk fun v => J v H)))) := by
  rw [W1_eq]; simp only [evalOp]
  cases opd σ x with
  | none => rfl
  | some v => cases optOpd σ lo <;> cases optOpd σ hi <;> first | rfl | exact WX_map
theorem s_alloc {t : TypeId} : W1 C (.alloc t) σ H J = WD (C.T.zero t) (.mk fun z => z.cells.all DV.one = true ∧ J (.ptr H.next 0) (H.new (.cells t z.cells))) := by
  rw [W1_eq]; simp only [evalOp]
  cases C.T.zero t with
  | none => rfl
  | some z => exact WX_ifn
theorem s_box {t : TypeId} {x : Operand} : W1 C (.box t x) σ H J = WD (opd σ x) (.mk fun z => z.cells.all DV.one = true ∧ J (.ptr H.next 0) (H.new (.cells t z.cells))) := by
  rw [W1_eq]; simp only [evalOp]
  cases opd σ x with
  | none => rfl
  | some z => exact WX_ifn
theorem s_build {t : TypeId} {ps : Array (Nat × Operand)} : W1 C (.build t ps) σ H J = WP (opdParts σ ps.toList) (.mk fun l => WD (buildD C.T t l) (.mk fun v => J v H)) := by
  rw [W1_eq]; simp only [evalOp]
  cases opdParts σ ps.toList with
  | none => rfl
  | some l => exact WX_map
theorem s_buildSlice {t : TypeId} {m : Nat} {ps : Array (Nat × Operand)} : W1 C (.buildSlice t m ps) σ H J = WP (opdParts σ ps.toList) (.mk fun l => WX (buildSliceD C.T t m l H) (.mk J)) := by
  rw [W1_eq]; simp only [evalOp]
  cases opdParts σ ps.toList <;> rfl
theorem s_load {t : TypeId} {a : Operand} : W1 C (.load t a) σ H J = WD (opd σ a) (.mk fun p => WD (loadD C.T t p H) (.mk fun v => J v H)) := by
  rw [W1_eq]; simp only [evalOp]
  cases opd σ a with
  | none => rfl
  | some l => exact WX_map
theorem s_store {t : TypeId} {a x : Operand} : W1 C (.store t a x) σ H J = WD (opd σ a) (.mk fun p => WD (opd σ x) (.mk fun v => WH (storeD C.T t p v H) (.mk fun H' => J undefD H'))) := by
  rw [W1_eq]; simp only [evalOp]
  cases opd σ a with
  | none => rfl
  | some p => cases opd σ x with
    | none => rfl
    | some v => simp only [WD]; cases storeD C.T t p v H <;> rfl
theorem s_nilCheck {x : Operand} : W1 C (.nilCheck x) σ H J = WD (opd σ x) (.mk fun v => isSome' v ∧ J v H) := by
  rw [W1_eq]; simp only [evalOp]
  cases opd σ x with
  | none => rfl
  | some p =>
    cases p with
    | fn f a b => cases f <;> simp [WD, WX, isSome']
    | _ => simp [WD, WX, isSome']
theorem s_fieldAddr {t : TypeId} {x : Operand} {f : Nat} : W1 C (.fieldAddr t x f) σ H J = WD (opd σ x) (.mk fun v => WD (fieldAtD C.T t v f) (.mk fun v => J v H)) := by
  rw [W1_eq]; simp only [evalOp]
  cases opd σ x with
  | none => rfl
  | some p => exact WX_map
theorem s_field {t : TypeId} {x : Operand} {f : Nat} : W1 C (.field t x f) σ H J = WD (opd σ x) (.mk fun v => WD (fieldD C.T t v f) (.mk fun v => J v H)) := by
  rw [W1_eq]; simp only [evalOp]
  cases opd σ x with
  | none => rfl
  | some p => exact WX_map
theorem s_indexAddr {t : TypeId} {x i : Operand} : W1 C (.indexAddr t x i) σ H J = WD (opd σ x) (.mk fun v => WD (opd σ i) (.mk fun j => WD (indexAtD C.T t v j) (.mk fun v => J v H))) := by
  rw [W1_eq]; simp only [evalOp]
  cases opd σ x with
  | none => rfl
  | some p => cases opd σ i with
    | none => rfl
    | some p => exact WX_map
theorem s_index {t : TypeId} {x i : Operand} : W1 C (.index t x i) σ H J = WD (opd σ x) (.mk fun v => WD (opd σ i) (.mk fun j => WD (indexD C.T t v j) (.mk fun v => J v H))) := by
  rw [W1_eq]; simp only [evalOp]
  cases opd σ x with
  | none => rfl
  | some p => cases opd σ i with
    | none => rfl
    | some p => exact WX_map
theorem s_extract {x : Operand} {i : Nat} : W1 C (.extract x i) σ H J = WD (opd σ x) (.mk fun v => WD (tupAt v i) (.mk fun v => J v H)) := by
  rw [W1_eq]; simp only [evalOp]
  cases opd σ x with
  | none => rfl
  | some p => cases p <;> first | rfl | exact WX_map
theorem s_makeSlice {t : TypeId} {x y : Operand} : W1 C (.makeSlice t x y) σ H J = WD (opd σ x) (.mk fun a => WD (opd σ y) (.mk fun b => WX (makeSliceD C.T t a b H) (.mk J))) := by
  rw [W1_eq]; simp only [evalOp]
  cases opd σ x <;> cases opd σ y <;> rfl
theorem s_makeFunc {f : Fn} {a b : Array Operand} : W1 C (.makeFunc f a b) σ H J = WR (opds σ a.toList) (.mk fun x => WR (opds σ b.toList) (.mk fun y => J (.fn f x y) H)) := by
  rw [W1_eq]; simp only [evalOp]
  cases opds σ a.toList <;> cases opds σ b.toList <;> rfl
theorem s_callf {f : FuncId} {as : Array Operand} {ts : Array TypeId} : W1 C (.call { callee := .value (.func f), args := as, argTypes := ts }) σ H J = WR (opds σ as.toList) (.mk fun x => WK C f x H (.mk J)) := by
  apply propext; rw [W1_callf]
  cases opds σ as.toList <;> simp [WR, WK]
theorem s_callb {b : Builtin} {as : Array Operand} {ts : Array TypeId} : W1 C (.call { callee := .builtin b, args := as, argTypes := ts }) σ H J = WR (opds σ as.toList) (.mk fun x => WX (builtinD C.T b ts.toList x H) (.mk J)) := by
  rw [W1_eq]; simp only [evalOp, callD]
  cases opds σ as.toList <;> rfl
theorem s_range {t : TypeId} {x : Operand} : W1 C (.range t x) σ H J = WD (opd σ x) (.mk fun v => WX (rangeD C.T t v H) (.mk J)) := by
  rw [W1_eq]; simp only [evalOp]
  cases opd σ x <;> rfl
theorem s_next {x : Operand} {s : Bool} : W1 C (.next x s) σ H J = WD (opd σ x) (.mk fun v => WX (nextD v s H) (.mk J)) := by
  rw [W1_eq]; simp only [evalOp]
  cases opd σ x <;> rfl

/- Values. -/
theorem wrap_i64 {n : Int} (h1 : -9223372036854775808 ≤ n) (h2 : n ≤ 9223372036854775807) : IntKind.i64.wrap n = n := by
  simp only [IntKind.wrap, IntKind.bits, IntKind.signed]
  simp
  omega
theorem wrap_i32 {n : Int} (h1 : -2147483648 ≤ n) (h2 : n ≤ 2147483647) : IntKind.i32.wrap n = n := by
  simp only [IntKind.wrap, IntKind.bits, IntKind.signed]
  simp
  omega
theorem wrap_u8 {n : Int} (h1 : 0 ≤ n) (h2 : n ≤ 255) : IntKind.u8.wrap n = n := by
  simp only [IntKind.wrap, IntKind.bits, IntKind.signed]
  simp
  omega
theorem wrap_u64 {n : Int} (h1 : 0 ≤ n) (h2 : n ≤ 18446744073709551615) : IntKind.u64.wrap n = n := by
  simp only [IntKind.wrap, IntKind.bits, IntKind.signed]
  simp
  omega
theorem f0_0 {a : DV} {l : List DV} : frame0 (a :: l) 0 = a := rfl
theorem f0_s {a : DV} {l : List DV} {i : Nat} : frame0 (a :: l) (i + 1) = frame0 l i := rfl
theorem f0_n {i : Nat} : frame0 [] i = undefD := by simp [frame0]

/-- Nothing that was there has changed. -/
structure Ext (H H' : DH) : Prop where
  le : H.next ≤ H'.next
  same : ∀ b, b < H.next → H'.m b = H.m b
theorem Ext.refl {H : DH} : Ext H H := ⟨Nat.le_refl _, fun _ _ => rfl⟩
theorem Ext.trans {H1 H2 H3 : DH} (a : Ext H1 H2) (b : Ext H2 H3) : Ext H1 H3 := ⟨Nat.le_trans a.le b.le, fun i h => (b.same i (Nat.lt_of_lt_of_le h a.le)).trans (a.same i h)⟩
theorem Ext.new {H H' : DH} {o : DObj} (a : Ext H H') : Ext H (H'.new o) := ⟨Nat.le_succ_of_le a.le, fun i h => by
  simp only [DH.new]; rw [if_neg (by have := a.le; omega)]; exact a.same i h⟩
theorem Ext.set {H H' : DH} {o : DObj} {b : Nat} (a : Ext H H') (hb : H.next ≤ b) : Ext H (H'.set b o) := ⟨a.le, fun i h => by
  simp only [DH.set]; rw [if_neg (by omega)]; exact a.same i h⟩
theorem Ext.get {H H' : DH} {b : Nat} {x : Option DObj} (a : Ext H H') (hb : b < H.next) (h : H.m b = x) : H'.m b = x := (a.same b hb).trans h
theorem set_m {H : DH} {b i : Nat} {o : DObj} : (H.set b o).m i = if i = b then some o else H.m i := rfl
theorem new_m {H : DH} {i : Nat} {o : DObj} : (H.new o).m i = if i = H.next then some o else H.m i := rfl
theorem mov_m {H : DH} {b i : Nat} {o : DObj} : (H.mov b o).m i = if i = H.next then some o else if i = b then none else H.m i := rfl
theorem mov_next {H : DH} {b : Nat} {o : DObj} : (H.mov b o).next = H.next + 1 := rfl
theorem Ext.mov {H H' : DH} {o : DObj} {b : Nat} (a : Ext H H') (hb : H.next ≤ b) : Ext H (H'.mov b o) := ⟨Nat.le_succ_of_le a.le, fun i h => by
  simp only [DH.mov]; rw [if_neg (by have := a.le; omega), if_neg (by omega)]; exact a.same i h⟩
theorem set_next {H : DH} {b : Nat} {o : DObj} : (H.set b o).next = H.next := rfl
theorem new_next {H : DH} {o : DObj} : (H.new o).next = H.next + 1 := rfl
end Go.Proofs.YtcknfhhbijlobaaDoor.D
