import Derived.Test.YtcknfhhbijlobaaGreatDoorMC
import Derived.Attr
import Derived.Lib.Bytealg
import Derived.Laws.Externs
import Derived.Below
namespace Go.Proofs.YtcknfhhbijlobaaGreatDoor.D
open Go
set_option linter.unusedVariables false
set_option linter.unusedSimpArgs false
abbrev Sg := Nat → DV
abbrev Pt := Sg → DH → Prop
inductive Later {α : Type} : α → Type where
 | mk (a : α) : Later a
def WD {K : DV → Prop} (x : Option DV) (b : Later K) : Prop := match x with | some v => K v | none => False
def WX {K : DV → DH → Prop} (x : Option (DV × DH)) (b : Later K) : Prop := match x with | some p => K p.1 p.2 | none => False
def WR {K : List DV → Prop} (x : Option (List DV)) (b : Later K) : Prop := match x with | some v => K v | none => False
def WL {K : Option DV → Prop} (x : Option (Option DV)) (b : Later K) : Prop := match x with | some v => K v | none => False
def WP {K : List (Nat × DV) → Prop} (x : Option (List (Nat × DV))) (b : Later K) : Prop := match x with | some v => K v | none => False
def WH {K : DH → Prop} (x : Option DH) (b : Later K) : Prop := match x with | some v => K v | none => False
def WT {f : Bool → Prop} (v : DV) (b : Later f) : Prop := match v with | .bool b => f b | _ => False
def WK (C : Cfg) (f : FuncId) (a : List DV) (H : DH) {K : DV → DH → Prop} (b : Later K) : Prop := WC C f a H K
def WIf {a b : Prop} (t : Bool) (l : Later (a, b)) : Prop := (t = true → a) ∧ (t = false → b)
def KK (n : Pt) (e g : Nat → Pt) (r : Pt) : Out → Sg → DH → Prop := fun o σ H => match o with | .norm => n σ H | .exit i => e i σ H | .goto l => g l σ H | .ret => r σ H
def Y (C : Cfg) (c : Code) (σ : Sg) (H : DH) (n : Pt) (e g : Nat → Pt) (r : Pt) (p : Later (c, n, e, g, r)) : Prop := W C (lite c) σ H (KK n e g r)
def YS (C : Cfg) (b c : Code) (σ : Sg) (H : DH) (n : Pt) (e g : Nat → Pt) (r : Pt) (p : Later (b, c, n, e, g, r)) : Prop := WS C (lite b) (lite c) σ H (KK n e g r)
theorem WT_bool {b : Bool} {f : Bool → Prop} {p : Later f} : WT (.bool b) p = f b := rfl
theorem WIf_t {a b : Prop} {l : Later (a, b)} : WIf true l = a := by simp [WIf]
theorem WIf_f {a b : Prop} {l : Later (a, b)} : WIf false l = b := by simp [WIf]
theorem WIf_dec {c a b : Prop} [Decidable c] {l : Later (a, b)} : WIf (decide c) l = ((c → a) ∧ (¬ c → b)) := by
 unfold WIf; by_cases h : c <;> simp [h]
theorem WIf_not {a b : Prop} {t : Bool} {l : Later (a, b)} : WIf (!t) l = WIf t (.mk (b, a)) := by cases t <;> simp [WIf]
theorem WIf_beq {α : Type} [BEq α] [LawfulBEq α] {x y : α} {a b : Prop} {l : Later (a, b)} : WIf (x == y) l = ((x = y → a) ∧ (¬ x = y → b)) := by
 unfold WIf; simp
theorem WIf_bne {α : Type} [BEq α] [LawfulBEq α] {x y : α} {a b : Prop} {l : Later (a, b)} : WIf (x != y) l = ((x = y → b) ∧ (¬ x = y → a)) := by
 unfold WIf; by_cases h : x = y <;> simp [h]
theorem WIf_and {x y : Bool} {a b : Prop} {l : Later (a, b)} : WIf (x && y) l = WIf x (.mk (WIf y l, b)) := by cases x <;> cases y <;> simp [WIf]
theorem WIf_or {x y : Bool} {a b : Prop} {l : Later (a, b)} : WIf (x || y) l = WIf x (.mk (a, WIf y l)) := by cases x <;> cases y <;> simp [WIf]
theorem WD_some {v : DV} {K : DV → Prop} {b : Later K} : WD (some v) b = K v := rfl
theorem WX_some {v : DV} {H : DH} {K : DV → DH → Prop} {b : Later K} : WX (some (v, H)) b = K v H := rfl
theorem WR_some {v : List DV} {K : List DV → Prop} {b : Later K} : WR (some v) b = K v := rfl
theorem WP_some {v : List (Nat × DV)} {K : List (Nat × DV) → Prop} {b : Later K} : WP (some v) b = K v := rfl
theorem WH_some {v : DH} {K : DH → Prop} {b : Later K} : WH (some v) b = K v := rfl
theorem WX_ifn {c : Prop} [Decidable c] {x : Option (DV × DH)} {K : DV → DH → Prop} {b : Later K} : WX (if c then x else none) b = (c ∧ WX x b) := by
 apply propext; by_cases h : c <;> simp [h, WX]
theorem WD_ifn {c : Prop} [Decidable c] {x : Option DV} {K : DV → Prop} {b : Later K} : WD (if c then x else none) b = (c ∧ WD x b) := by
 apply propext; by_cases h : c <;> simp [h, WD]
theorem WH_ifn {c : Prop} [Decidable c] {x : Option DH} {K : DH → Prop} {b : Later K} : WH (if c then x else none) b = (c ∧ WH x b) := by
 apply propext; by_cases h : c <;> simp [h, WH]
theorem WD_nif {c : Prop} [Decidable c] {x : Option DV} {K : DV → Prop} {b : Later K} : WD (if c then none else x) b = (¬ c ∧ WD x b) := by
 apply propext; by_cases h : c <;> simp [h, WD]
theorem WX_if {c : Prop} [Decidable c] {x y : Option (DV × DH)} {K : DV → DH → Prop} {b : Later K} : WX (if c then x else y) b = WIf (decide c) (.mk (WX x b, WX y b)) := by
 apply propext; by_cases h : c <;> simp [h, WIf]
theorem WX_map {x : Option DV} {H : DH} {K : DV → DH → Prop} {b : Later K} : WX (x.map (·, H)) b = WD x (.mk fun v => K v H) := by cases x <;> rfl
variable {C : Cfg} {σ : Sg} {H : DH} {n : Pt} {e g : Nat → Pt} {r : Pt}
theorem KK_seq {b : Code} : (fun o σ' H' => if o = Out.norm then W C b σ' H' (KK n e g r) else KK n e g r o σ' H') = KK (fun σ H => W C b σ H (KK n e g r)) e g r := by
 funext o σ H
 cases o <;> simp [KK]
theorem Y_skip {p : Later (Code.skip, n, e, g, r)} : Y C .skip σ H n e g r p = n σ H := propext W_skip
theorem Y_label {l : Nat} {p : Later (Code.label l, n, e, g, r)} : Y C (.label l) σ H n e g r p = n σ H := propext W_label
theorem Y_ret {p : Later (Code.ret, n, e, g, r)} : Y C .ret σ H n e g r p = r σ H := propext W_ret
theorem Y_exit {i : Nat} {p : Later (Code.exit i, n, e, g, r)} : Y C (.exit i) σ H n e g r p = e i σ H := propext W_exit
theorem Y_goto {l : Nat} {p : Later (Code.goto l, n, e, g, r)} : Y C (.goto l) σ H n e g r p = g l σ H := propext W_goto
theorem Y_seq {a b : Code} {p : Later (Code.seq a b, n, e, g, r)} : Y C (.seq a b) σ H n e g r p = Y C a σ H (fun σ H => Y C b σ H n e g r (.mk _)) e g r (.mk _) := by
 unfold Y; rw [lite, propext W_seq, KK_seq]
theorem Y_cond {x : Operand} {a b : Code} {p : Later (Code.cond x a b, n, e, g, r)} : Y C (.cond x a b) σ H n e g r p = WD (opd σ x) (.mk fun v => WT v (.mk fun t => WIf t (.mk (Y C a σ H n e g r (.mk _), Y C b σ H n e g r (.mk _))))) := by
 unfold Y; rw [lite, propext W_cond]
 apply propext
 unfold WB WIf WD WT
 cases opd σ x with
 | none => simp
 | some v => cases v <;> simp
theorem Y_block {i : Nat} {c : Code} {p : Later (Code.block i c, n, e, g, r)} : Y C (.block i c) σ H n e g r p = Y C c σ H n (fun j σ H => WIf (decide (j = i)) (.mk (n σ H, e j σ H))) g r (.mk _) := by
 unfold Y; rw [lite, propext W_block]
 congr 1
 funext o σ H
 cases o with
 | exit j => by_cases h : j = i <;> simp [KK, WIf, h]
 | _ => simp [KK]
structure DrawYes (C : Cfg) (l : List Oper) : Prop where
 look : C.draw l.toArray = true
theorem Y_region_t {id : Nat} {l : List Oper} {p : Later (Code.region id l.toArray true, n, e, g, r)} (h : DrawYes C l) : Y C (.region id l.toArray true) σ H n e g r p = WO C l.toArray l σ H n := by
 unfold Y; rw [lite, if_pos rfl, propext W_region]
 have hl : l = l.toArray.toList := rfl
 rw [← hl]
 unfold WO
 simp [KK, h.look]
theorem Y_region {id : Nat} {l : List Oper} {p : Later (Code.region id l.toArray false, n, e, g, r)} : Y C (.region id l.toArray false) σ H n e g r p = WO C l.toArray l σ H n := by
 unfold Y; rw [lite, if_neg (by simp), propext W_region]
 have hl : l = l.toArray.toList := rfl
 generalize hq : l.toArray = ops
 have : l = ops.toList := by rw [← hq]
 subst this
 unfold WO
 rw [evalOps_lite]
 simp [KK]
theorem Y_scope {c : Code} {p : Later (Code.scope c, n, e, g, r)} : Y C (.scope c) σ H n e g r p = YS C c c σ H n e g r (.mk _) := by
 unfold Y YS; rw [lite, propext W_scope]
def Hd (C : Cfg) (b : Code) (n : Pt) (e g : Nat → Pt) (r : Pt) (p : Later (b, n, e, g, r)) : Nat → Pt := fun l σ H => match findLabel b l with
 | some q => YS C b q σ H n e g r (.mk _)
 | none => g l σ H
theorem Hd_goto {b q : Code} {l : Nat} {p : Later (b, n, e, g, r)} (h : findLabel b l = some q) (k : YS C b q σ H n e g r (.mk _)) : Hd C b n e g r p l σ H := by unfold Hd; rw [h]; exact k
theorem YS_eq {b c : Code} {p : Later (b, c, n, e, g, r)} : YS C b c σ H n e g r p = Y C c σ H n e (Hd C b n e g r (.mk _)) r (.mk _) := by
 unfold Y YS; rw [propext WS_iff]
 congr 1
 funext o σ H
 cases o with
 | goto l => simp only [KK, findLabel_lite, Hd]; cases findLabel b l <;> rfl
 | _ => rfl
theorem Y_loop {α : Type} {c : Code} {p : Later (Code.loop c, n, e, g, r)} (I : α → Pt) (μ : α → Nat) (a : α) (h : I a σ H)
  (round : ∀ a σ H, I a σ H → Y C c σ H (fun σ' H' => ∃ a', I a' σ' H' ∧ μ a' < μ a) e g r (.mk _)) : Y C (.loop c) σ H n e g r p := by
 have : ∀ m a σ H, μ a = m → I a σ H → Y C (.loop c) σ H n e g r p := by
  intro m
  induction m using Nat.strongRecOn with
  | _ m ih =>
   intro a σ H hm hI
   have hr := round a σ H hI
   unfold Y at hr ⊢
   obtain ⟨o, s, v, h1, h2⟩ := hr
   unfold W
   rw [lite, run_eq]; simp only [stepW, h1]
   cases o with
   | norm =>
    obtain ⟨a', h3, h4⟩ := h2
    have := ih _ (hm ▸ h4) a' s.1 s.2 rfl h3
    exact this
   | _ => exact ⟨_, _, _, rfl, h2⟩
 exact this _ a σ H rfl h
theorem Y_loop1 {c : Code} {p : Later (Code.loop c, n, e, g, r)} (h : Y C c σ H (fun σ H => Y C (.loop c) σ H n e g r p) e g r (.mk _)) : Y C (.loop c) σ H n e g r p := by
 unfold Y at h ⊢
 obtain ⟨o, s, v, h1, h2⟩ := h
 unfold W
 rw [lite, run_eq]; simp only [stepW, h1]
 cases o with
 | norm => exact h2
 | _ => exact ⟨_, _, _, rfl, h2⟩
theorem Y_mono {c : Code} {n' : Pt} {e' g' : Nat → Pt} {r' : Pt} {p : Later (c, n, e, g, r)} {p' : Later (c, n', e', g', r')} (h : Y C c σ H n e g r p) (hn : ∀ σ H, n σ H → n' σ H) (he : ∀ i σ H, e i σ H → e' i σ H) (hg : ∀ i σ H, g i σ H → g' i σ H) (hr : ∀ σ H, r σ H → r' σ H) : Y C c σ H n' e' g' r' p' := by
 refine W_mono h ?_
 intro o σ H
 cases o <;> simp only [KK] <;> first | exact hn _ _ | exact he _ _ _ | exact hg _ _ _ | exact hr _ _
def YAt (C : Cfg) (L : Nat) (c : Code) (σ : Sg) (H : DH) (n : Pt) (e g : Nat → Pt) (r : Pt) (p : Later (c, n, e, g, r)) : Prop := Y C (.seq (.label L) c) σ H n e g r (.mk _)
theorem Y_at {L : Nat} {c : Code} {p : Later (Code.seq (.label L) c, n, e, g, r)} : Y C (.seq (.label L) c) σ H n e g r p = YAt C L c σ H n e g r (.mk _) := rfl
theorem YAt_eq {L : Nat} {c : Code} {p : Later (c, n, e, g, r)} : YAt C L c σ H n e g r p = Y C c σ H n e g r (.mk _) := by
 unfold YAt; rw [Y_seq, Y_label]
theorem YAt_loop {α : Type} {b c : Code} {L : Nat} {p : Later (c, n, e, Hd C b n e g r (.mk _), r)} (I : α → Pt) (μ : α → Nat) (a : α) (hf : ∃ q, findLabel b L = some (.seq q c) ∧ (q = .skip ∨ q = .label L)) (h : I a σ H)
  (round : ∀ a σ H, I a σ H → Y C c σ H n e (fun l σ' H' => if l = L then ∃ a', I a' σ' H' ∧ μ a' < μ a else Hd C b n e g r (.mk _) l σ' H') r (.mk _)) : YAt C L c σ H n e (Hd C b n e g r (.mk _)) r p := by
 rw [YAt_eq]
 obtain ⟨q, hq, hqq⟩ := hf
 have : ∀ m a σ H, μ a = m → I a σ H → Y C c σ H n e (Hd C b n e g r (.mk _)) r (.mk _) := by
  intro m
  induction m using Nat.strongRecOn with
  | _ m ih =>
   intro a σ H hm hI
   refine Y_mono (round a σ H hI) (fun _ _ h => h) (fun _ _ _ h => h) (fun l σ' H' hl => ?_) (fun _ _ h => h)
   split at hl
   ·rename_i e1
    subst e1
    obtain ⟨a', h1, h2⟩ := hl
    refine Hd_goto hq ?_
    rw [YS_eq, Y_seq]
    have := ih _ (hm ▸ h2) a' σ' H' rfl h1
    rcases hqq with rfl | rfl
    ·rw [Y_skip]; exact this
    ·rw [Y_label]; exact this
   ·exact hl
 exact this _ a σ H rfl h
structure Has (C : Cfg) (f : FuncId) (n : Nat) (res : List ResultVar) (c : Code) : Prop where
 ext : C.ext f = none
 is : ∃ (fn : Func), C.P.funcs[f]? = some fn ∧ fn.body = some c ∧ fn.ntmps = n ∧ fn.results.toList = res ∧ bnd n c = true
theorem WC_of {f : FuncId} {n : Nat} {res : List ResultVar} {c : Code} {args : List DV} {K : DV → DH → Prop} (h : Has C f n res c) (hl : args.length ≤ n)
  (k : Y C c (frame0 args) H (fun σ H => WR (resD C.T σ H res) (.mk fun vs => K (resOne vs) H)) (fun _ _ _ => False) (fun _ _ _ => False) (fun σ H => WR (resD C.T σ H res) (.mk fun vs => K (resOne vs) H)) (.mk _)) : WC C f args H K := by
 obtain ⟨hx, fn, h1, h2, rfl, rfl, h5⟩ := h
 refine WC_body hx h1 h2 h5 hl ?_
 unfold Y at k
 rw [W_lite] at k
 refine W_mono k ?_
 intro o σ H hr
 have go : WR (resD C.T σ H fn.results.toList) (.mk fun vs => K (resOne vs) H) → ∃ vs, resD C.T σ H fn.results.toList = some vs ∧ K (resOne vs) H := by
  intro hr
  cases hq : resD C.T σ H fn.results.toList with
  | none => rw [hq] at hr; exact hr.elim
  | some vs => rw [hq] at hr; exact ⟨vs, rfl, hr⟩
 cases o with
 | norm => exact ⟨.inl rfl, go hr⟩
 | ret => exact ⟨.inr rfl, go hr⟩
 | exit i => exact hr.elim
 | goto l => exact hr.elim
theorem call {f : FuncId} {a : List DV} {K K' : DV → DH → Prop} {b : Later K'} (h : WC C f a H K) (k : ∀ v H, K v H → K' v H) : WK C f a H b := WC_mono h k
theorem WK_det {f : FuncId} {a : List DV} {u : DV} {K : DV → DH → Prop} {b : Later K} (h : WC C f a H fun v H' => v = u ∧ H' = H) : WK C f a H b = K u H := by
 obtain ⟨v, H', h1, rfl, rfl⟩ := h
 apply propext
 unfold WK WC
 constructor
 ·rintro ⟨v, H'', h2, h3⟩
  rw [h1] at h2
  cases h2; exact h3
 ·intro h; exact ⟨_, _, h1, h⟩
theorem WR_nil {T : Tab} {K : List DV → Prop} {b : Later K} : WR (resD T σ H []) b = K [] := rfl
theorem WR_tmp {T : Tab} {t : Tmp} {l : List ResultVar} {K : List DV → Prop} {b : Later K} : WR (resD T σ H (.tmp t :: l)) b = WR (resD T σ H l) (.mk fun vs => K (σ t :: vs)) := by
 simp only [resD]; cases resD T σ H l <;> rfl
theorem WR_cell {T : Tab} {a : Tmp} {t : TypeId} {l : List ResultVar} {K : List DV → Prop} {b : Later K} : WR (resD T σ H (.cell a t :: l)) b = WD (loadD T t (σ a) H) (.mk fun v => WR (resD T σ H l) (.mk fun vs => K (v :: vs))) := by
 simp only [resD]; cases loadD T t (σ a) H <;> cases resD T σ H l <;> simp [WR, WD]
theorem resOne_1 {v : DV} : resOne [v] = v := rfl
theorem resOne_2 {v u : DV} {l : List DV} : resOne (v :: u :: l) = .tup (v :: u :: l) := rfl
theorem resOne_0 : resOne [] = .tup [] := rfl
variable {ops : Array Oper} {l : List Oper} {K : Pt}
theorem O_nil : WO C ops [] σ H K = K σ H := propext WO_nil
theorem O_1 {d : Nat} {o : Op} {t : TypeId} {p : String} {a : Array Edge} : WO C ops ({ dst := some d, op := o, type := t, pos := p, after := a, guard := none } :: l) σ H K = W1 C o σ H fun v H' => WO C ops l (upd σ d v) H' K := propext (WO_step rfl)
theorem O_0 {o : Op} {t : TypeId} {p : String} {a : Array Edge} : WO C ops ({ dst := none, op := o, type := t, pos := p, after := a, guard := none } :: l) σ H K = W1 C o σ H fun v H' => WO C ops l σ H' K := propext (WO_step rfl)
def gslot (ops : Array Oper) (j : Nat) : Option Nat := (ops[j]?).bind (·.dst)
def WG {f : Bool → Prop} {u : Prop} (x : DV) (l : Later (f, u)) : Prop := match x with | .bool b => f b | .tup [] => u | _ => False
theorem WG_bool {b : Bool} {f : Bool → Prop} {u : Prop} {l : Later (f, u)} : WG (.bool b) l = f b := rfl
theorem WG_undef {f : Bool → Prop} {u : Prop} {l : Later (f, u)} : WG (.tup []) l = u := rfl
def WGs {f : Bool → Prop} {u : Prop} (s : Option Nat) (σ : Sg) (l : Later (f, u)) : Prop := match s with | some s => WG (σ s) l | none => u
theorem WGs_some {s : Nat} {f : Bool → Prop} {u : Prop} {l : Later (f, u)} : WGs (some s) σ l = WG (σ s) l := rfl
theorem gslot_succ {o : Oper} {l : List Oper} {j : Nat} : gslot (List.toArray (o :: l)) (j + 1) = gslot (List.toArray l) j := by simp [gslot]
theorem gslot_zero {o : Oper} {l : List Oper} : gslot (List.toArray (o :: l)) 0 = o.dst := by simp [gslot]
theorem O_gt {d : Option Nat} {o : Op} {t : TypeId} {p : String} {a : Array Edge} {j : Nat} :
  WO C ops ({ dst := d, op := o, type := t, pos := p, after := a, guard := some (j, true) } :: l) σ H K =
   WGs (gslot ops j) σ (.mk (fun b => WIf b (.mk (W1 C o σ H fun v H' => WO C ops l (put σ d v) H' K, WO C ops l (put σ d undefD) H K)), WO C ops l (put σ d undefD) H K)) := by
 rw [propext WO_cons]
 have hs : (ops[j]?).bind (·.dst) = gslot ops j := rfl
 simp only [wantedD, hs]
 cases gslot ops j with
 | none => simp [WGs]
 | some s =>
  simp only [WGs]
  generalize σ s = x
  cases x with
  | bool b => cases b <;> simp [WG, WIf]
  | tup vs => cases vs <;> simp [WG]
  | _ => simp [WG]
theorem O_gf {d : Option Nat} {o : Op} {t : TypeId} {p : String} {a : Array Edge} {j : Nat} :
  WO C ops ({ dst := d, op := o, type := t, pos := p, after := a, guard := some (j, false) } :: l) σ H K =
   WGs (gslot ops j) σ (.mk (fun b => WIf b (.mk (WO C ops l (put σ d undefD) H K, W1 C o σ H fun v H' => WO C ops l (put σ d v) H' K)), WO C ops l (put σ d undefD) H K)) := by
 rw [propext WO_cons]
 have hs : (ops[j]?).bind (·.dst) = gslot ops j := rfl
 simp only [wantedD, hs]
 cases gslot ops j with
 | none => simp [WGs]
 | some s =>
  simp only [WGs]
  generalize σ s = x
  cases x with
  | bool b => cases b <;> simp [WG, WIf]
  | tup vs => cases vs <;> simp [WG]
  | _ => simp [WG]
theorem put_some {d : Nat} {v : DV} : put σ (some d) v = upd σ d v := rfl
theorem put_none {v : DV} : put σ none v = σ := rfl
theorem upd_get {d i : Nat} {v : DV} : upd σ d v i = if i = d then v else σ i := rfl
theorem opd_tmp {t : Tmp} : opd σ (.tmp t) = some (σ t) := rfl
theorem opd_const {v : Value} : opd σ (.const v) = constD v := rfl
theorem opd_func {f : FuncId} : opd σ (.func f) = some (.fn (.func f) [] []) := rfl
theorem cD_bool {b : Bool} : constD (.bool b) = some (.bool b) := rfl
theorem cD_int {k : IntKind} {n : Int} : constD (.int k n) = some (.int k n) := rfl
theorem cD_flt {k : FloatKind} {n : Nat} : constD (.float k n) = some (.flt k n) := rfl
theorem cD_str {a : List UInt8} : constD (.string ⟨a.toArray⟩) = some (.str a) := by simp [constD]
theorem cD_nilp : constD (.pointer none) = some .nilp := rfl
theorem cD_nils : constD (.slice none 0 0) = some .nils := rfl
theorem cD_nilf : constD .nilFunc = some .nilf := rfl
theorem cD_nili : constD .nilIface = some .nili := rfl
theorem cD_nilm : constD (.map none) = some .nilm := rfl
theorem opds_nil : opds σ [] = some [] := rfl
theorem opds_cons {x : Operand} {l : List Operand} {K : List DV → Prop} {b : Later K} : WR (opds σ (x :: l)) b = WD (opd σ x) (.mk fun v => WR (opds σ l) (.mk fun vs => K (v :: vs))) := by
 simp only [opds]; cases opd σ x <;> cases opds σ l <;> simp [WD, WR]
theorem parts_nil : opdParts σ [] = some [] := rfl
theorem parts_cons {i : Nat} {x : Operand} {l : List (Nat × Operand)} {K : List (Nat × DV) → Prop} {b : Later K} : WP (opdParts σ ((i, x) :: l)) b = WD (opd σ x) (.mk fun v => WP (opdParts σ l) (.mk fun vs => K ((i, v) :: vs))) := by
 simp only [opdParts]; cases opd σ x <;> cases opdParts σ l <;> simp [WD, WP]
def isSome' : DV → Prop
 | .ptr _ _ | .ip _ | .fn (.func _) _ _ => True
 | _ => False
def tupAt : DV → Nat → Option DV
 | .tup vs, i => vs[i]?
 | _, _ => none
variable {J : DV → DH → Prop}
theorem W1_eq {o : Op} : W1 C o σ H J = WX (evalOp C.T (callF C) o σ H) (.mk J) := by
 apply propext; unfold W1 WX
 cases evalOp C.T (callF C) o σ H with
 | none => simp
 | some q =>
  obtain ⟨a, b⟩ := q
  simp only [Option.some.injEq, Prod.mk.injEq]
  constructor
  ·rintro ⟨v, H', ⟨rfl, rfl⟩, h⟩; exact h
  ·intro h; exact ⟨a, b, ⟨rfl, rfl⟩, h⟩
theorem s_move {x : Operand} : W1 C (.move x) σ H J = WD (opd σ x) (.mk fun v => J v H) := by rw [W1_eq]; exact WX_map
theorem s_assign {x : Operand} : W1 C (.assign x) σ H J = WD (opd σ x) (.mk fun v => J v H) := by rw [W1_eq]; exact WX_map
theorem s_pick {c a b : Operand} : W1 C (.pick c a b) σ H J = WD (opd σ c) (.mk fun v => WT v (.mk fun t => WIf t (.mk (WD (opd σ a) (.mk fun v => J v H), WD (opd σ b) (.mk fun v => J v H))))) := by
 rw [W1_eq]; simp only [evalOp]
 cases opd σ c with
 | none => rfl
 | some v =>
  cases v with
  | bool t =>
   simp only [WD_some, WT_bool]
   cases t with
   | true => rw [WIf_t]; exact WX_map
   | false => rw [WIf_f]; exact WX_map
  | _ => rfl
theorem s_bin {op : BinOp} {t u : TypeId} {x y : Operand} : W1 C (.binOp op t x y u) σ H J = WD (opd σ x) (.mk fun a => WD (opd σ y) (.mk fun b => WD (binD C.T op t x y a b) (.mk fun v => J v H))) := by
 rw [W1_eq]; simp only [evalOp]
 cases opd σ x <;> cases opd σ y <;> first | rfl | exact WX_map
theorem s_un {op : UnOp} {t : TypeId} {x : Operand} : W1 C (.unOp op t x) σ H J = WD (opd σ x) (.mk fun a => WD (unD op a) (.mk fun v => J v H)) := by
 rw [W1_eq]; simp only [evalOp]
 cases opd σ x <;> first | rfl | exact WX_map
theorem s_conv {s d : TypeId} {x : Operand} : W1 C (.convert s d x) σ H J = ((C.T.und s).isSome = true ∧ WD (opd σ x) (.mk fun v => WX (convD C.T s d v H) (.mk J))) := by
 rw [W1_eq]; simp only [evalOp]
 cases C.T.und s <;> cases opd σ x <;> simp [WD, WX]
theorem WL_none {K : Option DV → Prop} {b : Later K} : WL (optOpd σ none) b = K none := rfl
theorem WL_some {x : Operand} {K : Option DV → Prop} {b : Later K} : WL (optOpd σ (some x)) b = WD (opd σ x) (.mk fun v => K (some v)) := by
 simp only [optOpd]; cases opd σ x <;> rfl
theorem s_slice {t : TypeId} {x : Operand} {lo hi : Option Operand} : W1 C (.slice t x lo hi none) σ H J = WD (opd σ x) (.mk fun v => WL (optOpd σ lo) (.mk fun a => WL (optOpd σ hi) (.mk fun b => WD (sliceD C.T t v a b) (.mk fun v => J v H)))) := by
 rw [W1_eq]; simp only [evalOp]
 cases opd σ x with
 | none => rfl
 | some v => cases optOpd σ lo <;> cases optOpd σ hi <;> first | rfl | exact WX_map
theorem s_alloc {t : TypeId} : W1 C (.alloc t) σ H J = WD (C.T.zero t) (.mk fun z => z.cells.all DV.one = true ∧ J (.ptr H.next 0) (H.new (.cells t z.cells))) := by
 rw [W1_eq]; simp only [evalOp]
 cases C.T.zero t with
 | none => rfl
 | some z => exact WX_ifn
theorem s_box {t : TypeId} {x : Operand} : W1 C (.box t x) σ H J = WD (opd σ x) (.mk fun z => z.cells.all DV.one = true ∧ J (.ptr H.next 0) (H.new (.cells t z.cells))) := by
 rw [W1_eq]; simp only [evalOp]
 cases opd σ x with
 | none => rfl
 | some z => exact WX_ifn
theorem s_build {t : TypeId} {ps : Array (Nat × Operand)} : W1 C (.build t ps) σ H J = WP (opdParts σ ps.toList) (.mk fun l => WD (buildD C.T t l) (.mk fun v => J v H)) := by
 rw [W1_eq]; simp only [evalOp]
 cases opdParts σ ps.toList with
 | none => rfl
 | some l => exact WX_map
theorem s_buildSlice {t : TypeId} {m : Nat} {ps : Array (Nat × Operand)} : W1 C (.buildSlice t m ps) σ H J = WP (opdParts σ ps.toList) (.mk fun l => WX (buildSliceD C.T t m l H) (.mk J)) := by
 rw [W1_eq]; simp only [evalOp]
 cases opdParts σ ps.toList <;> rfl
theorem s_load {t : TypeId} {a : Operand} : W1 C (.load t a) σ H J = WD (opd σ a) (.mk fun p => WD (loadD C.T t p H) (.mk fun v => J v H)) := by
 rw [W1_eq]; simp only [evalOp]
 cases opd σ a with
 | none => rfl
 | some l => exact WX_map
theorem s_store {t : TypeId} {a x : Operand} : W1 C (.store t a x) σ H J = WD (opd σ a) (.mk fun p => WD (opd σ x) (.mk fun v => WH (storeD C.T t p v H) (.mk fun H' => J undefD H'))) := by
 rw [W1_eq]; simp only [evalOp]
 cases opd σ a with
 | none => rfl
 | some p => cases opd σ x with
  | none => rfl
  | some v => simp only [WD]; cases storeD C.T t p v H <;> rfl
theorem s_nilCheck {x : Operand} : W1 C (.nilCheck x) σ H J = WD (opd σ x) (.mk fun v => isSome' v ∧ J v H) := by
 rw [W1_eq]; simp only [evalOp]
 cases opd σ x with
 | none => rfl
 | some p =>
  cases p with
  | fn f a b => cases f <;> simp [WD, WX, isSome']
  | _ => simp [WD, WX, isSome']
theorem s_fieldAddr {t : TypeId} {x : Operand} {f : Nat} : W1 C (.fieldAddr t x f) σ H J = WD (opd σ x) (.mk fun v => WD (fieldAtD C.T t v f) (.mk fun v => J v H)) := by
 rw [W1_eq]; simp only [evalOp]
 cases opd σ x with
 | none => rfl
 | some p => exact WX_map
theorem s_field {t : TypeId} {x : Operand} {f : Nat} : W1 C (.field t x f) σ H J = WD (opd σ x) (.mk fun v => WD (fieldD C.T t v f) (.mk fun v => J v H)) := by
 rw [W1_eq]; simp only [evalOp]
 cases opd σ x with
 | none => rfl
 | some p => exact WX_map
theorem s_indexAddr {t : TypeId} {x i : Operand} : W1 C (.indexAddr t x i) σ H J = WD (opd σ x) (.mk fun v => WD (opd σ i) (.mk fun j => WD (indexAtD C.T t v j) (.mk fun v => J v H))) := by
 rw [W1_eq]; simp only [evalOp]
 cases opd σ x with
 | none => rfl
 | some p => cases opd σ i with
  | none => rfl
  | some p => exact WX_map
theorem s_index {t : TypeId} {x i : Operand} : W1 C (.index t x i) σ H J = WD (opd σ x) (.mk fun v => WD (opd σ i) (.mk fun j => WD (indexD C.T t v j) (.mk fun v => J v H))) := by
 rw [W1_eq]; simp only [evalOp]
 cases opd σ x with
 | none => rfl
 | some p => cases opd σ i with
  | none => rfl
  | some p => exact WX_map
theorem s_extract {x : Operand} {i : Nat} : W1 C (.extract x i) σ H J = WD (opd σ x) (.mk fun v => WD (tupAt v i) (.mk fun v => J v H)) := by
 rw [W1_eq]; simp only [evalOp]
 cases opd σ x with
 | none => rfl
 | some p => cases p <;> first | rfl | exact WX_map
theorem s_makeSlice {t : TypeId} {x y : Operand} : W1 C (.makeSlice t x y) σ H J = WD (opd σ x) (.mk fun a => WD (opd σ y) (.mk fun b => WX (makeSliceD C.T t a b H) (.mk J))) := by
 rw [W1_eq]; simp only [evalOp]
 cases opd σ x <;> cases opd σ y <;> rfl
theorem s_makeFunc {f : Fn} {a b : Array Operand} : W1 C (.makeFunc f a b) σ H J = WR (opds σ a.toList) (.mk fun x => WR (opds σ b.toList) (.mk fun y => J (.fn f x y) H)) := by
 rw [W1_eq]; simp only [evalOp]
 cases opds σ a.toList <;> cases opds σ b.toList <;> rfl
theorem s_callf {f : FuncId} {as : Array Operand} {ts : Array TypeId} : W1 C (.call { callee := .value (.func f), args := as, argTypes := ts }) σ H J = WR (opds σ as.toList) (.mk fun x => WK C f x H (.mk J)) := by
 apply propext; rw [W1_callf]
 cases opds σ as.toList <;> simp [WR, WK]
theorem s_callb {b : Builtin} {as : Array Operand} {ts : Array TypeId} : W1 C (.call { callee := .builtin b, args := as, argTypes := ts }) σ H J = WR (opds σ as.toList) (.mk fun x => WX (builtinD C.T b ts.toList x H) (.mk J)) := by
 rw [W1_eq]; simp only [evalOp, callD]
 cases opds σ as.toList <;> rfl
theorem s_makeMap {t : TypeId} {x : Option Operand} : W1 C (.makeMap t x) σ H J = WL (optOpd σ x) (.mk fun v => WX (makeMapD C.T t v H) (.mk J)) := by
 rw [W1_eq]; simp only [evalOp]
 cases optOpd σ x <;> rfl
theorem s_lookup {t : TypeId} {x i : Operand} {ok : Bool} : W1 C (.lookup t x i ok) σ H J = WD (opd σ x) (.mk fun v => WD (opd σ i) (.mk fun j => WD (lookupD C.T t v j ok H) (.mk fun v => J v H))) := by
 rw [W1_eq]; simp only [evalOp]
 cases opd σ x with
 | none => rfl
 | some p => cases opd σ i with
  | none => rfl
  | some p => exact WX_map
theorem s_mapUpdate {t : TypeId} {x k v : Operand} : W1 C (.mapUpdate t x k v) σ H J = WD (opd σ x) (.mk fun a => WD (opd σ k) (.mk fun b => WD (opd σ v) (.mk fun c => WH (updateD C.T t a b c H) (.mk fun H => J undefD H)))) := by
 rw [W1_eq]; simp only [evalOp]
 cases opd σ x with
 | none => rfl
 | some p => cases opd σ k with
  | none => rfl
  | some q => cases opd σ v with
   | none => rfl
   | some r => simp only [WD]; cases updateD C.T t p q r H <;> rfl
theorem s_insert {t : TypeId} {x k v : Operand} : W1 C (.insert t x k v) σ H J = WD (opd σ x) (.mk fun a => WD (opd σ k) (.mk fun b => WD (opd σ v) (.mk fun c => WH (updateD C.T t a b c H) (.mk fun H => J undefD H)))) := by
 rw [W1_eq]; simp only [evalOp]
 cases opd σ x with
 | none => rfl
 | some p => cases opd σ k with
  | none => rfl
  | some q => cases opd σ v with
   | none => rfl
   | some r => simp only [WD]; cases updateD C.T t p q r H <;> rfl
theorem s_range {t : TypeId} {x : Operand} : W1 C (.range t x) σ H J = WD (opd σ x) (.mk fun v => WX (rangeD C.T t v H) (.mk J)) := by
 rw [W1_eq]; simp only [evalOp]
 cases opd σ x <;> rfl
theorem s_next {x : Operand} {s : Bool} : W1 C (.next x s) σ H J = WD (opd σ x) (.mk fun v => WX (nextD v s H) (.mk J)) := by
 rw [W1_eq]; simp only [evalOp]
 cases opd σ x <;> rfl
theorem wrap_i64 {n : Int} (h1 : -9223372036854775808 ≤ n) (h2 : n ≤ 9223372036854775807) : IntKind.i64.wrap n = n := by
 simp only [IntKind.wrap, IntKind.bits, IntKind.signed]
 simp
 omega
theorem wrap_i32 {n : Int} (h1 : -2147483648 ≤ n) (h2 : n ≤ 2147483647) : IntKind.i32.wrap n = n := by
 simp only [IntKind.wrap, IntKind.bits, IntKind.signed]
 simp
 omega
theorem wrap_u8 {n : Int} (h1 : 0 ≤ n) (h2 : n ≤ 255) : IntKind.u8.wrap n = n := by
 simp only [IntKind.wrap, IntKind.bits, IntKind.signed]
 simp
 omega
theorem wrap_u64 {n : Int} (h1 : 0 ≤ n) (h2 : n ≤ 18446744073709551615) : IntKind.u64.wrap n = n := by
 simp only [IntKind.wrap, IntKind.bits, IntKind.signed]
 simp
 omega
theorem f0_0 {a : DV} {l : List DV} : frame0 (a :: l) 0 = a := rfl
theorem f0_s {a : DV} {l : List DV} {i : Nat} : frame0 (a :: l) (i + 1) = frame0 l i := rfl
theorem f0_n {i : Nat} : frame0 [] i = undefD := by simp [frame0]
structure Ext (H H' : DH) : Prop where
 le : H.next ≤ H'.next
 same : ∀ b, b < H.next → H'.m b = H.m b
theorem Ext.refl {H : DH} : Ext H H := ⟨Nat.le_refl _, fun _ _ => rfl⟩
theorem Ext.trans {H1 H2 H3 : DH} (a : Ext H1 H2) (b : Ext H2 H3) : Ext H1 H3 := ⟨Nat.le_trans a.le b.le, fun i h => (b.same i (Nat.lt_of_lt_of_le h a.le)).trans (a.same i h)⟩
theorem Ext.new {H H' : DH} {o : DObj} (a : Ext H H') : Ext H (H'.new o) := ⟨Nat.le_succ_of_le a.le, fun i h => by
 simp only [DH.new]; rw [if_neg (by have := a.le; omega)]; exact a.same i h⟩
theorem Ext.set {H H' : DH} {o : DObj} {b : Nat} (a : Ext H H') (hb : H.next ≤ b) : Ext H (H'.set b o) := ⟨a.le, fun i h => by
 simp only [DH.set]; rw [if_neg (by omega)]; exact a.same i h⟩
theorem Ext.get {H H' : DH} {b : Nat} {x : Option DObj} (a : Ext H H') (hb : b < H.next) (h : H.m b = x) : H'.m b = x := (a.same b hb).trans h
theorem set_m {H : DH} {b i : Nat} {o : DObj} : (H.set b o).m i = if i = b then some o else H.m i := rfl
theorem new_m {H : DH} {i : Nat} {o : DObj} : (H.new o).m i = if i = H.next then some o else H.m i := rfl
theorem mov_m {H : DH} {b i : Nat} {o : DObj} : (H.mov b o).m i = if i = H.next then some o else if i = b then none else H.m i := rfl
theorem mov_next {H : DH} {b : Nat} {o : DObj} : (H.mov b o).next = H.next + 1 := rfl
theorem Ext.mov {H H' : DH} {o : DObj} {b : Nat} (a : Ext H H') (hb : H.next ≤ b) : Ext H (H'.mov b o) := ⟨Nat.le_succ_of_le a.le, fun i h => by
 simp only [DH.mov]; rw [if_neg (by have := a.le; omega), if_neg (by omega)]; exact a.same i h⟩
theorem set_next {H : DH} {b : Nat} {o : DObj} : (H.set b o).next = H.next := rfl
theorem new_next {H : DH} {o : DObj} : (H.new o).next = H.next + 1 := rfl
end Go.Proofs.YtcknfhhbijlobaaGreatDoor.D
namespace Go.Proofs.YtcknfhhbijlobaaGreatDoor.D
open Go
set_option linter.unusedVariables false
set_option linter.unusedSimpArgs false
variable {T : Tab} {H : DH} {K : DV → Prop} {b : Later K}
def WN {K : Nat → Prop} (x : Option Nat) (b : Later K) : Prop := match x with | some v => K v | none => False
theorem WN_some {K : Nat → Prop} {b : Later K} {n : Nat} : WN (some n) b = K n := rfl
theorem WN_ifn {c : Prop} [Decidable c] {n : Nat} {K : Nat → Prop} {b : Later K} : WN (if c then some n else none) b = (c ∧ K n) := by
 apply propext; by_cases h : c <;> simp [h, WN]
def WBy {K : UInt8 → Prop} (x : Option UInt8) (b : Later K) : Prop := match x with | some v => K v | none => False
theorem WBy_some {K : UInt8 → Prop} {b : Later K} {c : UInt8} : WBy (some c) b = K c := rfl
theorem bound_none {d t : Nat} : boundD none d t = some d := rfl
theorem bound_some {k : IntKind} {i : Int} {d t : Nat} : boundD (some (.int k i)) d t = if 0 ≤ i ∧ i ≤ t then some i.toNat else none := rfl
theorem sl_str {t : TypeId} {s : List UInt8} {lo hi : Option DV} : WD (sliceD T t (.str s) lo hi) b = (T.und t = some .string ∧ WN (boundD hi s.length s.length) (.mk fun h => WN (boundD lo 0 h) (.mk fun l => K (.str ((s.take h).drop l))))) := by
 apply propext
 cases h : T.und t with
 | none => simp [sliceD, h, WD]
 | some d =>
  cases d with
  | string =>
   simp only [sliceD, h]
   cases boundD hi s.length s.length with
   | none => simp [WD, WN]
   | some h => simp only [WN_some]; cases boundD lo 0 h <;> simp [WD, WN]
  | _ => simp [sliceD, h, WD]
theorem sl_sl {t : TypeId} {id sz off : Nat} {es : List DV} {lo hi : Option DV} : WD (sliceD T t (.sl id sz off es) lo hi) b = (∃ e, T.und t = some (.slice e) ∧ T.size e = some sz ∧ WN (boundD hi es.length es.length) (.mk fun h => WN (boundD lo 0 h) (.mk fun l => K (.sl id sz (off + l) ((es.take h).drop l))))) := by
 apply propext
 cases h : T.und t with
 | none => simp [sliceD, h, WD]
 | some d =>
  cases d with
  | slice e =>
   simp only [sliceD, h]
   by_cases hs : T.size e = some sz
   ·rw [if_pos hs]
    cases boundD hi es.length es.length with
    | none => simp [WD, WN, hs]
    | some h => simp only [WN_some]; cases boundD lo 0 h <;> simp [WD, WN, hs]
   ·rw [if_neg hs]; simp [WD, hs]
  | _ => simp [sliceD, h, WD]
theorem ix_str {t : TypeId} {s : List UInt8} {k : IntKind} {i : Int} : WD (indexD T t (.str s) (.int k i)) b = (T.und t = some .string ∧ 0 ≤ i ∧ WBy s[i.toNat]? (.mk fun c => K (byteDV c))) := by
 apply propext
 cases h : T.und t with
 | none => simp [indexD, h, WD]
 | some d =>
  cases d with
  | string =>
   simp only [indexD, h]
   by_cases hi : 0 ≤ i
   ·rw [if_pos hi]
    cases s[i.toNat]? <;> simp [WD, WBy, hi]
   ·rw [if_neg hi]; simp [WD, hi]
  | _ => simp [indexD, h, WD]
def WIx {K : DV → Prop} (x : Option DV) (b : Later K) : Prop := match x with | some v => K (.ip v.cells) | none => False
theorem WIx_some {v : DV} : WIx (some v) b = K (.ip v.cells) := rfl
theorem ia_sl {t : TypeId} {id sz off : Nat} {es : List DV} {k : IntKind} {i : Int} : WD (indexAtD T t (.sl id sz off es) (.int k i)) b = (∃ e, T.und t = some (.slice e) ∧ T.size e = some sz ∧ 0 ≤ i ∧ WIx es[i.toNat]? b) := by
 apply propext
 cases h : T.und t with
 | none => simp [indexAtD, h, WD]
 | some d =>
  cases d with
  | slice e =>
   simp only [indexAtD, h]
   by_cases hs : T.size e = some sz ∧ 0 ≤ i
   ·rw [if_pos hs]
    cases es[i.toNat]? <;> simp [WD, WIx, hs]
   ·rw [if_neg hs]
    simp only [WD, false_iff, not_exists, not_and, Option.some.injEq, TypeDesc.slice.injEq]
    rintro e' rfl h1 h2
    exact absurd ⟨h1, h2⟩ hs
  | _ => simp [indexAtD, h, WD]
def WVa {K : DV → Prop} (d : Option TypeDesc) (n : Option Nat) (cs : Option (List DV)) (b : Later K) : Prop := match d, n, cs with
 | some d, some n, some cs => WD (takeVar (isAggD d) n cs) b
 | _, _, _ => False
theorem WVa_some {d : TypeDesc} {n : Nat} {cs : List DV} : WVa (some d) (some n) (some cs) b = WD (takeVar (isAggD d) n cs) b := rfl
theorem ld {t : TypeId} {a : DV} : WD (loadD T t a H) b = WVa (T.und t) (T.size t) (cellsAt H a) b := by
 unfold loadD WVa
 cases T.und t <;> cases T.size t <;> cases cellsAt H a <;> rfl
def cellsIn (o : Option DObj) (off : Nat) : Option (List DV) := match o with | some (.cells _ cs) => some (cs.drop off) | some (.row _ cs) => some (cs.drop off) | _ => none
theorem cells_ptr {i off : Nat} : cellsAt H (.ptr i off) = cellsIn (H.m i) off := rfl
theorem cells_ip {cs : List DV} : cellsAt H (.ip cs) = some cs := rfl
theorem cellsIn_row {t : TypeId} {cs : List DV} {off : Nat} : cellsIn (some (.row t cs)) off = some (cs.drop off) := rfl
theorem cellsIn_some {t : TypeId} {cs : List DV} {off : Nat} : cellsIn (some (.cells t cs)) off = some (cs.drop off) := rfl
def storeIn (n : Option Nat) (o : Option DObj) (off : Nat) (v : DV) : Option DObj := match n, o with
 | some n, some (.cells ty cs) => if v.cells.length = n ∧ off + n ≤ cs.length ∧ v.cells.all DV.one = true then some (.cells ty (cs.take off ++ v.cells ++ cs.drop (off + n))) else none
 | some n, some (.row ty cs) => if v.cells.length = n ∧ off + n ≤ cs.length ∧ v.cells.all DV.one = true then some (.row ty (cs.take off ++ v.cells ++ cs.drop (off + n))) else none
 | _, _ => none
def WO' {K : DH → Prop} (x : Option DObj) (i : Nat) (H : DH) (b : Later K) : Prop := match x with | some o => K (H.set i o) | none => False
theorem WO'_some {o : DObj} {i : Nat} {K : DH → Prop} {b : Later K} : WO' (some o) i H b = K (H.set i o) := rfl
theorem WO'_ifn {c : Prop} [Decidable c] {o : DObj} {i : Nat} {K : DH → Prop} {b : Later K} : WO' (if c then some o else none) i H b = (c ∧ K (H.set i o)) := by
 apply propext; by_cases h : c <;> simp [h, WO']
theorem st {t : TypeId} {i off : Nat} {v : DV} {K : DH → Prop} {b : Later K} : WH (storeD T t (.ptr i off) v H) b = WO' (storeIn (T.size t) (H.m i) off v) i H b := by
 unfold storeD storeIn
 cases T.size t with
 | none => rfl
 | some n =>
  simp only
  generalize H.m i = o
  cases o with
  | none => rfl
  | some o =>
   cases o with
   | cells ty cs =>
    simp only
    split <;> rfl
   | row ty cs =>
    simp only
    split <;> rfl
   | _ => rfl
def WI {K : DV → DH → Prop} (o : Option DObj) (i : Nat) (H : DH) (b : Later K) : Prop := match o with
 | some (.iter s pos) => WX (if pos < s.length then
    some (.tup [.bool true, .int .i64 pos, .int .i32 (Utf8.decode ⟨s.toArray⟩ pos).1], H.set i (.iter s (pos + (Utf8.decode ⟨s.toArray⟩ pos).2)))
   else some (.tup [.bool false], H)) b
 | _ => False
theorem nx {i : Nat} {K : DV → DH → Prop} {b : Later K} : WX (nextD (.ptr i 0) true H) b = WI (H.m i) i H b := by
 unfold nextD WI
 simp only
 generalize H.m i = o
 cases o with
 | none => rfl
 | some o => cases o <;> rfl
theorem WI_some {s : List UInt8} {pos i : Nat} {K : DV → DH → Prop} {b : Later K} : WI (some (.iter s pos)) i H b = WIf (decide (pos < s.length)) (.mk (K (.tup [.bool true, .int .i64 pos, .int .i32 (Utf8.decode ⟨s.toArray⟩ pos).1]) (H.set i (.iter s (pos + (Utf8.decode ⟨s.toArray⟩ pos).2))), K (.tup [.bool false]) H)) := by
 show WX (if _ then _ else _) b = _
 rw [WX_if]; rfl
def IsSl (lo : Nat) (H : DH) (e sz : Nat) (v : DV) (es : List DV) : Prop :=
 (v = .nils ∧ es = []) ∨ ∃ id off k, v = .sl id sz off es ∧ H.m id = some (.tip e k true) ∧ k = off + es.length ∧ lo ≤ id ∧ id < H.next ∧ es ≠ []
structure Same (v : DV) (H H' : DH) : Prop where
 le : H.next ≤ H'.next
 same : ∀ b, b < H.next → (∀ id sz off es, v = .sl id sz off es → b ≠ id) → H'.m b = H.m b
theorem Same.keep {v : DV} {H H' : DH} {lo e sz : Nat} {es : List DV} {b : Nat} {o : DObj} (h : Same v H H') (hs : IsSl lo H e sz v es) (hb : b < H.next) (ho : H.m b = some o) (hn : ∀ T n c, o ≠ .tip T n c) : H'.m b = some o := by
 rw [h.same b hb, ho]
 rintro id sz' off es' rfl rfl
 rcases hs with ⟨h1, _⟩ | ⟨id', off', k, h1, h2, _⟩
 ·cases h1
 ·cases h1
  rw [ho] at h2
  cases h2
  exact hn _ _ _ rfl
theorem Same.ext {v : DV} {H0 H H' : DH} {e sz : Nat} {es : List DV} (h : Same v H H') (hs : IsSl H0.next H e sz v es) (x : Ext H0 H) : Ext H0 H' := by
 refine ⟨Nat.le_trans x.le h.le, fun b hb => ?_⟩
 rw [h.same b (Nat.lt_of_lt_of_le hb x.le), x.same b hb]
 rintro id sz' off es' rfl
 rcases hs with ⟨h1, _⟩ | ⟨id', off', k, h1, h2, _, h4, _⟩
 ·cases h1
 ·cases h1; omega
theorem IsSl.ext {lo : Nat} {H H' : DH} {e sz : Nat} {v : DV} {es : List DV} (h : IsSl lo H e sz v es) (x : Ext H H') : IsSl lo H' e sz v es := by
 rcases h with h | ⟨id, off, k, h1, h2, h3, h4, h5⟩
 ·exact .inl h
 ·exact .inr ⟨id, off, k, h1, by rw [x.same id h5.1, h2], h3, h4, Nat.lt_of_lt_of_le h5.1 x.le, h5.2⟩
theorem IsSl.low {lo lo' : Nat} {H : DH} {e sz : Nat} {v : DV} {es : List DV} (h : IsSl lo H e sz v es) (x : lo' ≤ lo) : IsSl lo' H e sz v es := by
 rcases h with h | ⟨id, off, k, h1, h2, h3, h4, h5⟩
 ·exact .inl h
 ·exact .inr ⟨id, off, k, h1, h2, h3, by omega, h5⟩
theorem IsSl.set {lo : Nat} {H : DH} {e sz : Nat} {v : DV} {es : List DV} (h : IsSl lo H e sz v es) {b : Nat} {o o' : DObj} (hb : H.m b = some o) (hn : ∀ T n c, o ≠ .tip T n c) : IsSl lo (H.set b o') e sz v es := by
 rcases h with h | ⟨id, off, k, h1, h2, h3, h4, h5⟩
 ·exact .inl h
 ·refine .inr ⟨id, off, k, h1, ?_, h3, h4, h5⟩
  rw [set_m, if_neg, h2]
  rintro rfl
  rw [hb] at h2; cases h2; exact hn _ _ _ rfl
theorem IsSl.setc {lo : Nat} {H : DH} {e sz : Nat} {v : DV} {es : List DV} (h : IsSl lo H e sz v es) {b : Nat} {T : TypeId} {cs : List DV} {o' : DObj} (hb : H.m b = some (.cells T cs)) : IsSl lo (H.set b o') e sz v es := h.set hb (by simp)
theorem IsSl.new {lo : Nat} {H : DH} {e sz : Nat} {v : DV} {es : List DV} (h : IsSl lo H e sz v es) {o : DObj} : IsSl lo (H.new o) e sz v es := h.ext Ext.refl.new
theorem IsSl.one {lo : Nat} {H : DH} {e sz : Nat} {v : DV} {es : List DV} (h : IsSl lo H e sz v es) : v.cells = [v] ∧ v.one = true := by
 rcases h with ⟨rfl, _⟩ | ⟨id, off, k, rfl, _⟩ <;> exact ⟨rfl, rfl⟩
theorem IsSl.len {lo : Nat} {H H' : DH} {e sz : Nat} {v : DV} {es : List DV} {T : Tab} {t : TypeId} (h : IsSl lo H e sz v es) (ht : T.und t = some (.slice e)) : lenD T H' t v = some (.int .i64 es.length) := by
 rcases h with ⟨rfl, rfl⟩ | ⟨id, off, k, rfl, _⟩ <;> simp [lenD, ht]
theorem app {lo : Nat} {t u e : TypeId} {n by_ : Nat} {du : TypeDesc} {z : DV} {v x : DV} {es new : List DV} {K : DV → DH → Prop} {b : Later K} (h1 : T.und t = some (.slice e)) (h2 : T.size e = some n) (h3 : T.bytes e = some by_) (h4 : T.und u = some du) (h5 : T.zero e = some z)
  (h6 : srcOk du = true) (h7 : z.cells.length = n) (h8 : 0 < n) (hs : IsSl lo H e n v es) (hx : elemsOf n x = some new) (hlo : lo ≤ H.next) (hb : (es.length + new.length) * by_ ≤ 140737488355328) (hb2 : es.length + new.length < 9223372036854775808)
  (k : ∀ v' H', IsSl lo H' e n v' (es ++ new) → Same v H H' → K v' H') (hwr : T.wr e = false := by rfl) : WX (appendD T t u v x H) b := by
 unfold appendD
 simp only [h1, h2, h3, h4, h5, hx]
 rw [if_pos ⟨h8, h6, h7⟩]
 rcases hs with ⟨rfl, rfl⟩ | ⟨id, off, kk, rfl, g2, g3, g4, g5⟩
 ·simp only
  rw [if_pos (by simp only [List.length_nil, Nat.zero_add] at hb hb2; exact ⟨hb, hb2⟩)]
  split
  ·rename_i hn
   rw [List.isEmpty_iff] at hn
   subst hn
   exact k _ _ (.inl ⟨rfl, rfl⟩) ⟨Nat.le_refl _, fun _ _ _ => rfl⟩
  ·rw [if_neg (by rw [hwr]; simp)]
   refine k _ _ (.inr ⟨H.next, 0, new.length, rfl, ?_, by simp, hlo, Nat.lt_succ_self _, by rename_i hn; simpa [List.isEmpty_iff] using hn⟩) ⟨Nat.le_succ _, fun b hb _ => ?_⟩
   ·exact if_pos rfl
   ·exact if_neg (by omega)
 ·simp only [g2]
  rw [if_pos (by simp only [true_and]; exact ⟨g3, hb, hb2⟩)]
  refine k _ _ (.inr ⟨id, off, kk + new.length, rfl, ?_, by simp; omega, g4, g5.1, by simp [g5.2]⟩) ⟨Nat.le_refl _, fun b hb hne => ?_⟩
  ·rw [set_m, if_pos rfl]
  ·rw [set_m, if_neg (hne _ _ _ _ rfl)]
theorem ia_hs {t : TypeId} {id sz off len : Nat} {k : IntKind} {i : Int} : WD (indexAtD T t (.hs id sz off len) (.int k i)) b = (∃ e, T.und t = some (.slice e) ∧ T.size e = some sz ∧ 0 ≤ i ∧ i < len ∧ K (.ptr id (off + i.toNat * sz))) := by
 apply propext
 cases h : T.und t with
 | none => simp [indexAtD, h, WD]
 | some d =>
  cases d with
  | slice e =>
   simp only [indexAtD, h]
   by_cases hs : T.size e = some sz ∧ 0 ≤ i ∧ i < len
   ·rw [if_pos hs]; simp [WD, hs]
   ·rw [if_neg hs]
    simp only [WD, false_iff, not_exists, not_and, Option.some.injEq, TypeDesc.slice.injEq]
    rintro e' rfl h1 h2 h3
    exact absurd ⟨h1, h2, h3⟩ hs
  | _ => simp [indexAtD, h, WD]
theorem sl_hs {t : TypeId} {id sz off len : Nat} {lo hi : Option DV} : WD (sliceD T t (.hs id sz off len) lo hi) b = (∃ e, T.und t = some (.slice e) ∧ T.size e = some sz ∧ WN (boundD hi len len) (.mk fun h => WN (boundD lo 0 h) (.mk fun l => K (.hs id sz (off + l * sz) (h - l))))) := by
 apply propext
 cases h : T.und t with
 | none => simp [sliceD, h, WD]
 | some d =>
  cases d with
  | slice e =>
   simp only [sliceD, h]
   by_cases hs : T.size e = some sz
   ·rw [if_pos hs]
    cases boundD hi len len with
    | none => simp [WD, WN, hs]
    | some h => simp only [WN_some]; cases boundD lo 0 h <;> simp [WD, WN, hs]
   ·rw [if_neg hs]; simp [WD, hs]
  | _ => simp [sliceD, h, WD]
theorem ln_hs {t : TypeId} {id sz off len : Nat} : lenD T H t (.hs id sz off len) = match T.und t with | some (.slice _) => some (.int .i64 len) | _ => none := rfl
theorem cl_hs {x y z n : Nat} : (DV.hs x y z n).cells = [.hs x y z n] := rfl
theorem on_hs {x y z n : Nat} : (DV.hs x y z n).one = true := rfl
theorem app_hs {t u e : TypeId} {n by_ : Nat} {du : TypeDesc} {z : DV} {x : DV} {id off len : Nat} {cs new : List DV} {K : DV → DH → Prop} {b : Later K} (h1 : T.und t = some (.slice e)) (h2 : T.size e = some n) (h3 : T.bytes e = some by_) (h4 : T.und u = some du) (h5 : T.zero e = some z)
  (h6 : srcOk du = true) (h7 : z.cells.length = n) (h8 : 0 < n) (hm : H.m id = some (.row e cs)) (hc : off + len * n ≤ cs.length) (hx : elemsOf n x = some new) (hne : new ≠ []) (hb : (len + new.length) * by_ ≤ 140737488355328) (hb2 : len + new.length < 9223372036854775808)
  (k : K (.hs H.next n 0 (len + new.length)) (H.mov id (.row e ((cs.drop off).take (len * n) ++ flat new)))) : WX (appendD T t u (.hs id n off len) x H) b := by
 unfold appendD
 simp only [h1, h2, h3, h4, h5, hx, hm]
 rw [if_pos ⟨h8, h6, h7⟩, if_pos (by simp only [true_and]; exact ⟨hc, hb, hb2, hne⟩)]
 exact k
theorem app_hn {t u e : TypeId} {n by_ : Nat} {du : TypeDesc} {z : DV} {x : DV} {new : List DV} {K : DV → DH → Prop} {b : Later K} (h1 : T.und t = some (.slice e)) (h2 : T.size e = some n) (h3 : T.bytes e = some by_) (h4 : T.und u = some du) (h5 : T.zero e = some z)
  (h6 : srcOk du = true) (h7 : z.cells.length = n) (h8 : 0 < n) (hx : elemsOf n x = some new) (hne : new ≠ []) (hb : new.length * by_ ≤ 140737488355328) (hb2 : new.length < 9223372036854775808)
  (k : K (.hs H.next n 0 new.length) (H.new (.row e (flat new)))) (hwr : T.wr e = true := by rfl) : WX (appendD T t u .nils x H) b := by
 unfold appendD
 simp only [h1, h2, h3, h4, h5, hx]
 rw [if_pos ⟨h8, h6, h7⟩, if_pos ⟨hb, hb2⟩, if_neg (by simpa [List.isEmpty_iff] using hne), if_pos hwr]
 exact k
theorem mk_sl {t e : TypeId} {n by_ : Nat} {z : DV} {l c : Int} {K : DV → DH → Prop} {b : Later K} (h1 : T.und t = some (.slice e)) (h2 : T.size e = some n) (h3 : T.bytes e = some by_) (h5 : T.zero e = some z) (h7 : z.cells.length = n) (h8 : 0 < n) (h9 : z.cells.all DV.one = true)
  (hl : 0 ≤ l) (hlc : l ≤ c) (hc : c < 9223372036854775808) (hb : by_ * c ≤ 140737488355328) (k : K (.hs H.next n 0 l.toNat) (H.new (.row e (flat (List.replicate l.toNat z))))) : WX (makeSliceD T t (.int .i64 l) (.int .i64 c) H) b := by
 unfold makeSliceD
 simp only [h1, h2, h3, h5]
 rw [if_pos ⟨hl, hlc, hc, hb, h8, h7, h9⟩]
 exact k
theorem mm_none {t : TypeId} {K : DV → DH → Prop} {b : Later K} : WX (makeMapD T t none H) b = K (.mp H.next) (H.new (.map [])) := rfl
def gotD (z : DV) (ok : Bool) : Option DV → DV
 | some v => if ok then .tup [v, .bool true] else v
 | none => if ok then .tup [z, .bool false] else z
theorem lk {t kt et : TypeId} {d : TypeDesc} {z i : DV} {m : Nat} {ok : Bool} {es : List (DV × DV)} {r : Option DV} {K : DV → Prop} {b : Later K} (h1 : T.und t = some (.map kt et)) (h2 : T.und kt = some d) (h3 : T.zero et = some z) (hm : H.m m = some (.map es))
  (hp : plainKey d i = true) (hf : findD d i es = some r) (k : K (gotD z ok r)) : WD (lookupD T t (.mp m) i ok H) b := by
 unfold lookupD entriesD
 simp only [h1, h2, h3, hm]
 rw [if_pos hp, hf]
 cases r <;> exact k
theorem up {t kt et : TypeId} {d : TypeDesc} {i v : DV} {m : Nat} {es l : List (DV × DV)} {K : DH → Prop} {b : Later K} (h1 : T.und t = some (.map kt et)) (h2 : T.und kt = some d) (hm : H.m m = some (.map es))
  (hp : plainKey d i = true) (hf : insD d i v es = some l) (k : K (H.set m (.map l))) : WH (updateD T t (.mp m) i v H) b := by
 unfold updateD
 simp only [h1, h2, hm]
 rw [if_pos hp, hf]
 exact k
theorem cl_bool {x : Bool} : (DV.bool x).cells = [.bool x] := rfl
theorem cl_int {k : IntKind} {x : Int} : (DV.int k x).cells = [.int k x] := rfl
theorem cl_flt {k : FloatKind} {x : Nat} : (DV.flt k x).cells = [.flt k x] := rfl
theorem cl_str {x : List UInt8} : (DV.str x).cells = [.str x] := rfl
theorem cl_nilp : (DV.nilp).cells = [.nilp] := rfl
theorem cl_ptr {x y : Nat} : (DV.ptr x y).cells = [.ptr x y] := rfl
theorem cl_ip {x : List DV} : (DV.ip x).cells = [.ip x] := rfl
theorem cl_nils : (DV.nils).cells = [.nils] := rfl
theorem cl_sl {x y z : Nat} {e : List DV} : (DV.sl x y z e).cells = [.sl x y z e] := rfl
theorem cl_nilm : (DV.nilm).cells = [.nilm] := rfl
theorem cl_mp {x : Nat} : (DV.mp x).cells = [.mp x] := rfl
theorem cl_fn {f : Fn} {x y : List DV} : (DV.fn f x y).cells = [.fn f x y] := rfl
theorem cl_nilf : (DV.nilf).cells = [.nilf] := rfl
theorem cl_nili : (DV.nili).cells = [.nili] := rfl
theorem cl_ifc {t : TypeId} {x : DV} : (DV.ifc t x).cells = [.ifc t x] := rfl
theorem cl_agg {x : List DV} : (DV.agg x).cells = x := rfl
theorem on_bool {x : Bool} : (DV.bool x).one = true := rfl
theorem on_int {k : IntKind} {x : Int} : (DV.int k x).one = true := rfl
theorem on_flt {k : FloatKind} {x : Nat} : (DV.flt k x).one = true := rfl
theorem on_str {x : List UInt8} : (DV.str x).one = true := rfl
theorem on_nilp : (DV.nilp).one = true := rfl
theorem on_ptr {x y : Nat} : (DV.ptr x y).one = true := rfl
theorem on_ip {x : List DV} : (DV.ip x).one = true := rfl
theorem on_nils : (DV.nils).one = true := rfl
theorem on_sl {x y z : Nat} {e : List DV} : (DV.sl x y z e).one = true := rfl
theorem on_nilm : (DV.nilm).one = true := rfl
theorem on_mp {x : Nat} : (DV.mp x).one = true := rfl
theorem on_fn {f : Fn} {x y : List DV} : (DV.fn f x y).one = true := rfl
theorem on_nilf : (DV.nilf).one = true := rfl
theorem on_nili : (DV.nili).one = true := rfl
theorem on_ifc {t : TypeId} {x : DV} : (DV.ifc t x).one = true := rfl
theorem on_agg {x : List DV} : (DV.agg x).one = false := rfl
theorem bl_len {t : TypeId} {l : List TypeId} {x : DV} {K : DV → DH → Prop} {b : Later K} : WX (builtinD T .len (t :: l) [x] H) b = WD (lenD T H t x) (.mk fun v => K v H) := by
 simp only [builtinD]; cases lenD T H t x <;> rfl
theorem bl_append {t u : TypeId} {x y : DV} {K : DV → DH → Prop} {b : Later K} : WX (builtinD T .append [t, u] [x, y] H) b = WX (appendD T t u x y H) b := rfl
theorem bl_sd {l : List TypeId} {x : DV} {K : DV → DH → Prop} {b : Later K} : WX (builtinD T .unsafeSliceData l [x] H) b = WD (dataD x) (.mk fun v => K v H) := by
 simp only [builtinD]; cases dataD x <;> rfl
theorem bl_us {t u : TypeId} {x y : DV} {K : DV → DH → Prop} {b : Later K} : WX (builtinD T .unsafeString [t, u] [x, y] H) b = WD (unsafeStrD T H t x y) (.mk fun v => K v H) := by
 simp only [builtinD]; cases unsafeStrD T H t x y <;> rfl
theorem bl_max {l : List TypeId} {x y : DV} {K : DV → DH → Prop} {b : Later K} : WX (builtinD T .max l [x, y] H) b = WD (maxD x y) (.mk fun v => K v H) := by
 simp only [builtinD]; cases maxD x y <;> rfl
theorem bl_min {l : List TypeId} {x y : DV} {K : DV → DH → Prop} {b : Later K} : WX (builtinD T .min l [x, y] H) b = WD (minD x y) (.mk fun v => K v H) := by
 simp only [builtinD]; cases minD x y <;> rfl
theorem ln_str {t : TypeId} {s : List UInt8} : lenD T H t (.str s) = match T.und t with | some .string => some (.int .i64 s.length) | _ => none := rfl
theorem ln_nils {t : TypeId} : lenD T H t .nils = match T.und t with | some (.slice _) => some (.int .i64 0) | _ => none := rfl
theorem ln_sl {t : TypeId} {x y z : Nat} {e : List DV} : lenD T H t (.sl x y z e) = match T.und t with | some (.slice _) => some (.int .i64 e.length) | _ => none := rfl
theorem dt_nils : dataD .nils = some .nilp := rfl
theorem dt_sl {x y z : Nat} {e : List DV} (h : e ≠ []) : dataD (.sl x y z e) = some (.sd x y z e) := by
 simp [dataD, h]
end Go.Proofs.YtcknfhhbijlobaaGreatDoor.D
namespace Go.Proofs.YtcknfhhbijlobaaGreatDoor.D
open Go
set_option linter.unusedVariables false
set_option linter.unusedSimpArgs false
structure Ld where
 o : Oper
 d : Nat
 σ : Sg
 v : DV
 hi : Nat
def getW : List (Nat × Nat × Nat) → Nat → Option (Nat × Nat)
 | [], _ => none
 | (i, lo, hi) :: r, j => if i = j then some (lo, hi) else getW r j
def FH (C : Cfg) (ops : Array Oper) (o : Oper) (d : Nat) (σ : Sg) (v : DV) (lo : Nat) : List (Nat × DH) → Prop
 | [] => True
 | (k, Hk) :: r => (lo ≤ k → WO C ops [o] σ Hk fun σ2 _ => σ2 d = v) ∧ FH C ops o d σ v lo r
def FL (C : Cfg) (ops : Array Oper) (i : Nat) (H' : DH) : List Ld → Prop
 | [] => True
 | l :: r => (i < l.hi → WO C ops [l.o] l.σ H' fun σ2 _ => σ2 l.d = l.v) ∧ FL C ops i H' r
def FW (C : Cfg) (ops : Array Oper) (o : Oper) (i : Nat) (hs : List (Nat × DH)) (lds : List Ld) (σ σ' : Sg) (k : List Ld → Prop) : Option (Nat × Nat) → Option Nat → Prop
 | some (lo, hi), some d => FH C ops o d σ (σ' d) lo hs ∧ k (⟨o, d, σ, σ' d, hi⟩ :: lds)
 | _, _ => k lds
def WOF (C : Cfg) (ops : Array Oper) (wins : List (Nat × Nat × Nat)) : List Oper → Nat → List (Nat × DH) → List Ld → Sg → DH → Pt → Prop
 | [], _, _, _, σ, H, K => K σ H
 | o :: r, i, hs, lds, σ, H, K => WO C ops [o] σ H fun σ' H' => FL C ops i H' lds ∧ FW C ops o i hs lds σ σ' (fun lds' => WOF C ops wins r (i + 1) ((i + 1, H') :: hs) lds' σ' H' K) (getW wins i) o.dst
variable {C : Cfg} {σ : Sg} {H : DH} {n : Pt} {e g : Nat → Pt} {r : Pt} {ops : Array Oper} {K : Pt}
theorem WO_one {o : Oper} : WO C ops [o] σ H K ↔ ∃ v H', one C.T (callF C) ops o (σ, H) = some (v, H') ∧ K (put σ o.dst v) H' := by
 unfold WO one
 simp only [evalOps]
 rcases wantedD ops o σ with _ | _ | _
 ·simp
 ·simp only [Option.some.injEq, Prod.mk.injEq]
  constructor
  ·rintro ⟨s', rfl, h⟩; exact ⟨_, _, ⟨rfl, rfl⟩, h⟩
  ·rintro ⟨v, H', ⟨rfl, rfl⟩, h⟩; exact ⟨_, rfl, h⟩
 ·cases evalOp C.T (callF C) o.op σ H with
  | none => simp
  | some q =>
   obtain ⟨v, H'⟩ := q
   simp only [Option.some.injEq, Prod.mk.injEq]
   constructor
   ·rintro ⟨s', rfl, h⟩; exact ⟨_, _, ⟨rfl, rfl⟩, h⟩
   ·rintro ⟨v, H', ⟨rfl, rfl⟩, h⟩; exact ⟨_, rfl, h⟩
theorem FH_mem {o : Oper} {d : Nat} {v : DV} {lo : Nat} : ∀ {hs : List (Nat × DH)}, FH C ops o d σ v lo hs → ∀ k Hk, (k, Hk) ∈ hs → lo ≤ k → WO C ops [o] σ Hk fun σ2 _ => σ2 d = v
 | [], _, _, _, h, _ => by cases h
 | (k0, H0) :: r, hf, k, Hk, h, hl => by
  rcases List.mem_cons.1 h with h | h
  ·cases h; exact hf.1 hl
  ·exact FH_mem hf.2 k Hk h hl
theorem FL_mem {i : Nat} {H' : DH} : ∀ {lds : List Ld}, FL C ops i H' lds → ∀ l ∈ lds, i < l.hi → WO C ops [l.o] l.σ H' fun σ2 _ => σ2 l.d = l.v
 | [], _, _, h, _ => by cases h
 | l0 :: r, hf, l, h, hl => by
  rcases List.mem_cons.1 h with h | h
  ·cases h; exact hf.1 hl
  ·exact FL_mem hf.2 l h hl
def OKat (C : Cfg) (ops : Array Oper) (s0 : St) (i k : Nat) : Prop := ∀ (o : Oper) si v H' sk, ops[i]? = some o → evalOps C.T (callF C) ops (ops.toList.take i) s0 = some si → one C.T (callF C) ops o si = some (v, H') →
 evalOps C.T (callF C) ops (ops.toList.take k) s0 = some sk → one C.T (callF C) ops o (si.1, sk.2) = some (v, sk.2)
theorem WOF_ok {wins : List (Nat × Nat × Nat)} {s0 : St} : ∀ (l pre : List Oper) (i : Nat) (hs : List (Nat × DH)) (lds : List Ld) (σ : Sg) (H : DH), pre ++ l = ops.toList → pre.length = i → evalOps C.T (callF C) ops pre s0 = some (σ, H) →
  (∀ k, k ≤ i → ∀ sk, evalOps C.T (callF C) ops (ops.toList.take k) s0 = some sk → (k, sk.2) ∈ hs) →
  (∀ (i' : Nat) (o : Oper) (lo hi : Nat), i' < i → ops[i']? = some o → isRead o.op = true → o.dst.isSome = true → getW wins i' = some (lo, hi) →
   (∃ l ∈ lds, l.o = o ∧ o.dst = some l.d ∧ l.hi = hi ∧ ∃ Hi, evalOps C.T (callF C) ops (ops.toList.take i') s0 = some (l.σ, Hi) ∧ one C.T (callF C) ops o (l.σ, Hi) = some (l.v, Hi)) ∧
   ∀ k, lo ≤ k → k ≤ hi → k ≤ i → OKat C ops s0 i' k) →
  WOF C ops wins l i hs lds σ H K →
  ∃ s', evalOps C.T (callF C) ops l (σ, H) = some s' ∧ K s'.1 s'.2 ∧
   ∀ (i' : Nat) (o : Oper) (lo hi : Nat), ops[i']? = some o → isRead o.op = true → o.dst.isSome = true → getW wins i' = some (lo, hi) → ∀ k, lo ≤ k → k ≤ hi → k ≤ ops.size → OKat C ops s0 i' k
 | [], pre, i, hs, lds, σ, H, hl, hi, he, hhs, hld, h => by
  refine ⟨(σ, H), rfl, h, fun i' o lo hi' ho hr hd hw k h1 h2 h3 => ?_⟩
  have hsz : ops.size = i := by
   have := congrArg List.length hl
   simp at this; omega
  have hlt := (Array.getElem?_eq_some_iff.1 ho).1
  exact (hld i' o lo hi' (by omega) ho hr hd hw).2 k h1 h2 (by omega)
 | o :: r, pre, i, hs, lds, σ, H, hl, hi, he, hhs, hld, h => by
  obtain ⟨v, H', hone, hFL, hFW⟩ := WO_one.1 h
  have hoi : ops[i]? = some o := by
   rw [← Array.getElem?_toList, ← hl, List.getElem?_append_right (by omega), hi]; simp
  have hti : ops.toList.take i = pre := by rw [← hl, ← hi]; simp
  have hti1 : ops.toList.take (i + 1) = pre ++ [o] := by
   rw [List.take_add_one, hti, Array.getElem?_toList, hoi]; rfl
  have he1 : evalOps C.T (callF C) ops (pre ++ [o]) s0 = some (put σ o.dst v, H') := by
   rw [evalOps_append, he]
   simp only
   rw [evalOps_cons, hone]; rfl
  have hhs' : ∀ k, k ≤ i + 1 → ∀ sk, evalOps C.T (callF C) ops (ops.toList.take k) s0 = some sk → (k, sk.2) ∈ (i + 1, H') :: hs := by
   intro k hk sk hsk
   rcases Nat.lt_or_ge i k with q | q
   ·obtain rfl : k = i + 1 := by omega
    rw [hti1, he1] at hsk
    cases hsk
    exact List.mem_cons_self ..
   ·exact List.mem_cons_of_mem _ (hhs k q sk hsk)
  obtain ⟨lds', hk', hsub, hnew⟩ : ∃ lds', WOF C ops wins r (i + 1) ((i + 1, H') :: hs) lds' (put σ o.dst v) H' K ∧ (∀ l ∈ lds, l ∈ lds') ∧
    ∀ lo hi d, getW wins i = some (lo, hi) → o.dst = some d → (⟨o, d, σ, put σ o.dst v d, hi⟩ : Ld) ∈ lds' ∧ FH C ops o d σ (put σ o.dst v d) lo hs := by
   cases hw : getW wins i with
   | none => rw [hw] at hFW; exact ⟨lds, hFW, fun l h => h, fun lo hi d h => by cases h⟩
   | some q =>
    obtain ⟨lo, hi'⟩ := q
    cases hd : o.dst with
    | none => rw [hw, hd] at hFW; exact ⟨lds, hFW, fun l h => h, fun lo hi d _ h => by cases h⟩
    | some d =>
     rw [hw, hd] at hFW
     exact ⟨_, hFW.2, fun l h => List.mem_cons_of_mem _ h, fun lo2 hi2 d2 h1 h2 => by cases h1; cases h2; exact ⟨List.mem_cons_self .., hFW.1⟩⟩
  have IH := WOF_ok r (pre ++ [o]) (i + 1) _ lds' (put σ o.dst v) H' (by simpa using hl) (by simp [hi]) he1 hhs' ?_ hk'
  ·obtain ⟨s', q1, q2, q3⟩ := IH
   refine ⟨s', ?_, q2, q3⟩
   rw [evalOps_cons, hone]; exact q1
  ·intro i' o' lo hi' hlt ho' hr hd hw
   rcases Nat.lt_or_ge i' i with q | q
   ·obtain ⟨⟨ld, hmem, rfl, hdst, rfl, Hi, g1, g2⟩, hok⟩ := hld i' o' lo hi' q ho' hr hd hw
    refine ⟨⟨ld, hsub _ hmem, rfl, hdst, rfl, Hi, g1, g2⟩, fun k h1 h2 h3 => ?_⟩
    rcases Nat.lt_or_ge i k with q2 | q2
    ·obtain rfl : k = i + 1 := by omega
     intro o2 si v2 H2 sk ho2 e1 e2 e3
     rw [ho'] at ho2; cases ho2
     rw [g1] at e1; cases e1
     rw [g2] at e2; cases e2
     rw [hti1, he1] at e3; cases e3
     obtain ⟨v3, H3, f1, f2⟩ := WO_one.1 (FL_mem hFL ld hmem (by omega))
     have f3 := one_read hr f1
     subst f3
     rw [hdst] at f2
     simp only [put, upd, if_pos] at f2
     rw [f1, f2]
    ·exact hok k h1 h2 q2
   ·obtain rfl : i' = i := by omega
    rw [hoi] at ho'; cases ho'
    cases hdd : o.dst with
    | none => rw [hdd] at hd; cases hd
    | some d =>
     obtain ⟨m1, m2⟩ := hnew lo hi' d hw hdd
     have hH := one_read hr hone
     have hvd : put σ o.dst v d = v := by rw [hdd]; simp [put, upd]
     rw [hvd] at m1 m2
     refine ⟨⟨_, m1, rfl, rfl, rfl, H, by rw [hti]; exact he, by rw [hH] at hone; exact hone⟩, fun k h1 h2 h3 => ?_⟩
     intro o2 si v2 H2 sk ho2 e1 e2 e3
     rw [hoi] at ho2; cases ho2
     rw [hti, he] at e1; cases e1
     rw [hone] at e2; cases e2
     rcases Nat.lt_or_ge i' k with q2 | q2
     ·obtain rfl : k = i' + 1 := by omega
      rw [hti1, he1] at e3; cases e3
      rw [hH] at hone
      rw [hH]; exact hone
     ·obtain ⟨v3, H3, f1, f2⟩ := WO_one.1 (FH_mem m2 k sk.2 (hhs k q2 sk e3) h1)
      have f3 := one_read hr f1
      subst f3
      rw [hdd] at f2
      simp only [put, upd, if_pos] at f2
      simp only
      rw [f1, f2]
def winB (f : Nat) (m : List Nat) (l : List Oper) (i k : Nat) : Bool := l.zipIdx.all fun (p, j) => !loud p.op || j == f || ((!(m.getD i 0).testBit j || decide (j < k)) && (!(m.getD j 0).testBit i || decide (k ≤ j)))
def sameB (l : List Oper) (i k : Nat) : Bool := l.zipIdx.all fun (p, j) => !loud p.op || !(decide (min i k ≤ j) && decide (j < max i k))
def inW (wins : List (Nat × Nat × Nat)) (i k : Nat) : Bool := match getW wins i with | some (lo, hi) => decide (lo ≤ k) && decide (k ≤ hi) | none => false
def winOk (f : Nat) (wins : List (Nat × Nat × Nat)) (l : List Oper) : Bool :=
 lookF f false l.toArray && l.zipIdx.all fun (o, i) => !isRead o.op || (o.dst.isSome && (List.range (l.length + 1)).all fun k => !winB f (masks l) l i k || sameB l i k || inW wins i k)
theorem Y_early {id : Nat} {l : List Oper} {p : Later (Code.region id l.toArray true, n, e, g, r)} (f : Nat) (wins : List (Nat × Nat × Nat)) (h : winOk f wins l = true) (k : WOF C l.toArray wins l 0 [(0, H)] [] σ H n) :
  Y C (.region id l.toArray true) σ H n e g r p := by
 unfold Y
 rw [lite, if_pos rfl, propext W_region]
 obtain ⟨s', h1, h2, h3⟩ := WOF_ok (C := C) (ops := l.toArray) (K := n) (wins := wins) (s0 := (σ, H)) l [] 0 [(0, H)] [] σ H rfl rfl rfl
  (fun k hk sk hsk => by
   obtain rfl : k = 0 := by omega
   simp [evalOps] at hsk
   subst hsk; simp) (fun i' o lo hi hlt => by omega) k
 refine ⟨fun _ => .inr ?_, s', h1, h2⟩
 simp only [winOk, Bool.and_eq_true, List.all_eq_true] at h
 obtain ⟨w1, w2⟩ := h
 refine ⟨f, w1, fun i o ho hr k hk hw si v H' sk a b c => ?_⟩
 have hmem : (o, i) ∈ l.zipIdx := by rw [List.mem_zipIdx_iff_getElem?]; simpa using ho
 have := w2 (o, i) hmem
 simp only [hr, Bool.not_true, Bool.false_or, Bool.and_eq_true, List.all_eq_true, Bool.or_eq_true] at this
 obtain ⟨hd, hall⟩ := this
 have hk2 := hall k (List.mem_range.2 (by simp at hk; omega))
 have C0 := (look_spec w1).1
 obtain ⟨val, hp, X, e1, e2, e3⟩ := text_of C0 h1
 rcases hk2 with (hk2 | hk2) | hk2
 ·exfalso
  simp only [winB, Bool.not_eq_true', List.all_eq_false] at hk2
  obtain ⟨⟨q, j⟩, hq, hne⟩ := hk2
  rw [List.mem_zipIdx_iff_getElem?] at hq
  simp only at hq
  have hq' : l.toArray[j]? = some q := by simpa using hq
  apply hne
  cases hlq : loud q.op with
  | false => simp
  | true =>
   by_cases hjf : j = f
   ·simp [hjf]
   obtain ⟨g1, g2⟩ := hw j q hq' hlq hjf
   have k1 := masks_spec (ops := l.toArray) l [] [] rfl rfl (by simp)
   simp only [Bool.not_true, Bool.false_or, Bool.and_eq_true, Bool.or_eq_true, Bool.not_eq_true', decide_eq_true_eq]
   right
   constructor
   ·cases hb : ((masks l).getD i 0).testBit j with
    | false => exact .inl rfl
    | true => exact .inr (g1 (k1 i j hb))
   ·cases hb : ((masks l).getD j 0).testBit i with
    | false => exact .inl rfl
    | true => exact .inr (g2 (k1 j i hb))
 ·
  have hilt := (Array.getElem?_eq_some_iff.1 ho).1
  have tk := fun q hq => text_take C0 X q hq
  rw [e1] at tk
  have ti := tk i (by omega)
  rw [a] at ti; cases ti
  have tk2 := tk k hk
  rw [c] at tk2; cases tk2
  have hquiet : ∀ (i : Nat) (o : Oper), l.toArray[i]? = some o → loud o.op = false → hp (i + 1) = hp i := by
   intro i o ho hl
   have hx := X.step i o ho
   simp only [loud, Bool.not_eq_false', Bool.or_eq_true] at hl
   rcases hl with hl | hl
   ·exact (one_pure hl hx).1
   ·exact one_read hl hx
  have hseg : ∀ k k', k ≤ k' → k' ≤ l.toArray.size → (∀ (j : Nat) (p : Oper), l.toArray[j]? = some p → loud p.op = true → ¬ (k ≤ j ∧ j < k')) → hp k' = hp k := by
   intro k k' h1
   induction h1 with
   | refl => intros; rfl
   | step h ih =>
    rename_i m
    intro h2 h3
    have hm : m < l.toArray.size := by omega
    have ho : l.toArray[m]? = some l.toArray[m] := Array.getElem?_eq_getElem hm
    have hl : loud l.toArray[m].op = false := by
     cases hq : loud l.toArray[m].op with
     | false => rfl
     | true => exact absurd ⟨h, Nat.lt_succ_self m⟩ (h3 m _ ho hq)
    rw [hquiet m _ ho hl]
    exact ih (by omega) fun j p a b => by intro c; exact h3 j p a b ⟨c.1, by have := c.2; omega⟩
  have hno : ∀ (j : Nat) (p : Oper), l.toArray[j]? = some p → loud p.op = true → ¬ (min i k ≤ j ∧ j < max i k) := by
   intro j q hj hlq hc
   simp only [sameB, List.all_eq_true] at hk2
   have := hk2 (q, j) (by rw [List.mem_zipIdx_iff_getElem?]; simpa using hj)
   simp only [hlq, Bool.not_true, Bool.false_or, Bool.not_eq_true', Bool.and_eq_false_iff, decide_eq_false_iff_not] at this
   omega
  have heq : hp k = hp i := by
   rcases Nat.le_total i k with h | h
   ·exact hseg i k h hk fun j p a b => by have := hno j p a b; rw [Nat.min_eq_left h, Nat.max_eq_right h] at this; exact this
   ·exact (hseg k i h (by omega) fun j p a b => by have := hno j p a b; rw [Nat.min_eq_right h, Nat.max_eq_left h] at this; exact this).symm
  have hb2 := one_read hr b
  rw [heq]
  rw [hb2] at b
  exact b
 ·unfold inW at hk2
  cases hgw : getW wins i with
  | none => rw [hgw] at hk2; cases hk2
  | some q =>
   obtain ⟨lo, hi⟩ := q
   rw [hgw] at hk2
   simp only [Bool.and_eq_true, decide_eq_true_eq] at hk2
   exact h3 i o lo hi ho hr hd hgw k hk2.1 hk2.2 hk o si v H' sk ho a b c
theorem Y_float {id : Nat} {l : List Oper} {p : Later (Code.region id l.toArray true, n, e, g, r)} (wins : List (Nat × Nat × Nat)) (h : winOk l.length wins l = true) (k : WOF C l.toArray wins l 0 [(0, H)] [] σ H n) :
  Y C (.region id l.toArray true) σ H n e g r p := Y_early l.length wins h k
theorem F_nil {wins : List (Nat × Nat × Nat)} {i : Nat} {hs : List (Nat × DH)} {lds : List Ld} : WOF C ops wins [] i hs lds σ H K = K σ H := rfl
theorem F_cons {wins : List (Nat × Nat × Nat)} {i : Nat} {hs : List (Nat × DH)} {lds : List Ld} {o : Oper} {l : List Oper} : WOF C ops wins (o :: l) i hs lds σ H K = WO C ops [o] σ H fun σ' H' => FL C ops i H' lds ∧ FW C ops o i hs lds σ σ' (fun lds' => WOF C ops wins l (i + 1) ((i + 1, H') :: hs) lds' σ' H' K) (getW wins i) o.dst := rfl
end Go.Proofs.YtcknfhhbijlobaaGreatDoor.D
namespace Go.Proofs.YtcknfhhbijlobaaGreatDoor.D
open Go
def WFn (C : Cfg) {J : DV → DH → Prop} (v : DV) (x : List DV) (H : DH) (b : Later J) : Prop := match v with
 | .fn (.func g) a c => WK C g (a ++ x ++ c) H b
 | _ => False
theorem WFn_fn {C : Cfg} {J : DV → DH → Prop} {g : FuncId} {a c x : List DV} {H : DH} {b : Later J} : WFn C (.fn (.func g) a c) x H b = WK C g (a ++ x ++ c) H b := rfl
theorem s_callt {C : Cfg} {σ : Sg} {H : DH} {J : DV → DH → Prop} {t : Tmp} {as : Array Operand} {ts : Array TypeId} : W1 C (.call { callee := .value (.tmp t), args := as, argTypes := ts }) σ H J = WR (opds σ as.toList) (.mk fun x => WFn C (σ t) x H (.mk J)) := by
 apply propext; rw [W1_callt]
 constructor
 ·rintro ⟨args, h1, g, a, b, h2, h3⟩
  rw [h1, h2]; exact h3
 ·intro h
  cases ha : opds σ as.toList with
  | none => rw [ha] at h; exact h.elim
  | some args =>
   rw [ha] at h
   refine ⟨args, rfl, ?_⟩
   have h' : WFn C (σ t) args H (.mk J) := h
   unfold WFn at h'
   split at h'
   ·rename_i g a c e; exact ⟨g, a, c, e, h'⟩
   ·exact h'.elim
theorem mn_int {k k' : IntKind} {a b : Int} : minD (.int k a) (.int k' b) = some (.int k (if b < a then b else a)) := rfl
theorem mx_int {k k' : IntKind} {a b : Int} : maxD (.int k a) (.int k' b) = some (.int k (if b > a then b else a)) := rfl
attribute [go_sem ↓ low] Y_seq
attribute [go_sem ↓] Y_region_t Y_skip Y_label Y_ret Y_exit Y_goto Y_cond Y_block Y_region Y_scope YS_eq O_nil
attribute [go_sem ↓] O_1 O_0 O_gt O_gf gslot_succ gslot_zero s_move s_assign s_pick s_bin s_un s_conv
attribute [go_sem ↓] s_slice s_alloc s_box s_build s_buildSlice s_load s_store s_nilCheck s_fieldAddr s_field s_indexAddr s_index
attribute [go_sem ↓] s_callt s_makeSlice s_extract s_makeFunc s_callf s_callb s_range s_next s_makeMap s_lookup s_mapUpdate s_insert WL_none WL_some WR_nil WR_tmp WR_cell opd_tmp
attribute [go_sem ↓] opd_const opd_func cD_bool cD_int cD_flt cD_str cD_nilp cD_nils cD_nilf cD_nili cD_nilm opds_nil
attribute [go_sem ↓] opds_cons parts_nil parts_cons
attribute [go_sem] WGs_some WG_bool WG_undef WD_some WX_some WR_some WP_some WH_some WT_bool WIf_t WIf_f WIf_dec
attribute [go_sem] WIf_not WIf_beq WIf_bne WIf_and WIf_or WX_ifn WD_ifn WH_ifn WD_nif WX_map resOne_0 resOne_1
attribute [go_sem] resOne_2 put_some put_none upd_get f0_0 f0_s f0_n tupAt isSome' binD intOp strOp
attribute [go_sem] shiftOp eqOp isShift unD bound_none bound_some WN_some WN_ifn sl_str ix_str WBy_some WIx_some
attribute [go_sem] ld WVa_some cells_ptr cells_ip cellsIn_some st storeIn WO'_some WO'_ifn nx WI_some fieldAtD
attribute [go_sem] fieldD buildD fieldPlaces fillD rangeD takeVar isAggD cl_bool cl_int cl_flt cl_str cl_nilp
attribute [go_sem] cl_ptr cl_ip cl_nils cl_sl cl_nilm cl_mp cl_fn cl_nilf cl_nili cl_ifc cl_agg on_bool
attribute [go_sem] on_int on_flt on_str on_nilp on_ptr on_ip on_nils on_sl on_nilm on_mp on_fn on_nilf
attribute [go_sem] on_nili on_ifc on_agg bl_len bl_append bl_sd bl_us bl_max bl_min ln_str ln_nils ln_sl
attribute [go_sem] dt_nils Option.isSome_some if_true if_false List.getElem?_cons_zero List.getElem?_cons_succ Bool.not_eq_true decide_eq_true_eq List.toList_toArray Bool.false_eq_true not_true_eq_false not_false_eq_true
attribute [go_sem] and_true true_and wrap_i64 wrap_i32 wrap_u8 wrap_u64 decide_true decide_false Bool.not_true Bool.not_false forall_const Int.toNat_natCast
attribute [go_sem] List.length_cons List.length_nil List.take_succ_cons List.take_zero List.drop_succ_cons List.drop_zero List.head?_cons List.cons_append List.nil_append List.append_nil List.all_cons List.all_nil
attribute [go_sem] Bool.and_true Bool.true_and List.getElem?_toArray List.take_length List.drop_nil Int.toNat_zero set_m new_m set_next new_next ne_eq or_false
attribute [go_sem] false_or or_self Int.cast_ofNat_Int Int.natCast_zero Int.natCast_one beq_self_eq_true Nat.zero_lt_succ Nat.zero_add Nat.add_zero buildSliceD dense newSl
attribute [go_sem] beq_iff_eq iff_false iff_true Nat.one_pos gt_iff_lt ge_iff_le List.isEmpty_cons List.isEmpty_nil byteDV false_implies implies_true true_implies
attribute [go_sem] WFn_fn isConstO Bool.or_true Bool.true_or Bool.or_false Bool.false_or mn_int mx_int F_nil F_cons FH FL FW getW ia_hs sl_hs ln_hs cl_hs on_hs cellsIn_row mov_m mov_next and_self ia_sl sl_sl Option.some.injEq TypeDesc.slice.injEq exists_eq_left' exists_eq_left convD
attribute [go_sem_proc ↓] reduceIte
attribute [go_sem_proc] reduceCtorEq Nat.reduceEqDiff Nat.reduceAdd Nat.reduceLeDiff Int.reduceLE Int.reduceLT Int.reduceBEq Int.reduceBNe Int.reduceEq Nat.reduceBEq Int.reduceToNat Nat.reduceLT Nat.reduceGT Nat.reduceSub Nat.reduceMul Int.reduceAdd Int.reduceSub Int.reduceNeg Int.reduceGE Int.reduceGT
end Go.Proofs.YtcknfhhbijlobaaGreatDoor.D
namespace Go.Proofs.YtcknfhhbijlobaaGreatDoor.D
open Go
set_option linter.unusedVariables false
set_option linter.unusedSimpArgs false
theorem ba_at {s : List UInt8} {i : Nat} (h : i < s.length) : (⟨s.toArray⟩ : ByteArray).get! i = s[i] := by
 simp [ByteArray.get!, h]
theorem decode_lo {s : List UInt8} {i : Nat} (h : i < s.length) (hb : s[i].toNat < 128) : Utf8.decode ⟨s.toArray⟩ i = (s[i].toNat, 1) := by
 have : (⟨s.toArray⟩ : ByteArray).get! (i + 0) = s[i] := ba_at h
 simp only [Utf8.decode, this]
 rw [if_pos hb]
theorem decode_hi {s : List UInt8} {i : Nat} (h : i < s.length) (hb : ¬ s[i].toNat < 128) : 128 ≤ (Utf8.decode ⟨s.toArray⟩ i).1 := by
 have : (⟨s.toArray⟩ : ByteArray).get! (i + 0) = s[i] := ba_at h
 simp only [Utf8.decode, this]
 rw [if_neg hb]
 repeat' split
 all_goals first
  | (simp [Utf8.runeError]; done)
  | (rename_i h; simp only [Bool.and_eq_true, decide_eq_true_eq, ge_iff_le] at h; simp only; omega)
  | (rename_i h; simp only [ge_iff_le] at h; simp only; omega)
theorem decode_in {s set : List UInt8} {k : Nat} (hset : ∀ b ∈ set, b.toNat < 128) (h : k < s.length) : (set.any fun d => d.toNat == (Utf8.decode ⟨s.toArray⟩ k).1) = set.contains s[k] ∧ (set.contains s[k] = true → (Utf8.decode ⟨s.toArray⟩ k).2 = 1) := by
 by_cases hb : s[k].toNat < 128
 ·rw [decode_lo h hb]
  refine ⟨?_, fun _ => rfl⟩
  rw [List.contains_eq_any_beq]
  congr 1
  funext d
  rw [Bool.eq_iff_iff]
  simp only [beq_iff_eq]
  constructor
  ·intro h; exact (UInt8.toNat_inj.1 h).symm
  ·rintro rfl; rfl
 ·have h2 := decode_hi h hb
  have h3 : set.contains s[k] = false := by
   rw [Bool.eq_false_iff]
   intro hc
   exact hb (hset _ (by simpa using hc))
  refine ⟨?_, fun hc => by rw [h3] at hc; cases hc⟩
  rw [h3, List.any_eq_false]
  intro d hd
  have := hset d hd
  simp only [beq_iff_eq]
  omega
theorem dropWhile_at {α : Type} {p : α → Bool} : ∀ {s : List α} {k : Nat} (hk : k < s.length), (∀ b ∈ s.take k, p b = true) → p s[k] = false → s.dropWhile p = s.drop k
 | a :: s, 0, hk, _, h2 => by simp at h2; simp [List.dropWhile, h2]
 | a :: s, k + 1, hk, h1, h2 => by
  simp only [List.take_succ_cons, List.mem_cons, forall_eq_or_imp] at h1
  simp only [List.dropWhile, h1.1, List.drop_succ_cons]
  exact dropWhile_at (by simpa using hk) h1.2 (by simpa using h2)
theorem dropWhile_all {α : Type} {p : α → Bool} : ∀ {s : List α}, (∀ b ∈ s, p b = true) → s.dropWhile p = []
 | [], _ => rfl
 | a :: s, h => by
  simp only [List.mem_cons, forall_eq_or_imp] at h
  simp only [List.dropWhile, h.1]
  exact dropWhile_all h.2
theorem dropWhile_len {α : Type} (p : α → Bool) : ∀ s : List α, (s.dropWhile p).length ≤ s.length
 | [] => Nat.le_refl _
 | a :: s => by
  simp only [List.dropWhile]
  split
  ·have := dropWhile_len p s; simp; omega
  ·exact Nat.le_refl _
theorem idx_mem {s : List UInt8} {c : UInt8} (h : c ∈ s) : Lib.indexByte s c = ((s.takeWhile (· != c)).length : Nat) := by
 induction s with
 | nil => cases h
 | cons b s ih =>
  unfold Lib.indexByte
  by_cases hb : b = c
  ·simp [hb]
  ·have hm : c ∈ s := by rcases List.mem_cons.1 h with h | h; exact absurd h.symm hb; exact h
   rw [if_neg (by simpa using hb), ih hm]
   have : ¬ ((((s.takeWhile (· != c)).length : Nat) : Int) == -1) = true := by simp
   rw [if_neg this]
   simp [List.takeWhile_cons, hb]
theorem idx_not {s : List UInt8} {c : UInt8} (h : c ∉ s) : Lib.indexByte s c = -1 := by
 induction s with
 | nil => rfl
 | cons b s ih =>
  simp only [List.mem_cons, not_or] at h
  unfold Lib.indexByte
  rw [if_neg (by simpa using fun e => h.1 e.symm), ih h.2]
  rfl
theorem idx_ge {s : List UInt8} {c : UInt8} : 0 ≤ Lib.indexByte s c ↔ c ∈ s := by
 constructor
 ·intro h
  refine Classical.byContradiction fun hn => ?_
  rw [idx_not hn] at h
  omega
 ·intro h; rw [idx_mem h]; omega
theorem idx_ge' {s : List UInt8} {c : UInt8} : (0 ≤ Lib.indexByte s c) = (c ∈ s) := propext idx_ge
theorem bytesOf_map : ∀ s : List UInt8, bytesOf (s.map byteDV) = some s
 | [] => rfl
 | a :: s => by
  show (match bytesOf (s.map byteDV) with | some l => some (UInt8.ofNat ((a.toNat : Int).toNat) :: l) | none => none) = _
  rw [bytesOf_map s]; simp
theorem idx_lt {s : List UInt8} {c : UInt8} : Lib.indexByte s c < s.length ∨ s = [] := by
 by_cases h : c ∈ s
 ·rw [idx_mem h]
  refine .inl ?_
  have : (s.takeWhile (· != c)).length < s.length := by
   induction s with
   | nil => cases h
   | cons b s ih =>
    rw [List.takeWhile_cons]
    split
    ·rename_i hb
     simp at hb
     rcases List.mem_cons.1 h with h | h
     ·exact absurd h.symm hb
     ·have := ih h; simp; omega
    ·simp
  omega
 ·rw [idx_not h]
  cases s with
  | nil => exact .inr rfl
  | cons a l => exact .inl (by simp; omega)
theorem u8_back (c : UInt8) : (((c.toNat : Nat) : Int).toNat).toUInt8 = c := by simp
theorem take_tw {α : Type} (p : α → Bool) : ∀ s : List α, s.take (s.takeWhile p).length = s.takeWhile p
 | [] => rfl
 | a :: s => by
  rw [List.takeWhile_cons]
  split
  ·simp [take_tw p s]
  ·rfl
theorem tw_all {α : Type} {p : α → Bool} : ∀ {s : List α}, (∀ b ∈ s, p b = true) → s.takeWhile p = s
 | [], _ => rfl
 | a :: s, h => by
  simp only [List.mem_cons, forall_eq_or_imp] at h
  rw [List.takeWhile_cons, if_pos h.1, tw_all h.2]
theorem tw_not {s : List UInt8} {c : UInt8} (h : c ∉ s) : s.takeWhile (· != c) = s := tw_all fun b hb => by
 simp only [bne_iff_ne, ne_eq]; rintro rfl; exact h hb
end Go.Proofs.YtcknfhhbijlobaaGreatDoor.D
namespace Go.Proofs.YtcknfhhbijlobaaGreatDoor.D
open Go
set_option linter.unusedVariables false
set_option linter.unusedSimpArgs false
def H0 : DH := { next := 1, m := fun _ => none }
def G0 : Ghost := { im := fun _ _ => none, ρ := fun _ => none, place := fun _ _ => none }
theorem rel0 (w : World) : Rel G0 H0 w where
 wf b _ := ⟨rfl, rfl, fun _ => rfl⟩
 im B o v h := by cases h
 cells b T cs h := by cases h
 tips b T n cl h := by cases h
 iters b s pos h := by cases h
 maps b es h := by cases h
 rows b T cs h := by cases h
 inj b b' B h := by simp [ownR, H0] at h
 z := ⟨Nat.one_pos, rfl⟩
theorem top {C : Cfg} (TO : TabOk C.P C.T) (XO : ExtOk C.P C.ext) (NO : NameOk C.P) (DO : DrawOk C.P C.T C.draw) {f : FuncId} {args : List DV} (hx : C.ext f = none) {K : DV → DH → Prop} (h : WC C f args H0 K) {w : World} {vs : List Value} (hv : VL G0 args vs) {v : Value}
  (hk : ∀ d H, K d H → d = .bool true) : Calls C.P f vs.toArray w fun e w' => e = .returned (.bool true) ∧ Go.RowKit.Below w.heap.size w w' := by
 obtain ⟨d, H', h1, h2⟩ := h
 obtain rfl := hk _ _ h2
 refine (calls_of TO XO NO DO hx h1 (rel0 w) hv).mono ?_
 rintro e w' ⟨v, G', rfl, hV, hS⟩
 cases hV
 exact ⟨rfl, ⟨hS.os, hS.tape, hS.output, hS.size, fun B hB => hS.blk B hB (fun b => by simp [ownR, H0])⟩⟩
theorem ext_of {P : Program} {f : FuncId} {fn : Func} {e : Array Value → Sem Value} {x : List DV → DH → Option (DV × DH)} (hf : P.funcs[f]? = some fn) (hname : (fn.name == "runtime.NumGoroutine") = false) (hb : fn.body.isNone = true) (hn : Extern.findNext fn = none) (he : Extern.find fn = some e)
  (hx : ∀ args H d H', x args H = some (d, H') → H' = H ∧ ∀ G w vs, VL G args vs → ∃ v, (e vs.toArray).run P w = .ok v w ∧ V G d v) :
  ∀ args H d H', x args H = some (d, H') → ∀ G w vs, Rel G H w → VL G args vs → Good P G H w H' d ((callFunc f vs.toArray).run P w) := by
 intro args H d H' h G w vs r hv
 obtain ⟨rfl, h2⟩ := hx args H d H' h
 obtain ⟨v, h3, h4⟩ := h2 G w vs hv
 rw [run_callFunc_extern hf hname hb hn he, h3]
 exact ⟨G, h4, Step.refl r⟩
def extIndexByte : List DV → DH → Option (DV × DH)
 | [.str s, .int .u8 c], H => some (.int .i64 (Lib.indexByte s c.toNat.toUInt8), H)
 | _, _ => none
def extCount : List DV → DH → Option (DV × DH)
 | [.str s, .int .u8 c], H => some (.int .i64 (Lib.countByte s c.toNat.toUInt8 : Nat), H)
 | _, _ => none
theorem extCount_ok {P : Program} : ∀ args H d H', extCount args H = some (d, H') → H' = H ∧ ∀ G w vs, VL G args vs → ∃ v, (Extern.BytealgCount.count vs.toArray).run P w = .ok v w ∧ V G d v := by
 intro args H d H' h
 unfold extCount at h
 split at h
 ·rename_i s c
  simp only [Option.some.injEq, Prod.mk.injEq] at h
  obtain ⟨rfl, rfl⟩ := h
  refine ⟨rfl, fun G w vs hv => ?_⟩
  obtain ⟨a, l, rfl, h1, h2⟩ := hv.cons_inv
  obtain ⟨b, l, rfl, h3, h4⟩ := h2.cons_inv
  obtain rfl := h4.nil_inv
  cases h1; cases h3
  exact ⟨_, Lib.run_countString _ _ w, .int _ _⟩
 ·cases h
def extSame : List DV → DH → Option (DV × DH)
 | [v], H => some (v, H)
 | _, _ => none
theorem extIndexByte_ok {P : Program} : ∀ args H d H', extIndexByte args H = some (d, H') → H' = H ∧ ∀ G w vs, VL G args vs → ∃ v, (Extern.BytealgIndexByte.indexByte vs.toArray).run P w = .ok v w ∧ V G d v := by
 intro args H d H' h
 unfold extIndexByte at h
 split at h
 ·rename_i s c
  simp only [Option.some.injEq, Prod.mk.injEq] at h
  obtain ⟨rfl, rfl⟩ := h
  refine ⟨rfl, fun G w vs hv => ?_⟩
  obtain ⟨a, l, rfl, h1, h2⟩ := hv.cons_inv
  obtain ⟨b, l, rfl, h3, h4⟩ := h2.cons_inv
  obtain rfl := h4.nil_inv
  cases h1; cases h3
  exact ⟨_, Lib.run_indexByteString _ _ w, .int _ _⟩
 ·cases h
theorem extSame_ok {P : Program} : ∀ args H d H', extSame args H = some (d, H') → H' = H ∧ ∀ G w vs, VL G args vs → ∃ v, (Extern.AbiNoEscape.same vs.toArray).run P w = .ok v w ∧ V G d v := by
 intro args H d H' h
 unfold extSame at h
 split at h
 ·simp only [Option.some.injEq, Prod.mk.injEq] at h
  obtain ⟨rfl, rfl⟩ := h
  refine ⟨rfl, fun G w vs hv => ?_⟩
  obtain ⟨a, l, rfl, h1, h2⟩ := hv.cons_inv
  obtain rfl := h2.nil_inv
  exact ⟨a, rfl, h1⟩
 ·cases h
end Go.Proofs.YtcknfhhbijlobaaGreatDoor.D
namespace Go.Proofs.YtcknfhhbijlobaaGreatDoor.D
open Go
set_option linter.unusedVariables false
set_option linter.unusedSimpArgs false
structure Stm where
 kind : Nat
 s : List UInt8
 t : List UInt8
 u : List UInt8
 n : Nat
 at_ : Nat
 l : List Nat
 m : List Nat
def intV (n : Nat) : DV := .int .i64 n
def IntsV (l : List Nat) (v : DV) : Prop := (v = .nils ∧ l = []) ∨ ∃ id off, v = .sl id 1 off (l.map intV)
def StmV (s : Stm) (d : DV) : Prop := ∃ vl vm, d = .agg [.int .i64 s.kind, .str s.s, .str s.t, .str s.u, .int .i64 s.n, .int .i64 s.at_, vl, vm] ∧ IntsV s.l vl ∧ IntsV s.m vm
inductive All2 {α β : Type} (R : α → β → Prop) : List α → List β → Prop
 | nil : All2 R [] []
 | cons {a b l m} (h : R a b) (t : All2 R l m) : All2 R (a :: l) (b :: m)
def PrgV (R : List Stm) (top : List Nat) (stmv topv : DV) : Prop := (∃ es, ((stmv = .nils ∧ es = []) ∨ ∃ id off, stmv = .sl id 8 off es) ∧ All2 StmV R es) ∧ IntsV top topv
structure Opr where
 kind : Nat
 s : List UInt8
 t : List UInt8
 u : List UInt8
 n : Nat
 to : Nat
structure Raw where
 o : Opr
 lab : Option (List UInt8)
def oprV (o : Opr) : DV := .agg [.int .i64 o.kind, .str o.s, .str o.t, .str o.u, .int .i64 o.n, .int .i64 o.to]
def rawS (sub : List Nat → Nat → List Raw) (s : Stm) (p : Nat) : List Raw :=
 if s.kind = 13 then []
 else if s.kind = 14 then [⟨⟨18, [], [], [], 0, 0⟩, some s.s⟩]
 else if s.kind = 15 then [⟨⟨15, [], [], [], 0, 0⟩, some s.s⟩]
 else if s.kind = 6 then ⟨⟨6, [], [], [], s.n, p + 1 + (sub s.l (p + 1)).length⟩, none⟩ :: sub s.l (p + 1)
 else if s.kind = 5 then
  if s.m = [] then ⟨⟨5, s.s, s.t, [], 0, p + 1 + (sub s.l (p + 1)).length⟩, none⟩ :: sub s.l (p + 1)
  else ⟨⟨5, s.s, s.t, [], 0, p + 2 + (sub s.l (p + 1)).length⟩, none⟩ :: (sub s.l (p + 1) ++
   ⟨⟨18, [], [], [], 0, p + 2 + (sub s.l (p + 1)).length + (sub s.m (p + 2 + (sub s.l (p + 1)).length)).length⟩, none⟩ :: sub s.m (p + 2 + (sub s.l (p + 1)).length))
 else [⟨⟨s.kind, s.s, s.t, s.u, s.n, 0⟩, none⟩]
def rowR (one : Nat → Nat → List Raw) : List Nat → Nat → List Raw
 | [], _ => []
 | n :: r, p => one n p ++ rowR one r (p + (one n p).length)
def rawN (R : List Stm) : Nat → Nat → Nat → List Raw
 | 0, _, _ => []
 | f + 1, n, p => match R[n]? with
  | none => []
  | some s => rawS (rowR (rawN R f)) s p
def rawL (R : List Stm) (f : Nat) (l : List Nat) (p : Nat) : List Raw := rowR (rawN R f) l p
def labS (sub : List Nat → Nat → List Raw) (lab : List Nat → Nat → List (List UInt8 × Nat)) (s : Stm) (p : Nat) : List (List UInt8 × Nat) :=
 if s.kind = 13 then [(s.s, p)]
 else if s.kind = 6 then lab s.l (p + 1)
 else if s.kind = 5 then
  if s.m = [] then lab s.l (p + 1) else lab s.l (p + 1) ++ lab s.m (p + 2 + (sub s.l (p + 1)).length)
 else []
def rowB (one : Nat → Nat → List Raw) (lab : Nat → Nat → List (List UInt8 × Nat)) : List Nat → Nat → List (List UInt8 × Nat)
 | [], _ => []
 | n :: r, p => lab n p ++ rowB one lab r (p + (one n p).length)
def labN (R : List Stm) : Nat → Nat → Nat → List (List UInt8 × Nat)
 | 0, _, _ => []
 | f + 1, n, p => match R[n]? with
  | none => []
  | some s => labS (rowR (rawN R f)) (rowB (rawN R f) (labN R f)) s p
def labL (R : List Stm) (f : Nat) (l : List Nat) (p : Nat) : List (List UInt8 × Nat) := rowB (rawN R f) (labN R f) l p
def toOf (ls : List (List UInt8 × Nat)) (x : List UInt8) : Option Nat := (ls.find? fun q => q.1 == x).map (·.2)
def fixR (ls : List (List UInt8 × Nat)) (r : Raw) : Opr := match r.lab with
 | none => r.o
 | some x => { r.o with to := (toOf ls x).getD 0 }
def endO : Opr := ⟨19, [], [], [], 0, 0⟩
def opsP (R : List Stm) (top : List Nat) : List Opr := (rawL R R.length top 0).map (fixR (labL R R.length top 0)) ++ [endO]
def ofQ (args : List DV) (d : DV) : Prop := ∃ R top md stmv topv, args = [.agg [.int .i64 md, stmv, topv]] ∧ PrgV R top stmv topv ∧ d = .sl 0 6 0 ((opsP R top).map oprV)
open Classical in
noncomputable def pick (P : Program) (f : FuncId) (Q : List DV → DV → Prop) : List DV → DH → Option (DV × DH) := fun args H =>
 if h : ∃ r : DV × DH, Q args r.1 ∧ Ext H r.2 ∧ ∀ G w vs, Rel G H w → VL G args vs → Good P G H w r.2 r.1 ((callFunc f vs.toArray).run P w) then some (Classical.choose h) else none
theorem pick_ok {P : Program} {f : FuncId} {Q : List DV → DV → Prop} : ∀ args H d H', pick P f Q args H = some (d, H') → ∀ G w vs, Rel G H w → VL G args vs → Good P G H w H' d ((callFunc f vs.toArray).run P w) := by
 intro args H d H' h
 unfold pick at h
 split at h
 ·rename_i hh
  have hs := Classical.choose_spec hh
  rw [Option.some.inj h] at hs
  exact hs.2.2
 ·cases h
theorem pick_some {P : Program} {f : FuncId} {Q : List DV → DV → Prop} {args : List DV} {H : DH} (h : ∃ r : DV × DH, Q args r.1 ∧ Ext H r.2 ∧ ∀ G w vs, Rel G H w → VL G args vs → Good P G H w r.2 r.1 ((callFunc f vs.toArray).run P w)) :
  ∃ d H', pick P f Q args H = some (d, H') ∧ Q args d ∧ Ext H H' := by
 refine ⟨(Classical.choose h).1, (Classical.choose h).2, ?_, (Classical.choose_spec h).1, (Classical.choose_spec h).2.1⟩
 unfold pick
 rw [dif_pos h]
end Go.Proofs.YtcknfhhbijlobaaGreatDoor.D
