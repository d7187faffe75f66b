/- D: code without its places, orders and edges. -/
import Derived.Test.YtcknfhhbijlobaaDoorDTab
namespace Go.Proofs.YtcknfhhbijlobaaDoor.D
open Go
set_option linter.unusedVariables false
set_option linter.unusedSimpArgs false

def liteO (o : Oper) : Oper := { dst := o.dst, op := o.op, type := 0, pos := "", after := #[], guard := o.guard }
def lite : Code → Code
  | .region id ops dr => if dr then .region id ops dr else .region 0 (ops.toList.map liteO).toArray false
  | .seq a b => .seq (lite a) (lite b)
  | .cond x a b => .cond x (lite a) (lite b)
  | .block id a => .block id (lite a)
  | .loop a => .loop (lite a)
  | .scope a => .scope (lite a)
  | c => c
theorem wantedD_lite {ops : Array Oper} {o : Oper} {σ : Nat → DV} : wantedD (ops.toList.map liteO).toArray (liteO o) σ = wantedD ops o σ := by
  unfold wantedD
  show (match o.guard with | none => some true | some (j, want) => _) = _
  cases o.guard with
  | none => rfl
  | some g =>
    obtain ⟨j, want⟩ := g
    have : (((ops.toList.map liteO).toArray)[j]?).bind (·.dst) = (ops[j]?).bind (·.dst) := by
      rw [List.getElem?_toArray, List.getElem?_map, Array.getElem?_toList]
      cases ops[j]? <;> rfl
    simp only [this]
theorem evalOps_lite {T : Tab} {E : Orc} {ops : Array Oper} : ∀ {l : List Oper} {s : St}, evalOps T E (ops.toList.map liteO).toArray (l.map liteO) s = evalOps T E ops l s
  | [], s => rfl
  | o :: l, s => by
    simp only [List.map_cons, evalOps]
    rw [wantedD_lite]
    show (match wantedD ops o s.1 with | some true => (match evalOp T E o.op s.1 s.2 with | some (v, H) => evalOps T E _ (l.map liteO) (put s.1 o.dst v, H) | none => none) | some false => evalOps T E _ (l.map liteO) (put s.1 o.dst undefD, s.2) | none => none) = _
    simp only [evalOps_lite]
    first
    | rfl
    | (rcases wantedD ops o s.1 with _ | _ | _ <;> first | rfl | (cases evalOp T E o.op s.1 s.2 <;> rfl))
theorem findLabel_lite : ∀ (c : Code) (l : Nat), findLabel (lite c) l = (findLabel c l).map lite
  | .seq a b, l => by
    simp only [lite, findLabel, findLabel_lite a l, findLabel_lite b l]
    cases findLabel a l <;> rfl
  | .label l', l => by simp only [lite, findLabel]; split <;> rfl
  | .region _ _ dr, _ => by cases dr <;> rfl
  | .skip, _ | .ret, _ | .exit _, _ | .goto _, _ | .cond _ _ _, _ | .block _ _, _ | .loop _, _ | .scope _, _ | .rangeFunc _ _ _ _, _ | .refuse _, _ => rfl
variable {C : Cfg}
theorem ev_lite : ∀ (n : Nat), (∀ c s, ev C n (.code (lite c)) s = ev C n (.code c) s) ∧ (∀ b r s, ev C n (.sc (lite b) (lite r)) s = ev C n (.sc b r) s)
  | 0 => ⟨fun _ _ => rfl, fun _ _ _ => rfl⟩
  | n + 1 => by
    obtain ⟨ih1, ih2⟩ := ev_lite n
    constructor
    · intro c s
      rw [ev_succ, ev_succ]
      cases c with
      | seq a b =>
        simp only [lite, stepW, ih1 a s]
        cases ev C n (.code a) s with
        | none => rfl
        | some q =>
          obtain ⟨o, s', v⟩ := q
          cases o <;> first | rfl | exact ih1 b s'
      | cond x a b =>
        simp only [lite, stepW]
        split
        · rename_i t e
          cases t
          · exact ih1 b s
          · exact ih1 a s
        · rfl
      | block id a => simp only [lite, stepW, ih1 a s]
      | loop a =>
        have h2 : ∀ s, ev C n (.code (.loop (lite a))) s = ev C n (.code (.loop a)) s := fun s => ih1 (.loop a) s
        simp only [lite, stepW, ih1 a s, h2]
      | scope a => simp only [lite, stepW, ih2 a a s]
      | region id ops dr =>
        cases dr with
        | true => rfl
        | false =>
          simp only [lite, Bool.false_eq_true, if_false, stepW, false_and]
          rw [evalOps_lite]
      | _ => rfl
    · intro b r s
      rw [ev_succ, ev_succ]
      simp only [stepW, ih1 r s, findLabel_lite]
      cases ev C n (.code r) s with
      | none => rfl
      | some q =>
        obtain ⟨o, s', v⟩ := q
        cases o with
        | goto l =>
          simp only
          cases hf : findLabel b l with
          | none => rfl
          | some r' => exact ih2 b r' s'
        | _ => rfl
theorem run_lite {c : Code} {s : St} : run C (.code (lite c)) s = run C (.code c) s := by
  apply Option.ext
  intro r
  rw [run_iff, run_iff]
  exact exists_congr fun n => by rw [(ev_lite n).1 c s]
theorem W_lite {c : Code} {σ : Nat → DV} {H : DH} {K : Out → (Nat → DV) → DH → Prop} : W C (lite c) σ H K ↔ W C c σ H K := by
  unfold W; rw [run_lite]

end Go.Proofs.YtcknfhhbijlobaaDoor.D
