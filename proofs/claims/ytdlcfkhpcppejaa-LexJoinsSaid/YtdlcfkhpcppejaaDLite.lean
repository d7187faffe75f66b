/- D: code without its places, orders and edges. -/
import Derived.Test.YtdlcfkhpcppejaaDTab
namespace Go.Proofs.Ytdlcfkhpcppejaa.D
open Go
set_option linter.unusedVariables false
set_option linter.unusedSimpArgs false

def liteO (o : Oper) : Oper := { dst := o.dst, op := o.op, type := 0, pos := "", after := #[], guard := o.guard }
def lite : Code → Code
  | .region _ ops _ => .region 0 (ops.toList.map liteO).toArray false
  | .seq a b => .seq (lite a) (lite b)
  | .cond x a b => .cond x (lite a) (lite b)
  | .block id a => .block id (lite a)
  | .loop a => .loop (lite a)
  | .scope a => .scope (lite a)
  | c => c
def drawsOk (draw : Array Oper → Bool) : Code → Bool
  | .region _ ops dr => !dr || draw ops
  | .seq a b => drawsOk draw a && drawsOk draw b
  | .cond _ a b => drawsOk draw a && drawsOk draw b
  | .block _ a => drawsOk draw a
  | .loop a => drawsOk draw a
  | .scope a => drawsOk draw a
  | _ => true

theorem wantedD_lite {ops : Array Oper} {o : Oper} {σ : Nat → DV} : wantedD (ops.toList.map liteO).toArray (liteO o) σ = wantedD ops o σ := by
  unfold wantedD
  show (match o.guard with | none => some true | some (j, want) => _) = _
  cases o.guard with
  | none => rfl
  | some g =>
    obtain ⟨j, want⟩ := g
    have : (((ops.toList.map liteO).toArray)[j]?).bind (·.dst) = (ops[j]?).bind (·.dst) := by
      rw [List.getElem?_toArray, List.getElem?_map, Array.getElem?_toList]
      cases ops[j]? <;> rfl
    simp only [this]
theorem evalOps_lite {T : Tab} {E : Orc} {ops : Array Oper} : ∀ {l : List Oper} {s : St}, evalOps T E (ops.toList.map liteO).toArray (l.map liteO) s = evalOps T E ops l s
  | [], s => rfl
  | o :: l, s => by
    simp only [List.map_cons, evalOps]
    rw [wantedD_lite]
    show (match wantedD ops o s.1 with | some true => (match evalOp T E o.op s.1 s.2 with | some (v, H) => evalOps T E _ (l.map liteO) (put s.1 o.dst v, H) | none => none) | some false => evalOps T E _ (l.map liteO) (put s.1 o.dst undefD, s.2) | none => none) = _
    simp only [evalOps_lite]
    first
    | rfl
    | (rcases wantedD ops o s.1 with _ | _ | _ <;> first | rfl | (cases evalOp T E o.op s.1 s.2 <;> rfl))
theorem findLabel_lite : ∀ (c : Code) (l : Nat), findLabel (lite c) l = (findLabel c l).map lite
  | .seq a b, l => by
    simp only [lite, findLabel, findLabel_lite a l, findLabel_lite b l]
    cases findLabel a l <;> rfl
  | .label l', l => by simp only [lite, findLabel]; split <;> rfl
  | .skip, _ | .ret, _ | .exit _, _ | .goto _, _ | .cond _ _ _, _ | .block _ _, _ | .loop _, _ | .scope _, _ | .region _ _ _, _ | .rangeFunc _ _ _ _, _ | .refuse _, _ => rfl
theorem findLabel_draws {draw : Array Oper → Bool} : ∀ (c : Code) (l : Nat) {r : Code}, findLabel c l = some r → drawsOk draw c = true → drawsOk draw r = true
  | .seq a b, l, r, h, hd => by
    simp only [findLabel] at h
    simp only [drawsOk, Bool.and_eq_true] at hd
    cases ha : findLabel a l with
    | some q =>
      simp only [ha, Option.some.injEq] at h; subst h
      simp only [drawsOk, Bool.and_eq_true]
      exact ⟨findLabel_draws a l ha hd.1, hd.2⟩
    | none => simp only [ha] at h; exact findLabel_draws b l h hd.2
  | .label l', l, r, h, hd => by
    simp only [findLabel] at h
    split at h
    · cases h; rfl
    · cases h

variable {C : Cfg}
theorem ev_lite : ∀ (n : Nat), (∀ c s, drawsOk C.draw c = true → ev C n (.code (lite c)) s = ev C n (.code c) s) ∧ (∀ b r s, drawsOk C.draw b = true → drawsOk C.draw r = true → ev C n (.sc (lite b) (lite r)) s = ev C n (.sc b r) s)
  | 0 => ⟨fun _ _ _ => rfl, fun _ _ _ _ _ => rfl⟩
  | n + 1 => by
    obtain ⟨ih1, ih2⟩ := ev_lite n
    constructor
    · intro c s hd
      rw [ev_succ, ev_succ]
      cases c with
      | seq a b =>
        simp only [drawsOk, Bool.and_eq_true] at hd
        simp only [lite, stepW, ih1 a s hd.1]
        cases ev C n (.code a) s with
        | none => rfl
        | some q =>
          obtain ⟨o, s', v⟩ := q
          cases o <;> first | rfl | exact ih1 b s' hd.2
      | cond x a b =>
        simp only [drawsOk, Bool.and_eq_true] at hd
        simp only [lite, stepW]
        split
        · rename_i t e
          cases t
          · exact ih1 b s hd.2
          · exact ih1 a s hd.1
        · rfl
      | block id a => simp only [drawsOk] at hd; simp only [lite, stepW, ih1 a s hd]
      | loop a =>
        have h2 : ∀ s, ev C n (.code (.loop (lite a))) s = ev C n (.code (.loop a)) s := fun s => ih1 (.loop a) s hd
        simp only [drawsOk] at hd; simp only [lite, stepW, ih1 a s hd, h2]
      | scope a => simp only [drawsOk] at hd; simp only [lite, stepW, ih2 a a s hd hd]
      | region id ops dr =>
        simp only [drawsOk, Bool.or_eq_true, Bool.not_eq_true'] at hd
        simp only [lite, stepW]
        rw [if_neg (by simp), if_neg (by rcases hd with h | h <;> simp [h]), evalOps_lite]
      | _ => rfl
    · intro b r s hb hr
      rw [ev_succ, ev_succ]
      simp only [stepW, ih1 r s hr, findLabel_lite]
      cases ev C n (.code r) s with
      | none => rfl
      | some q =>
        obtain ⟨o, s', v⟩ := q
        cases o with
        | goto l =>
          simp only
          cases hf : findLabel b l with
          | none => rfl
          | some r' => exact ih2 b r' s' hb (findLabel_draws b l hf hb)
        | _ => rfl
theorem run_lite {c : Code} {s : St} (h : drawsOk C.draw c = true) : run C (.code (lite c)) s = run C (.code c) s := by
  apply Option.ext
  intro r
  rw [run_iff, run_iff]
  exact exists_congr fun n => by rw [(ev_lite n).1 c s h]
theorem W_lite {c : Code} {σ : Nat → DV} {H : DH} {K : Out → (Nat → DV) → DH → Prop} (h : drawsOk C.draw c = true) : W C (lite c) σ H K ↔ W C c σ H K := by
  unfold W; rw [run_lite h]

end Go.Proofs.Ytdlcfkhpcppejaa.D
