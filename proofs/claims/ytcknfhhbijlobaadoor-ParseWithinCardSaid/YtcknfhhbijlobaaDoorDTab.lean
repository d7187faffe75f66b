/- D: the table of a program's types. -/
import Derived.Test.YtcknfhhbijlobaaDoorDRules
namespace Go.Proofs.YtcknfhhbijlobaaDoor.D
open Go
set_option linter.unusedVariables false
set_option linter.unusedSimpArgs false

def consts : List Value → Option (List DV)
  | [] => some []
  | v :: r => match constD v, consts r with
    | some a, some l => some (a :: l)
    | _, _ => none
def zeroDV : Value → Option DV
  | .agg vs => (consts vs.toList).map DV.agg
  | v => constD v
def kindOf (P : Program) (t : TypeId) : Option Nat :=
  match P.underlying t with
  | some .bool => some 0
  | some (.int _) => some 1
  | some .string => some 2
  | _ => none
def flatFields (P : Program) : List Field → Nat → Option (List Nat)
  | [], _ => some []
  | f :: r, i => match kindOf P f.type, flatFields P r (i + 1) with
    | some k, some l => if f.name ≠ "_" ∧ f.offset = i then some (k :: l) else none
    | _, _ => none
def flatKs (P : Program) (t : TypeId) : Option (List Nat) :=
  match P.underlying t with
  | some (.struct fs) => if P.stoodInHeld t = false ∧ P.eqGuardType P.depth t = false then flatFields P fs.toList 0 else none
  | _ => none

def tabOf (P : Program) (wr : List TypeId := []) : Tab where
  und t := P.underlying t
  size t := (P.info? t).map (·.size)
  bytes t := (P.info? t).map (·.bytes)
  zero t := (P.info? t).bind fun i => i.zero.bind zeroDV
  flatEq t := flatKs P t
  lies t n off u := liesAt P P.depth t (n / P.cellsOf t) off u 1 && (P.info? u).isSome
  wr t := wr.contains t

section
variable {P : Program}
theorem consts_ok {vs : List Value} : ∀ {ds : List DV}, consts vs = some ds → ∀ G, VL G ds vs := by
  induction vs with
  | nil => intro ds h G; simp [consts] at h; subst h; exact .nil _
  | cons v vs ih =>
    intro ds h G
    simp only [consts] at h
    split at h
    · rename_i a l e1 e2
      obtain rfl := Option.some.inj h
      exact .cons (constD_ok e1) (ih e2 G)
    · cases h
theorem zeroDV_ok {v : Value} {z : DV} (h : zeroDV v = some z) (G : Ghost) : V G z v := by
  unfold zeroDV at h
  split at h
  · rename_i vs
    simp only [Option.map_eq_some_iff] at h
    obtain ⟨l, h1, rfl⟩ := h
    have := consts_ok h1 G
    exact V.agg (vs := vs.toList) this.1 this.2
  · exact constD_ok h

theorem part_scalar {w : World} {t : TypeId} {k : Nat} (hk : kindOf P t = some k) {cs : Array Value} {off : Nat} {v : Value} (h : cs[off]? = some v) : (part t cs off).run P w = .ok v w := by
  unfold kindOf at hk
  have : (isAgg t).run P w = .ok false w := by
    split at hk <;> first
      | (rename_i e; simp [isAgg, run_underlying e]; done)
      | (cases hk; done)
  simp [part, this, h]

theorem cellEq_ok {w : World} {d : Nat} {t : TypeId} {k : Nat} (hk : kindOf P t = some k) {G : Ghost} {x y : DV} {vx vy : Value} {b : Bool} (hx : V G x vx) (hy : V G y vy) (h : cellEq k x y = some b) :
    (Op.equalIn (d + 1) t vx vy).run P w = .ok b w := by
  unfold kindOf at hk
  unfold cellEq at h
  split at h
  · split at h
    · rename_i hkk
      obtain rfl := Option.some.inj h
      subst hkk
      cases hx; cases hy
      split at hk <;> first | (cases hk; done) | skip
      rename_i e
      exact run_equalIn_int w d t _ _ _ _ e
    · cases h
  · rename_i a b
    obtain rfl := Option.some.inj h
    cases hx; cases hy
    split at hk <;> first | (cases hk; done) | skip
    rename_i e
    have := run_equalIn_string (P := P) w d t ⟨a.toArray⟩ ⟨b.toArray⟩ e
    rw [this]; first | rfl | simp
  · obtain rfl := Option.some.inj h
    cases hx; cases hy
    split at hk <;> first | (cases hk; done) | skip
    rename_i e
    exact run_equalIn_bool' w d t _ _ e
  · cases h

theorem eqFields_ok {w : World} {d : Nat} {G : Ghost} : ∀ {fs : List Field} {i : Nat} {ks : List Nat} {xs ys : List DV} {px py vx vy : List Value} {b : Bool}, flatFields P fs i = some ks → px.length = i → py.length = i → VL G xs vx → VL G ys vy → cellsEq ks xs ys = some b →
    (Op.eqFields (d + 1) (px ++ vx).toArray (py ++ vy).toArray fs).run P w = .ok b w
  | [], i, ks, xs, ys, px, py, vx, vy, b, h, h1, h2, hx, hy, hc => by
    simp [flatFields] at h; subst h
    cases xs <;> cases ys <;> simp [cellsEq] at hc
    subst hc
    simp [Op.eqFields]
  | f :: fs, i, ks, xs, ys, px, py, vx, vy, b, h, h1, h2, hx, hy, hc => by
    simp only [flatFields] at h
    split at h
    · rename_i k l e1 e2
      split at h
      · rename_i hf
        obtain rfl := Option.some.inj h
        cases xs with
        | nil => simp [cellsEq] at hc
        | cons x xs =>
          cases ys with
          | nil => simp [cellsEq] at hc
          | cons y ys =>
            obtain ⟨u, vx', rfl, hxu, hx'⟩ := hx.cons_inv
            obtain ⟨v, vy', rfl, hyv, hy'⟩ := hy.cons_inv
            simp only [cellsEq] at hc
            split at hc
            · rename_i a b' c1 c2
              obtain rfl := Option.some.inj hc
              have p1 : (part f.type (px ++ u :: vx').toArray f.offset).run P w = .ok u w := part_scalar e1 (by rw [hf.2, ← h1]; simp)
              have p2 : (part f.type (py ++ v :: vy').toArray f.offset).run P w = .ok v w := part_scalar e1 (by rw [hf.2, ← h2]; simp)
              have p3 := cellEq_ok (w := w) (d := d) e1 hxu hyv c1
              have ih := eqFields_ok (w := w) (d := d) (px := px ++ [u]) (py := py ++ [v]) e2 (by simp [h1]) (by simp [h2]) hx' hy' c2
              simp only [List.append_assoc, List.singleton_append] at ih
              rw [Op.eqFields, if_pos hf.1]
              simp only [Sem.run_bind, p1, p2, p3, Result.andThen_ok]
              cases a with
              | true => simpa using ih
              | false => simp
            · cases hc
      · cases h
    · cases h

theorem tab_ok {wr : List TypeId} : TabOk P (tabOf P wr) where
  und t d h := h
  size t n h := by simpa [tabOf] using h
  bytes t n h := by simpa [tabOf] using h
  zero t z h := by
    simp only [tabOf, Option.bind_eq_some_iff] at h
    obtain ⟨i, h1, v, h2, h3⟩ := h
    exact ⟨i, v, h1, h2, zeroDV_ok h3⟩
  lies t n off u h := by
    simp only [tabOf, Bool.and_eq_true, Option.isSome_iff_exists] at h
    exact h
  flatEq t ks h G xs ys vx vy w b x y hx hy hc := by
    simp only [tabOf, flatKs] at h
    split at h
    · rename_i fs e
      split at h
      · rename_i hh
        have hfs : P.fieldsOf t = fs := by simp [Program.fieldsOf, e]
        have heq : (Op.equal t (.agg vx.toArray) (.agg vy.toArray)).run P w = .ok b w := by
          show (Op.equalIn (9999 + 1) t _ _).run P w = _
          rw [run_equalIn_struct w 9999 t _ _ (by rw [hfs]; exact e) hh.1, hfs]
          exact eqFields_ok (d := 9998) (px := []) (py := []) h rfl rfl hx hy hc
        have hg : ∀ op, (eqGuard op t x y (.agg vx.toArray) (.agg vy.toArray)).run P w = .ok () w := by
          intro op
          cases op <;> simp [eqGuard, hh.2]
        exact ⟨by simp [hg, binOp, heq], by simp [hg, binOp, heq]⟩
      · cases h
    · cases h
end
end Go.Proofs.YtcknfhhbijlobaaDoor.D
