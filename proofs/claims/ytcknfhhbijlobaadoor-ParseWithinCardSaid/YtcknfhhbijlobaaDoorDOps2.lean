/- D: what each operation does, held against the model's (2). -/
import Derived.Test.YtcknfhhbijlobaaDoorDOps
namespace Go.Proofs.YtcknfhhbijlobaaDoor.D
open Go
set_option linter.unusedVariables false
set_option linter.unusedSimpArgs false

section
variable {P : Program} {T : Tab} {G : Ghost} {H H' : DH} {w : World} {d : DV}

theorem int_ok {op : BinOp} {k : IntKind} {a b : Int} {t : TypeId} (hs : isShift op = false) (h : intOp op k a b = some d) :
    ∃ v, (∀ G, V G d v) ∧ ∀ w x y, (do eqGuard op t x y (.int k a) (.int k b); binOp op t (.int k a) (.int k b)).run P w = .ok v w := by
  cases op <;> simp only [intOp, isShift] at h hs <;> first
    | (cases hs; done)
    | (cases h; exact ⟨_, fun _ => .int _ _, fun w x y => by simp [eqGuard, binOp, Op.intArith, Op.intBits]⟩)
    | (cases h; exact ⟨_, fun _ => .bool _, fun w x y => by simp [eqGuard, binOp, Op.intCmp]⟩)
    | (split at h
       · cases h
       · rename_i hb; cases h; exact ⟨_, fun _ => .int _ _, fun w x y => by simp [eqGuard, binOp, Op.intDiv, hb]⟩)
    | (cases h; done)

theorem shift_ok {op : BinOp} {k k' : IntKind} {a b : Int} {t : TypeId} (hs : isShift op = true) (h : shiftOp op k a b = some d) :
    ∃ v, (∀ G, V G d v) ∧ ∀ w x y, (do eqGuard op t x y (.int k a) (.int k' b); binOp op t (.int k a) (.int k' b)).run P w = .ok v w := by
  unfold shiftOp at h
  split at h
  · cases h
  · rename_i hb
    cases op <;> simp only [isShift] at h hs <;> first
      | (cases hs; done)
      | (cases h; exact ⟨_, fun _ => .int _ _, fun w x y => by simp [eqGuard, binOp, Op.shift, hb]⟩)

theorem ba_toList (s : List UInt8) : (⟨s.toArray⟩ : ByteArray).toList = s := by
  rw [ByteArray.toList_eq]
theorem ba_append (a b : List UInt8) : (⟨a.toArray⟩ : ByteArray) ++ ⟨b.toArray⟩ = ⟨(a ++ b).toArray⟩ := by
  apply ByteArray.ext
  simp
theorem ba_size (s : List UInt8) : (⟨s.toArray⟩ : ByteArray).size = s.length := by simp [ByteArray.size]

theorem str_ok {op : BinOp} {a b : List UInt8} {t : TypeId} (hs : isShift op = false) (h : strOp op a b = some d) :
    ∃ v, (∀ G, V G d v) ∧ ∀ w x y, (do eqGuard op t x y (.string ⟨a.toArray⟩) (.string ⟨b.toArray⟩); binOp op t (.string ⟨a.toArray⟩) (.string ⟨b.toArray⟩)).run P w = .ok v w := by
  cases op <;> simp only [strOp, isShift] at h hs <;> first
    | (cases hs; done)
    | (cases h; exact ⟨_, fun _ => .bool _, fun w x y => by simp [eqGuard, binOp, Op.stringOp, ba_toList]⟩)
    | (cases h; done)
    | (split at h
       · cases h
       · rename_i hb
         cases h
         refine ⟨.string ⟨(a ++ b).toArray⟩, fun _ => .str _, fun w x y => ?_⟩
         have hm : IntKind.i64.max = 9223372036854775807 := by decide
         simp only [eqGuard, binOp, Op.stringOp, ba_size, hm]
         simp only [Sem.run_bind, Sem.run_ite, hb, if_false, ba_append]
         rfl)

theorem eqOp_ok {op : BinOp} {b : Bool} {t : TypeId} {va vb : Value} (h : eqOp op b = some d)
    (hg : ∀ w x y, (eqGuard op t x y va vb).run P w = .ok () w) (he : ∀ w, (Op.equal t va vb).run P w = .ok b w)
    (hb : op = .eql ∨ op = .neq → ∀ w, (binOp op t va vb).run P w = ((Op.equal t va vb).run P w).andThen fun r w' => .ok (.bool (if op = .eql then r else !r)) w') :
    ∃ v, (∀ G, V G d v) ∧ ∀ w x y, (do eqGuard op t x y va vb; binOp op t va vb).run P w = .ok v w := by
  cases op <;> simp only [eqOp] at h <;> first
    | (cases h; done)
    | (cases h; exact ⟨_, fun _ => .bool _, fun w x y => by simp [hg, hb, he]⟩)

theorem eq_bool_in (d : Nat) {t : TypeId} {a b : Bool} (h : P.underlying t = some .bool) (w : World) : (Op.equalIn (d + 1) t (.bool a) (.bool b)).run P w = .ok (a == b) w := by
  simp only [Op.equalIn, Sem.run_bind, run_underlying h, Result.andThen_ok]; rfl
theorem eq_bool {t : TypeId} {a b : Bool} (h : P.underlying t = some .bool) (w : World) : (Op.equal t (.bool a) (.bool b)).run P w = .ok (a == b) w := eq_bool_in 9999 h w
theorem eq_ptr0_in (d : Nat) {t e : TypeId} {b : Option Addr} (h : P.underlying t = some (.pointer e)) (w : World) : (Op.equalIn (d + 1) t (.pointer none) (.pointer b)).run P w = .ok b.isNone w := by
  simp only [Op.equalIn, Sem.run_bind, run_underlying h, Result.andThen_ok]; cases b <;> rfl
theorem eq_ptr0 {t e : TypeId} {b : Option Addr} (h : P.underlying t = some (.pointer e)) (w : World) : (Op.equal t (.pointer none) (.pointer b)).run P w = .ok b.isNone w := eq_ptr0_in 9999 h w
theorem eq_ptr1_in (d : Nat) {t e : TypeId} {b : Addr} (h : P.underlying t = some (.pointer e)) (w : World) : (Op.equalIn (d + 1) t (.pointer (some b)) (.pointer none)).run P w = .ok false w := by
  simp only [Op.equalIn, Sem.run_bind, run_underlying h, Result.andThen_ok]; rfl
theorem eq_ptr1 {t e : TypeId} {b : Addr} (h : P.underlying t = some (.pointer e)) (w : World) : (Op.equal t (.pointer (some b)) (.pointer none)).run P w = .ok false w := eq_ptr1_in 9999 h w
theorem eq_ptr2_in (d : Nat) {t e : TypeId} {B s o o' : Nat} (h : P.underlying t = some (.pointer e)) (hs : ∀ w, ∃ n, (sizeOf e).run P w = .ok n w ∧ n ≠ 0) (w : World) :
    (Op.equalIn (d + 1) t (.pointer (some ⟨B, s + o, none⟩)) (.pointer (some ⟨B, s + o', none⟩))).run P w = .ok (o == o') w := by
  obtain ⟨n, h1, h2⟩ := hs w
  simp only [Op.equalIn, Sem.run_bind, run_underlying h, Result.andThen_ok, h1, h2, ne_eq, not_false_eq_true, if_true]
  simp [sameAddr]
  have he : (⟨B, s + o, none⟩ : Addr) = ⟨B, s + o', none⟩ ↔ o = o' := by simp
  by_cases h : o = o'
  · simp [h]
  · rw [beq_eq_false_iff_ne.2 h, beq_eq_false_iff_ne.2 fun e => h (he.1 e)]
theorem eq_ptr2 {t e : TypeId} {B s o o' : Nat} (h : P.underlying t = some (.pointer e)) (hs : ∀ w, ∃ n, (sizeOf e).run P w = .ok n w ∧ n ≠ 0) (w : World) :
    (Op.equal t (.pointer (some ⟨B, s + o, none⟩)) (.pointer (some ⟨B, s + o', none⟩))).run P w = .ok (o == o') w := eq_ptr2_in 9999 h hs w
theorem eq_sl0_in (d : Nat) {t e : TypeId} {b : Option Addr} {n m : Nat} (h : P.underlying t = some (.slice e)) (w : World) : (Op.equalIn (d + 1) t (.slice none 0 0) (.slice b n m)).run P w = .ok b.isNone w := by
  simp only [Op.equalIn, Sem.run_bind, run_underlying h, Result.andThen_ok]; cases b <;> rfl
theorem eq_sl0 {t e : TypeId} {b : Option Addr} {n m : Nat} (h : P.underlying t = some (.slice e)) (w : World) : (Op.equal t (.slice none 0 0) (.slice b n m)).run P w = .ok b.isNone w := eq_sl0_in 9999 h w
theorem eq_sl1_in (d : Nat) {t e : TypeId} {b : Addr} {n m : Nat} (h : P.underlying t = some (.slice e)) (w : World) : (Op.equalIn (d + 1) t (.slice (some b) n m) (.slice none 0 0)).run P w = .ok false w := by
  simp only [Op.equalIn, Sem.run_bind, run_underlying h, Result.andThen_ok]; rfl
theorem eq_sl1 {t e : TypeId} {b : Addr} {n m : Nat} (h : P.underlying t = some (.slice e)) (w : World) : (Op.equal t (.slice (some b) n m) (.slice none 0 0)).run P w = .ok false w := eq_sl1_in 9999 h w
theorem eq_fn0_in (d : Nat) {t : TypeId} {x y : Array TypeId} {z : Bool} (h : P.underlying t = some (.func x y z)) (w : World) : (Op.equalIn (d + 1) t .nilFunc .nilFunc).run P w = .ok true w := by
  simp only [Op.equalIn, Sem.run_bind, run_underlying h, Result.andThen_ok]; rfl
theorem eq_fn0 {t : TypeId} {x y : Array TypeId} {z : Bool} (h : P.underlying t = some (.func x y z)) (w : World) : (Op.equal t .nilFunc .nilFunc).run P w = .ok true w := eq_fn0_in 9999 h w
theorem eq_fn1_in (d : Nat) {t : TypeId} {x y : Array TypeId} {z : Bool} {f : Fn} {u v : Array Value} (h : P.underlying t = some (.func x y z)) (w : World) : (Op.equalIn (d + 1) t (.func f u v) .nilFunc).run P w = .ok false w := by
  simp only [Op.equalIn, Sem.run_bind, run_underlying h, Result.andThen_ok]; rfl
theorem eq_fn1 {t : TypeId} {x y : Array TypeId} {z : Bool} {f : Fn} {u v : Array Value} (h : P.underlying t = some (.func x y z)) (w : World) : (Op.equal t (.func f u v) .nilFunc).run P w = .ok false w := eq_fn1_in 9999 h w
theorem eq_if0_in (d : Nat) {t : TypeId} {ms : Array (String × TypeId)} (h : P.underlying t = some (.interface ms)) (w : World) : (Op.equalIn (d + 1) t .nilIface .nilIface).run P w = .ok true w := by
  simp only [Op.equalIn, Sem.run_bind, run_underlying h, Result.andThen_ok]; rfl
theorem eq_if0 {t : TypeId} {ms : Array (String × TypeId)} (h : P.underlying t = some (.interface ms)) (w : World) : (Op.equal t .nilIface .nilIface).run P w = .ok true w := eq_if0_in 9999 h w
theorem eq_if1_in (d : Nat) {t u : TypeId} {v : Value} {ms : Array (String × TypeId)} (h : P.underlying t = some (.interface ms)) (w : World) : (Op.equalIn (d + 1) t (.iface u v) .nilIface).run P w = .ok false w := by
  simp only [Op.equalIn, Sem.run_bind, run_underlying h, Result.andThen_ok]; rfl
theorem eq_if1 {t u : TypeId} {v : Value} {ms : Array (String × TypeId)} (h : P.underlying t = some (.interface ms)) (w : World) : (Op.equal t (.iface u v) .nilIface).run P w = .ok false w := eq_if1_in 9999 h w

theorem guard_ok {op : BinOp} {t : TypeId} {x y : Operand} {a b : Value} (h1 : ∀ u v, a = .agg u → b = .agg v → False) (h2 : a = .nilIface → b = .nilIface → isConstO x = true ∨ isConstO y = true) (w : World) :
    (eqGuard op t x y a b).run P w = .ok () w := by
  unfold eqGuard
  cases op <;> simp only [Bool.not_false, Bool.not_true, if_true, Bool.false_eq_true, if_false] <;> first | rfl | skip
  all_goals
    split
    · rename_i e1 e2
      have := h2 rfl rfl
      cases x <;> cases y <;> first
        | rfl
        | (simp [isConstO] at this; done)
    · exact (h1 _ _ rfl rfl).elim
    · rfl

theorem bin_ok (TO : TabOk P T) (r : Rel G H w) {op : BinOp} {t : TypeId} {x y : Operand} {a b : DV} {va vb : Value} (ha : V G a va) (hb : V G b vb)
    (h : binD T op t x y a b = some d) : GoodV P G H w H d ((do eqGuard op t x y va vb; binOp op t va vb).run P w) := by
  have fin : (∃ v, (∀ G, V G d v) ∧ ∀ w x y, (do eqGuard op t x y va vb; binOp op t va vb).run P w = .ok v w) →
      GoodV P G H w H d ((do eqGuard op t x y va vb; binOp op t va vb).run P w) := fun ⟨v, h1, h2⟩ => good_ok r (h1 G) (h2 w x y)
  unfold binD at h
  split at h
  · cases ha; cases hb
    split at h
    · rename_i hs; exact fin (shift_ok hs h)
    · rename_i hs
      split at h
      · rename_i hk; subst hk; exact fin (int_ok (by simpa using hs) h)
      · cases h
  · cases ha; cases hb
    split at h
    · cases h
    · rename_i hs; exact fin (str_ok (by simpa using hs) h)
  · cases ha; cases hb
    split at h
    · rename_i e
      exact fin (eqOp_ok h (fun w x y => guard_ok (by simp) (by simp) w) (eq_bool (TO.und _ _ e)) (by rintro (rfl | rfl) <;> intro w <;> simp [binOp]))
    · cases h
  · cases ha; cases hb
    split at h
    · rename_i e
      exact fin (eqOp_ok h (fun w x y => guard_ok (by simp) (by simp) w) (eq_ptr0 (TO.und _ _ e)) (by rintro (rfl | rfl) <;> intro w <;> simp [binOp]))
    · cases h
  · cases ha; cases hb
    split at h
    · rename_i e
      exact fin (eqOp_ok h (fun w x y => guard_ok (by simp) (by simp) w) (eq_ptr0 (TO.und _ _ e)) (by rintro (rfl | rfl) <;> intro w <;> simp [binOp]))
    · cases h
  · cases ha; cases hb
    split at h
    · rename_i e
      exact fin (eqOp_ok h (fun w x y => guard_ok (by simp) (by simp) w) (eq_ptr1 (TO.und _ _ e)) (by rintro (rfl | rfl) <;> intro w <;> simp [binOp]))
    · cases h
  · rename_i b o b' o'
    split at h
    · rename_i e1 e
      split at h
      · rename_i n e2
        split at h
        · rename_i hc
          obtain ⟨rfl, hn⟩ := hc
          cases ha with
          | ptr h1 =>
            cases hb with
            | ptr h2 =>
              rw [h1] at h2
              cases h2
              exact fin (eqOp_ok h (fun w x y => guard_ok (by simp) (by simp) w) (eq_ptr2 (TO.und _ _ e) (by
                intro w
                obtain ⟨i, i1, i2⟩ := TO.size _ _ e2
                exact ⟨n, by simp [sizeOf, typeInfo, i1, i2], hn⟩)) (by rintro (rfl | rfl) <;> intro w <;> simp [binOp]))
        · cases h
      · cases h
    · cases h
  · cases ha; cases hb
    split at h
    · rename_i e
      exact fin (eqOp_ok h (fun w x y => guard_ok (by simp) (by simp) w) (eq_sl0 (TO.und _ _ e)) (by rintro (rfl | rfl) <;> intro w <;> simp [binOp]))
    · cases h
  · cases ha; cases hb
    split at h
    · rename_i e
      exact fin (eqOp_ok h (fun w x y => guard_ok (by simp) (by simp) w) (eq_sl0 (TO.und _ _ e)) (by rintro (rfl | rfl) <;> intro w <;> simp [binOp]))
    · cases h
  · cases ha; cases hb
    split at h
    · rename_i e
      exact fin (eqOp_ok h (fun w x y => guard_ok (by simp) (by simp) w) (eq_sl1 (TO.und _ _ e)) (by rintro (rfl | rfl) <;> intro w <;> simp [binOp]))
    · cases h
  · cases ha; cases hb
    split at h
    · rename_i e
      exact fin (eqOp_ok h (fun w x y => guard_ok (by simp) (by simp) w) (eq_sl0 (TO.und _ _ e)) (by rintro (rfl | rfl) <;> intro w <;> simp [binOp]))
    · cases h
  · cases ha; cases hb
    split at h
    · rename_i e
      exact fin (eqOp_ok h (fun w x y => guard_ok (by simp) (by simp) w) (eq_sl1 (TO.und _ _ e)) (by rintro (rfl | rfl) <;> intro w <;> simp [binOp]))
    · cases h
  · cases ha; cases hb
    split at h
    · rename_i e
      exact fin (eqOp_ok h (fun w x y => guard_ok (by simp) (by simp) w) (eq_fn0 (TO.und _ _ e)) (by rintro (rfl | rfl) <;> intro w <;> simp [binOp]))
    · cases h
  · cases ha; cases hb
    split at h
    · rename_i e
      exact fin (eqOp_ok h (fun w x y => guard_ok (by simp) (by simp) w) (eq_fn1 (TO.und _ _ e)) (by rintro (rfl | rfl) <;> intro w <;> simp [binOp]))
    · cases h
  · cases ha; cases hb
    split at h
    · rename_i e
      split at h
      · rename_i hc
        have hc' : isConstO x = true ∨ isConstO y = true := by simpa using hc
        have hg := guard_ok (P := P) (op := op) (t := t) (x := x) (y := y) (a := .nilIface) (b := .nilIface) (by simp) (fun _ _ => hc') w
        cases op <;> simp only [eqOp] at h <;> first
          | (cases h; done)
          | (cases h; exact good_ok r (.bool _) (by simp [hg, binOp, eq_if0 (TO.und _ _ e)]))
      · cases h
    · cases h
  · cases ha; cases hb
    split at h
    · rename_i e
      exact fin (eqOp_ok h (fun w x y => guard_ok (by simp) (by simp) w) (eq_if1 (TO.und _ _ e)) (by rintro (rfl | rfl) <;> intro w <;> simp [binOp]))
    · cases h
  · split at h
    · rename_i ks hf
      split at h
      · rename_i bb hcb
        cases ha with
        | agg hl1 hv1 =>
          cases hb with
          | agg hl2 hv2 =>
            have := TO.flatEq t ks hf G _ _ _ _ w bb x y ⟨hl1, hv1⟩ ⟨hl2, hv2⟩ hcb
            cases op <;> simp only [eqOp] at h <;> first
              | (cases h; done)
              | (cases h; exact good_ok r (.bool _) this.1)
              | (cases h; exact good_ok r (.bool _) this.2)
      · cases h
    · cases h
  · cases h

theorem un_ok (r : Rel G H w) {op : UnOp} {a : DV} {va : Value} (ha : V G a va) (h : unD op a = some d) : GoodV P G H w H d ((Op.unary op va).run P w) := by
  unfold unD at h
  split at h
  · cases ha; cases h; exact good_ok r (.int _ _) (by simp [Op.unary, Op.intArith])
  · cases ha; cases h; exact good_ok r (.int _ _) (by simp [Op.unary, Op.intBits])
  · cases ha; cases h; exact good_ok r (.bool _) (by simp [Op.unary])
  · cases h

theorem ba_get (s : List UInt8) (i : Nat) : (⟨s.toArray⟩ : ByteArray)[i]? = s[i]? := by
  by_cases h : i < s.length
  · have h1 : i < (⟨s.toArray⟩ : ByteArray).size := by rw [ba_size]; exact h
    rw [getElem?_pos (⟨s.toArray⟩ : ByteArray) i h1, List.getElem?_eq_getElem h]
    rfl
  · have h1 : ¬ i < (⟨s.toArray⟩ : ByteArray).size := by rw [ba_size]; exact h
    rw [getElem?_neg (⟨s.toArray⟩ : ByteArray) i h1, List.getElem?_eq_none (by omega)]
end
end Go.Proofs.YtcknfhhbijlobaaDoor.D
