/- D: regions in which loads float beside what is loud: the walk shows that they read the same wherever they may stand. -/
import Derived.Test.YtcknfhhbijlobaaDoorDSym2
namespace Go.Proofs.YtcknfhhbijlobaaDoor.D
open Go
set_option linter.unusedVariables false
set_option linter.unusedSimpArgs false

/-- A load that was made: its operation, slot, the slots ahead of it, what it read, and up to where it may float. -/
structure Ld where
  o : Oper
  d : Nat
  σ : Sg
  v : DV
  hi : Nat
/-- Of which loads, from where to where. -/
def getW : List (Nat × Nat × Nat) → Nat → Option (Nat × Nat)
  | [], _ => none
  | (i, lo, hi) :: r, j => if i = j then some (lo, hi) else getW r j
def FH (C : Cfg) (ops : Array Oper) (o : Oper) (d : Nat) (σ : Sg) (v : DV) (lo : Nat) : List (Nat × DH) → Prop
  | [] => True
  | (k, Hk) :: r => (lo ≤ k → WO C ops [o] σ Hk fun σ2 _ => σ2 d = v) ∧ FH C ops o d σ v lo r
def FL (C : Cfg) (ops : Array Oper) (i : Nat) (H' : DH) : List Ld → Prop
  | [] => True
  | l :: r => (i < l.hi → WO C ops [l.o] l.σ H' fun σ2 _ => σ2 l.d = l.v) ∧ FL C ops i H' r
def FW (C : Cfg) (ops : Array Oper) (o : Oper) (i : Nat) (hs : List (Nat × DH)) (lds : List Ld) (σ σ' : Sg) (k : List Ld → Prop) : Option (Nat × Nat) → Option Nat → Prop
  | some (lo, hi), some d => FH C ops o d σ (σ' d) lo hs ∧ k (⟨o, d, σ, σ' d, hi⟩ :: lds)
  | _, _ => k lds
def WOF (C : Cfg) (ops : Array Oper) (wins : List (Nat × Nat × Nat)) : List Oper → Nat → List (Nat × DH) → List Ld → Sg → DH → Pt → Prop
  | [], _, _, _, σ, H, K => K σ H
  | o :: r, i, hs, lds, σ, H, K => WO C ops [o] σ H fun σ' H' => FL C ops i H' lds ∧ FW C ops o i hs lds σ σ' (fun lds' => WOF C ops wins r (i + 1) ((i + 1, H') :: hs) lds' σ' H' K) (getW wins i) o.dst

variable {C : Cfg} {σ : Sg} {H : DH} {n : Pt} {e g : Nat → Pt} {r : Pt} {ops : Array Oper} {K : Pt}
theorem WO_one {o : Oper} : WO C ops [o] σ H K ↔ ∃ v H', one C.T (callF C) ops o (σ, H) = some (v, H') ∧ K (put σ o.dst v) H' := by
  unfold WO one
  simp only [evalOps]
  rcases wantedD ops o σ with _ | _ | _
  · simp
  · simp only [Option.some.injEq, Prod.mk.injEq]
    constructor
    · rintro ⟨s', rfl, h⟩; exact ⟨_, _, ⟨rfl, rfl⟩, h⟩
    · rintro ⟨v, H', ⟨rfl, rfl⟩, h⟩; exact ⟨_, rfl, h⟩
  · cases evalOp C.T (callF C) o.op σ H with
    | none => simp
    | some q =>
      obtain ⟨v, H'⟩ := q
      simp only [Option.some.injEq, Prod.mk.injEq]
      constructor
      · rintro ⟨s', rfl, h⟩; exact ⟨_, _, ⟨rfl, rfl⟩, h⟩
      · rintro ⟨v, H', ⟨rfl, rfl⟩, h⟩; exact ⟨_, rfl, h⟩
theorem FH_mem {o : Oper} {d : Nat} {v : DV} {lo : Nat} : ∀ {hs : List (Nat × DH)}, FH C ops o d σ v lo hs → ∀ k Hk, (k, Hk) ∈ hs → lo ≤ k → WO C ops [o] σ Hk fun σ2 _ => σ2 d = v
  | [], _, _, _, h, _ => by cases h
  | (k0, H0) :: r, hf, k, Hk, h, hl => by
    rcases List.mem_cons.1 h with h | h
    · cases h; exact hf.1 hl
    · exact FH_mem hf.2 k Hk h hl
theorem FL_mem {i : Nat} {H' : DH} : ∀ {lds : List Ld}, FL C ops i H' lds → ∀ l ∈ lds, i < l.hi → WO C ops [l.o] l.σ H' fun σ2 _ => σ2 l.d = l.v
  | [], _, _, h, _ => by cases h
  | l0 :: r, hf, l, h, hl => by
    rcases List.mem_cons.1 h with h | h
    · cases h; exact hf.1 hl
    · exact FL_mem hf.2 l h hl

def OKat (C : Cfg) (ops : Array Oper) (s0 : St) (i k : Nat) : Prop := ∀ (o : Oper) si v H' sk, ops[i]? = some o → evalOps C.T (callF C) ops (ops.toList.take i) s0 = some si → one C.T (callF C) ops o si = some (v, H') →
  evalOps C.T (callF C) ops (ops.toList.take k) s0 = some sk → one C.T (callF C) ops o (si.1, sk.2) = some (v, sk.2)

theorem WOF_ok {wins : List (Nat × Nat × Nat)} {s0 : St} : ∀ (l pre : List Oper) (i : Nat) (hs : List (Nat × DH)) (lds : List Ld) (σ : Sg) (H : DH), pre ++ l = ops.toList → pre.length = i → evalOps C.T (callF C) ops pre s0 = some (σ, H) →
    (∀ k, k ≤ i → ∀ sk, evalOps C.T (callF C) ops (ops.toList.take k) s0 = some sk → (k, sk.2) ∈ hs) →
    (∀ (i' : Nat) (o : Oper) (lo hi : Nat), i' < i → ops[i']? = some o → isRead o.op = true → o.dst.isSome = true → getW wins i' = some (lo, hi) →
      (∃ l ∈ lds, l.o = o ∧ o.dst = some l.d ∧ l.hi = hi ∧ ∃ Hi, evalOps C.T (callF C) ops (ops.toList.take i') s0 = some (l.σ, Hi) ∧ one C.T (callF C) ops o (l.σ, Hi) = some (l.v, Hi)) ∧
      ∀ k, lo ≤ k → k ≤ hi → k ≤ i → OKat C ops s0 i' k) →
    WOF C ops wins l i hs lds σ H K →
    ∃ s', evalOps C.T (callF C) ops l (σ, H) = some s' ∧ K s'.1 s'.2 ∧
      ∀ (i' : Nat) (o : Oper) (lo hi : Nat), ops[i']? = some o → isRead o.op = true → o.dst.isSome = true → getW wins i' = some (lo, hi) → ∀ k, lo ≤ k → k ≤ hi → k ≤ ops.size → OKat C ops s0 i' k
  | [], pre, i, hs, lds, σ, H, hl, hi, he, hhs, hld, h => by
    refine ⟨(σ, H), rfl, h, fun i' o lo hi' ho hr hd hw k h1 h2 h3 => ?_⟩
    have hsz : ops.size = i := by
      have := congrArg List.length hl
      simp at this; omega
    have hlt := (Array.getElem?_eq_some_iff.1 ho).1
    exact (hld i' o lo hi' (by omega) ho hr hd hw).2 k h1 h2 (by omega)
  | o :: r, pre, i, hs, lds, σ, H, hl, hi, he, hhs, hld, h => by
    obtain ⟨v, H', hone, hFL, hFW⟩ := WO_one.1 h
    have hoi : ops[i]? = some o := by
      rw [← Array.getElem?_toList, ← hl, List.getElem?_append_right (by omega), hi]; simp
    have hti : ops.toList.take i = pre := by rw [← hl, ← hi]; simp
    have hti1 : ops.toList.take (i + 1) = pre ++ [o] := by
      rw [List.take_add_one, hti, Array.getElem?_toList, hoi]; rfl
    have he1 : evalOps C.T (callF C) ops (pre ++ [o]) s0 = some (put σ o.dst v, H') := by
      rw [evalOps_append, he]
      simp only
      rw [evalOps_cons, hone]; rfl
    have hhs' : ∀ k, k ≤ i + 1 → ∀ sk, evalOps C.T (callF C) ops (ops.toList.take k) s0 = some sk → (k, sk.2) ∈ (i + 1, H') :: hs := by
      intro k hk sk hsk
      rcases Nat.lt_or_ge i k with q | q
      · obtain rfl : k = i + 1 := by omega
        rw [hti1, he1] at hsk
        cases hsk
        exact List.mem_cons_self ..
      · exact List.mem_cons_of_mem _ (hhs k q sk hsk)
    obtain ⟨lds', hk', hsub, hnew⟩ : ∃ lds', WOF C ops wins r (i + 1) ((i + 1, H') :: hs) lds' (put σ o.dst v) H' K ∧ (∀ l ∈ lds, l ∈ lds') ∧
        ∀ lo hi d, getW wins i = some (lo, hi) → o.dst = some d → (⟨o, d, σ, put σ o.dst v d, hi⟩ : Ld) ∈ lds' ∧ FH C ops o d σ (put σ o.dst v d) lo hs := by
      cases hw : getW wins i with
      | none => rw [hw] at hFW; exact ⟨lds, hFW, fun l h => h, fun lo hi d h => by cases h⟩
      | some q =>
        obtain ⟨lo, hi'⟩ := q
        cases hd : o.dst with
        | none => rw [hw, hd] at hFW; exact ⟨lds, hFW, fun l h => h, fun lo hi d _ h => by cases h⟩
        | some d =>
          rw [hw, hd] at hFW
          exact ⟨_, hFW.2, fun l h => List.mem_cons_of_mem _ h, fun lo2 hi2 d2 h1 h2 => by cases h1; cases h2; exact ⟨List.mem_cons_self .., hFW.1⟩⟩
    have IH := WOF_ok r (pre ++ [o]) (i + 1) _ lds' (put σ o.dst v) H' (by simpa using hl) (by simp [hi]) he1 hhs' ?_ hk'
    · obtain ⟨s', q1, q2, q3⟩ := IH
      refine ⟨s', ?_, q2, q3⟩
      rw [evalOps_cons, hone]; exact q1
    · intro i' o' lo hi' hlt ho' hr hd hw
      rcases Nat.lt_or_ge i' i with q | q
      · obtain ⟨⟨ld, hmem, rfl, hdst, rfl, Hi, g1, g2⟩, hok⟩ := hld i' o' lo hi' q ho' hr hd hw
        refine ⟨⟨ld, hsub _ hmem, rfl, hdst, rfl, Hi, g1, g2⟩, fun k h1 h2 h3 => ?_⟩
        rcases Nat.lt_or_ge i k with q2 | q2
        · obtain rfl : k = i + 1 := by omega
          intro o2 si v2 H2 sk ho2 e1 e2 e3
          rw [ho'] at ho2; cases ho2
          rw [g1] at e1; cases e1
          rw [g2] at e2; cases e2
          rw [hti1, he1] at e3; cases e3
          obtain ⟨v3, H3, f1, f2⟩ := WO_one.1 (FL_mem hFL ld hmem (by omega))
          have f3 := one_read hr f1
          subst f3
          rw [hdst] at f2
          simp only [put, upd, if_pos] at f2
          rw [f1, f2]
        · exact hok k h1 h2 q2
      · obtain rfl : i' = i := by omega
        rw [hoi] at ho'; cases ho'
        cases hdd : o.dst with
        | none => rw [hdd] at hd; cases hd
        | some d =>
          obtain ⟨m1, m2⟩ := hnew lo hi' d hw hdd
          have hH := one_read hr hone
          have hvd : put σ o.dst v d = v := by rw [hdd]; simp [put, upd]
          rw [hvd] at m1 m2
          refine ⟨⟨_, m1, rfl, rfl, rfl, H, by rw [hti]; exact he, by rw [hH] at hone; exact hone⟩, fun k h1 h2 h3 => ?_⟩
          intro o2 si v2 H2 sk ho2 e1 e2 e3
          rw [hoi] at ho2; cases ho2
          rw [hti, he] at e1; cases e1
          rw [hone] at e2; cases e2
          rcases Nat.lt_or_ge i' k with q2 | q2
          · obtain rfl : k = i' + 1 := by omega
            rw [hti1, he1] at e3; cases e3
            rw [hH] at hone
            rw [hH]; exact hone
          · obtain ⟨v3, H3, f1, f2⟩ := WO_one.1 (FH_mem m2 k sk.2 (hhs k q2 sk e3) h1)
            have f3 := one_read hr f1
            subst f3
            rw [hdd] at f2
            simp only [put, upd, if_pos] at f2
            simp only
            rw [f1, f2]

def winB (m : List Nat) (l : List Oper) (i k : Nat) : Bool := l.zipIdx.all fun (p, j) => !loud p.op || ((!(m.getD i 0).testBit j || decide (j < k)) && (!(m.getD j 0).testBit i || decide (k ≤ j)))
def sameB (l : List Oper) (i k : Nat) : Bool := l.zipIdx.all fun (p, j) => !loud p.op || !(decide (min i k ≤ j) && decide (j < max i k))
def inW (wins : List (Nat × Nat × Nat)) (i k : Nat) : Bool := match getW wins i with | some (lo, hi) => decide (lo ≤ k) && decide (k ≤ hi) | none => false
def winOk (wins : List (Nat × Nat × Nat)) (l : List Oper) : Bool :=
  drawLook false l.toArray && l.zipIdx.all fun (o, i) => !isRead o.op || (o.dst.isSome && (List.range (l.length + 1)).all fun k => !winB (masks l) l i k || sameB l i k || inW wins i k)

theorem Y_float {id : Nat} {l : List Oper} {p : Later (Code.region id l.toArray true, n, e, g, r)} (wins : List (Nat × Nat × Nat)) (h : winOk wins l = true) (k : WOF C l.toArray wins l 0 [(0, H)] [] σ H n) :
    Y C (.region id l.toArray true) σ H n e g r p := by
  unfold Y
  rw [lite, if_pos rfl, propext W_region]
  obtain ⟨s', h1, h2, h3⟩ := WOF_ok (C := C) (ops := l.toArray) (K := n) (wins := wins) (s0 := (σ, H)) l [] 0 [(0, H)] [] σ H rfl rfl rfl
    (fun k hk sk hsk => by
      obtain rfl : k = 0 := by omega
      simp [evalOps] at hsk
      subst hsk; simp) (fun i' o lo hi hlt => by omega) k
  refine ⟨fun _ => .inr ?_, s', h1, h2⟩
  simp only [winOk, Bool.and_eq_true, List.all_eq_true] at h
  obtain ⟨w1, w2⟩ := h
  refine ⟨w1, fun i o ho hr k hk hw si v H' sk a b c => ?_⟩
  have hmem : (o, i) ∈ l.zipIdx := by rw [List.mem_zipIdx_iff_getElem?]; simpa using ho
  have := w2 (o, i) hmem
  simp only [hr, Bool.not_true, Bool.false_or, Bool.and_eq_true, List.all_eq_true, Bool.or_eq_true] at this
  obtain ⟨hd, hall⟩ := this
  have hk2 := hall k (List.mem_range.2 (by simp at hk; omega))
  have C0 := (look_spec w1).1
  obtain ⟨val, hp, X, e1, e2, e3⟩ := text_of C0 h1
  rcases hk2 with (hk2 | hk2) | hk2
  · exfalso
    simp only [winB, Bool.not_eq_true', List.all_eq_false] at hk2
    obtain ⟨⟨q, j⟩, hq, hne⟩ := hk2
    rw [List.mem_zipIdx_iff_getElem?] at hq
    simp only at hq
    have hq' : l.toArray[j]? = some q := by simpa using hq
    apply hne
    cases hlq : loud q.op with
    | false => simp
    | true =>
      obtain ⟨g1, g2⟩ := hw j q hq' hlq
      have k1 := masks_spec (ops := l.toArray) l [] [] rfl rfl (by simp)
      simp only [Bool.not_true, Bool.false_or, Bool.and_eq_true, Bool.or_eq_true, Bool.not_eq_true', decide_eq_true_eq]
      constructor
      · cases hb : ((masks l).getD i 0).testBit j with
        | false => exact .inl rfl
        | true => exact .inr (g1 (k1 i j hb))
      · cases hb : ((masks l).getD j 0).testBit i with
        | false => exact .inl rfl
        | true => exact .inr (g2 (k1 j i hb))
  · -- the heap is the same there
    have hilt := (Array.getElem?_eq_some_iff.1 ho).1
    have tk := fun q hq => text_take C0 X q hq
    rw [e1] at tk
    have ti := tk i (by omega)
    rw [a] at ti; cases ti
    have tk2 := tk k hk
    rw [c] at tk2; cases tk2
    have hquiet : ∀ (i : Nat) (o : Oper), l.toArray[i]? = some o → loud o.op = false → hp (i + 1) = hp i := by
      intro i o ho hl
      have hx := X.step i o ho
      simp only [loud, Bool.not_eq_false', Bool.or_eq_true] at hl
      rcases hl with hl | hl
      · exact (one_pure hl hx).1
      · exact one_read hl hx
    have hseg : ∀ k k', k ≤ k' → k' ≤ l.toArray.size → (∀ (j : Nat) (p : Oper), l.toArray[j]? = some p → loud p.op = true → ¬ (k ≤ j ∧ j < k')) → hp k' = hp k := by
      intro k k' h1
      induction h1 with
      | refl => intros; rfl
      | step h ih =>
        rename_i m
        intro h2 h3
        have hm : m < l.toArray.size := by omega
        have ho : l.toArray[m]? = some l.toArray[m] := Array.getElem?_eq_getElem hm
        have hl : loud l.toArray[m].op = false := by
          cases hq : loud l.toArray[m].op with
          | false => rfl
          | true => exact absurd ⟨h, Nat.lt_succ_self m⟩ (h3 m _ ho hq)
        rw [hquiet m _ ho hl]
        exact ih (by omega) fun j p a b => by intro c; exact h3 j p a b ⟨c.1, by have := c.2; omega⟩
    have hno : ∀ (j : Nat) (p : Oper), l.toArray[j]? = some p → loud p.op = true → ¬ (min i k ≤ j ∧ j < max i k) := by
      intro j q hj hlq hc
      simp only [sameB, List.all_eq_true] at hk2
      have := hk2 (q, j) (by rw [List.mem_zipIdx_iff_getElem?]; simpa using hj)
      simp only [hlq, Bool.not_true, Bool.false_or, Bool.not_eq_true', Bool.and_eq_false_iff, decide_eq_false_iff_not] at this
      omega
    have heq : hp k = hp i := by
      rcases Nat.le_total i k with h | h
      · exact hseg i k h hk fun j p a b => by have := hno j p a b; rw [Nat.min_eq_left h, Nat.max_eq_right h] at this; exact this
      · exact (hseg k i h (by omega) fun j p a b => by have := hno j p a b; rw [Nat.min_eq_right h, Nat.max_eq_left h] at this; exact this).symm
    have hb2 := one_read hr b
    rw [heq]
    rw [hb2] at b
    exact b
  · unfold inW at hk2
    cases hgw : getW wins i with
    | none => rw [hgw] at hk2; cases hk2
    | some q =>
      obtain ⟨lo, hi⟩ := q
      rw [hgw] at hk2
      simp only [Bool.and_eq_true, decide_eq_true_eq] at hk2
      exact h3 i o lo hi ho hr hd hgw k hk2.1 hk2.2 hk o si v H' sk ho a b c

theorem F_nil {wins : List (Nat × Nat × Nat)} {i : Nat} {hs : List (Nat × DH)} {lds : List Ld} : WOF C ops wins [] i hs lds σ H K = K σ H := rfl
theorem F_cons {wins : List (Nat × Nat × Nat)} {i : Nat} {hs : List (Nat × DH)} {lds : List Ld} {o : Oper} {l : List Oper} : WOF C ops wins (o :: l) i hs lds σ H K = WO C ops [o] σ H fun σ' H' => FL C ops i H' lds ∧ FW C ops o i hs lds σ σ' (fun lds' => WOF C ops wins l (i + 1) ((i + 1, H') :: hs) lds' σ' H' K) (getW wins i) o.dst := rfl
end Go.Proofs.YtcknfhhbijlobaaDoor.D
