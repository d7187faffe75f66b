/- D: regions that draw their order (2). -/
import Derived.Test.YtcknfhhbijlobaaDoorDDraw
namespace Go.Proofs.YtcknfhhbijlobaaDoor.D
open Go
set_option linter.unusedVariables false
set_option linter.unusedSimpArgs false

section
variable {P : Program} {T : Tab}

theorem evalOps_append {E : Orc} {ops : Array Oper} : ∀ (l r : List Oper) (s : St), evalOps T E ops (l ++ r) s = match evalOps T E ops l s with | some s' => evalOps T E ops r s' | none => none
  | [], r, s => by simp [evalOps]
  | o :: l, r, s => by
    simp only [List.cons_append, evalOps]
    split
    · split
      · exact evalOps_append l r _
      · rfl
    · exact evalOps_append l r _
    · rfl

theorem evalOps_cons {E : Orc} {ops : Array Oper} {o : Oper} {r : List Oper} {s : St} : evalOps T E ops (o :: r) s = match one T E ops o s with | some (v, H) => evalOps T E ops r (put s.1 o.dst v, H) | none => none := by
  simp only [evalOps, one]
  rcases wantedD ops o s.1 with _ | _ | _
  · rfl
  · rfl
  · cases evalOp T E o.op s.1 s.2 <;> rfl

theorem one_congr {E : Orc} {ops : Array Oper} {o : Oper} {σ σ' : Nat → DV} {H : DH} (h : ∀ t ∈ reads ops o, σ t = σ' t) : one T E ops o (σ, H) = one T E ops o (σ', H) := by
  unfold one
  rw [wantedD_congr h]
  simp only
  rw [evalOp_congr fun t ht => h t (mem_reads ht)]

theorem one_pure {E : Orc} {ops : Array Oper} {o : Oper} {σ : Nat → DV} {H H' : DH} {v : DV} (hp : isPure o.op = true) (h : one T E ops o (σ, H) = some (v, H')) : H' = H ∧ ∀ H2, one T E ops o (σ, H2) = some (v, H2) := by
  unfold one at h ⊢
  simp only at h ⊢
  cases hw : wantedD ops o σ with
  | none => simp [hw] at h
  | some b =>
    cases b with
    | true => simp only [hw] at h ⊢; exact pure_heap hp h
    | false => simp only [hw, Option.some.injEq, Prod.mk.injEq] at h ⊢; exact ⟨h.2.symm, fun H2 => by simp [h.1]⟩
theorem one_read {E : Orc} {ops : Array Oper} {o : Oper} {σ : Nat → DV} {H H' : DH} {v : DV} (hp : isRead o.op = true) (h : one T E ops o (σ, H) = some (v, H')) : H' = H := by
  unfold one at h
  simp only at h
  cases hw : wantedD ops o σ with
  | none => simp [hw] at h
  | some b =>
    cases b with
    | true => simp only [hw] at h; exact read_heap hp h
    | false => simp only [hw, Option.some.injEq, Prod.mk.injEq] at h; exact h.2.symm

/-- What is asked of a region so that its order does not count. 'bf i j': i comes ahead of j in every order. -/
structure Chain (ops : Array Oper) (bf : Nat → Nat → Prop) : Prop where
  edge : ∀ (j : Nat) (o : Oper), ops[j]? = some o → ∀ e ∈ o.after, Region.binds .any e = true → e.on < j
  bfx : ∀ (i j : Nat), bf i j → i < j ∧ ∃ o : Oper, ops[j]? = some o ∧ ∃ e ∈ o.after, Region.binds .any e = true ∧ (i = e.on ∨ bf i e.on)
  dst : ∀ (i j : Nat) (o p : Oper) (d : Tmp), ops[i]? = some o → ops[j]? = some p → o.dst = some d → p.dst = some d → i = j
  rd : ∀ (i j : Nat) (o p : Oper) (d : Tmp), ops[i]? = some o → ops[j]? = some p → o.dst = some d → d ∈ reads ops p → i ≠ j → bf i j ∨ bf j i

/-- The slots, once the operations of L have run. -/
noncomputable def slots (ops : Array Oper) (val : Nat → DV) (σ0 : Nat → DV) (L : Nat → Prop) : Nat → DV := fun t =>
  open Classical in if h : ∃ i, L i ∧ ∃ o : Oper, ops[i]? = some o ∧ o.dst = some t then val h.choose else σ0 t

theorem slots_some {ops : Array Oper} {bf : Nat → Nat → Prop} (C : Chain ops bf) {val σ0 : Nat → DV} {L : Nat → Prop} {i t : Nat} {o : Oper} (hi : L i) (ho : ops[i]? = some o) (hd : o.dst = some t) :
    slots ops val σ0 L t = val i := by
  have h : ∃ i, L i ∧ ∃ o : Oper, ops[i]? = some o ∧ o.dst = some t := ⟨i, hi, o, ho, hd⟩
  unfold slots
  rw [dif_pos h]
  obtain ⟨_, o', h1, h2⟩ := h.choose_spec
  rw [C.dst _ _ _ _ _ h1 ho h2 hd]
theorem slots_none {ops : Array Oper} {val σ0 : Nat → DV} {L : Nat → Prop} {t : Nat} (h : ∀ (i : Nat) (o : Oper), L i → ops[i]? = some o → o.dst ≠ some t) : slots ops val σ0 L t = σ0 t := by
  unfold slots
  rw [dif_neg]
  rintro ⟨i, hi, o, ho, hd⟩
  exact h i o hi ho hd

theorem slots_put {ops : Array Oper} {bf : Nat → Nat → Prop} (C : Chain ops bf) {val σ0 : Nat → DV} {L : Nat → Prop} {i : Nat} {o : Oper} (ho : ops[i]? = some o) :
    slots ops val σ0 (fun k => k = i ∨ L k) = put (slots ops val σ0 L) o.dst (val i) := by
  funext t
  by_cases hd : o.dst = some t
  · rw [slots_some C (Or.inl rfl) ho hd, hd]
    simp [put, upd]
  · have e : put (slots ops val σ0 L) o.dst (val i) t = slots ops val σ0 L t := by
      cases hx : o.dst with
      | none => rfl
      | some d =>
        simp only [put, upd]
        rw [if_neg]
        rintro rfl
        exact hd hx
    rw [e]
    by_cases h : ∃ k, L k ∧ ∃ o : Oper, ops[k]? = some o ∧ o.dst = some t
    · obtain ⟨k, hk, o', h1, h2⟩ := h
      rw [slots_some C (Or.inr hk) h1 h2, slots_some C hk h1 h2]
    · have h' : ∀ (k : Nat) (o : Oper), L k → ops[k]? = some o → o.dst ≠ some t := fun k o hk h1 h2 => h ⟨k, hk, o, h1, h2⟩
      rw [slots_none h']
      refine slots_none fun k o' hk h1 h2 => ?_
      rcases hk with rfl | hk
      · rw [ho] at h1; cases h1; exact hd h2
      · exact h' k o' hk h1 h2

/-- The text's run: the values, and the heaps. -/
structure Text (T : Tab) (E : Orc) (ops : Array Oper) (val : Nat → DV) (hp : Nat → DH) (σ0 : Nat → DV) : Prop where
  step : ∀ (i : Nat) (o : Oper), ops[i]? = some o → one T E ops o (slots ops val σ0 (· < i), hp i) = some (val i, hp (i + 1))

theorem text_of {E : Orc} {ops : Array Oper} {bf : Nat → Nat → Prop} (C : Chain ops bf) {σ0 σ' : Nat → DV} {H0 H' : DH} (h : evalOps T E ops ops.toList (σ0, H0) = some (σ', H')) :
    ∃ (val : Nat → DV) (hp : Nat → DH), Text T E ops val hp σ0 ∧ hp 0 = H0 ∧ hp ops.size = H' ∧ slots ops val σ0 (· < ops.size) = σ' := by
  have key : ∀ k, k ≤ ops.size → ∃ (val : Nat → DV) (hp : Nat → DH), (∀ (i : Nat) (o : Oper), i < k → ops[i]? = some o → one T E ops o (slots ops val σ0 (· < i), hp i) = some (val i, hp (i + 1))) ∧ hp 0 = H0 ∧
      evalOps T E ops (ops.toList.drop k) (slots ops val σ0 (· < k), hp k) = some (σ', H') := by
    intro k
    induction k with
    | zero =>
      intro _
      refine ⟨fun _ => undefD, fun _ => H0, fun i o hi => by omega, rfl, ?_⟩
      have : slots ops (fun _ => undefD) σ0 (· < 0) = σ0 := funext fun t => slots_none fun i o hi => by omega
      rw [this]
      simpa using h
    | succ k ih =>
      intro hk
      obtain ⟨val, hp, h1, h2, h3⟩ := ih (by omega)
      have hlt : k < ops.size := by omega
      have ho : ops[k]? = some ops[k] := Array.getElem?_eq_getElem hlt
      have hdrop : ops.toList.drop k = ops[k] :: ops.toList.drop (k + 1) := by
        rw [List.drop_eq_getElem_cons (by simpa using hlt)]; simp
      rw [hdrop, evalOps_cons] at h3
      cases hone : one T E ops ops[k] (slots ops val σ0 (· < k), hp k) with
      | none => simp [hone] at h3
      | some q =>
        obtain ⟨v, H1⟩ := q
        simp only [hone] at h3
        let val' : Nat → DV := fun i => if i = k then v else val i
        let hp' : Nat → DH := fun i => if i = k + 1 then H1 else hp i
        have hsl : ∀ j, j ≤ k → slots ops val' σ0 (· < j) = slots ops val σ0 (· < j) := by
          intro j hj
          funext t
          by_cases hx : ∃ i, i < j ∧ ∃ o : Oper, ops[i]? = some o ∧ o.dst = some t
          · obtain ⟨i, hi, o, g1, g2⟩ := hx
            rw [slots_some C (L := (· < j)) hi g1 g2, slots_some C (L := (· < j)) hi g1 g2]
            exact if_neg (by omega)
          · rw [slots_none fun i o hi g1 g2 => hx ⟨i, hi, o, g1, g2⟩, slots_none fun i o hi g1 g2 => hx ⟨i, hi, o, g1, g2⟩]
        refine ⟨val', hp', fun i o hi hio => ?_, ?_, ?_⟩
        · rcases Nat.lt_succ_iff_lt_or_eq.1 hi with hlt' | rfl
          · rw [hsl i (by omega)]
            have e1 : hp' i = hp i := if_neg (by omega)
            have e2 : hp' (i + 1) = hp (i + 1) := if_neg (by omega)
            have e3 : val' i = val i := if_neg (by omega)
            rw [e1, e2, e3]
            exact h1 i o hlt' hio
          · rw [hsl i (Nat.le_refl _)]
            have e1 : hp' i = hp i := if_neg (by omega)
            have e2 : hp' (i + 1) = H1 := if_pos rfl
            have e3 : val' i = v := if_pos rfl
            rw [e1, e2, e3]
            rw [ho] at hio
            cases hio
            exact hone
        · have : hp' 0 = hp 0 := if_neg (by omega)
          rw [this]; exact h2
        · have e1 : hp' (k + 1) = H1 := if_pos rfl
          have e2 : slots ops val' σ0 (· < k + 1) = put (slots ops val σ0 (· < k)) ops[k].dst v := by
            have := slots_put C (val := val') (σ0 := σ0) (L := (· < k)) ho
            have e3 : val' k = v := if_pos rfl
            rw [hsl k (Nat.le_refl _), e3] at this
            rw [← this]
            congr 1
            funext i
            exact propext (by omega)
          rw [e1, e2]
          exact h3
  obtain ⟨val, hp, h1, h2, h3⟩ := key ops.size (Nat.le_refl _)
  rw [List.drop_of_length_le (by simp)] at h3
  simp only [evalOps, Option.some.injEq, Prod.mk.injEq] at h3
  exact ⟨val, hp, ⟨fun i o hi => h1 i o (Array.getElem?_eq_some_iff.1 hi).1 hi⟩, h2, h3.2, h3.1⟩

theorem draw_core (TO : TabOk P T) {E : Orc} (EO : OrcOk P E) {ops : Array Oper} {bf : Nat → Nat → Prop} (C : Chain ops bf) {val : Nat → DV} {hp : Nat → DH} {σ0 : Nat → DV} (X : Text T E ops val hp σ0)
    (ll : ∀ (i j : Nat) (o p : Oper), ops[i]? = some o → ops[j]? = some p → loud o.op = true → loud p.op = true → i ≠ j → bf i j ∨ bf j i)
    (rl : ∀ (i k : Nat) (o : Oper), ops[i]? = some o → isRead o.op = true → k ≤ ops.size → (∀ (j : Nat) (p : Oper), ops[j]? = some p → loud p.op = true → (bf j i → j < k) ∧ (bf i j → k ≤ j)) → one T E ops o (slots ops val σ0 (· < i), hp k) = some (val i, hp k))
    {G0 : Ghost} {w0 : World} {N : Nat} (hN : ∀ (j : Nat) (p : Oper) t, ops[j]? = some p → p.dst = some t → t < N) {Q : Exit → Act → World → Prop}
    (hQ : ∀ a w G, SlotsOk G (slots ops val σ0 (· < ops.size)) a → a.defers = [] → a.tmps.size = N → Step G0 (hp 0) w0 G (hp ops.size) w → Q .normal a w) :
    ∀ (fuel : Nat) (listed : Array Bool) (a : Act) (w : World) (G : Ghost) (k : Nat), listed.size = ops.size → k ≤ ops.size →
      (∀ i j, bf i j → listed.getD j false = true → listed.getD i false = true) →
      (∀ (j : Nat) (p : Oper), ops[j]? = some p → loud p.op = true → (listed.getD j false = true ↔ j < k)) →
      ((List.range ops.size).filter fun i => !listed.getD i false).length ≤ fuel →
      SlotsOk G (slots ops val σ0 fun i => listed.getD i false = true) a → a.defers = [] → a.tmps.size = N → Step G0 (hp 0) w0 G (hp k) w →
      wpAny P .any ops Q fuel listed a w := by
  -- the heap between two loud operations
  have hquiet : ∀ (i : Nat) (o : Oper), ops[i]? = some o → loud o.op = false → hp (i + 1) = hp i := by
    intro i o ho hl
    have hx := X.step i o ho
    simp only [loud, Bool.not_eq_false', Bool.or_eq_true] at hl
    rcases hl with hl | hl
    · exact (one_pure hl hx).1
    · exact one_read hl hx
  have hseg : ∀ k k', k ≤ k' → k' ≤ ops.size → (∀ (j : Nat) (p : Oper), ops[j]? = some p → loud p.op = true → ¬ (k ≤ j ∧ j < k')) → hp k' = hp k := by
    intro k k' h1
    induction h1 with
    | refl => intros; rfl
    | step h ih =>
      rename_i m
      intro h2 h3
      have hm : m < ops.size := by omega
      have ho : ops[m]? = some ops[m] := Array.getElem?_eq_getElem hm
      have hl : loud ops[m].op = false := by
        cases hq : loud ops[m].op with
        | false => rfl
        | true => exact absurd ⟨h, Nat.lt_succ_self m⟩ (h3 m _ ho hq)
      rw [hquiet m _ ho hl]
      exact ih (by omega) fun j p a b c => h3 j p a b ⟨c.1, by have := c.2; omega⟩
  intro fuel
  -- done: everything is listed
  have hdone : ∀ (listed : Array Bool) (a : Act) (w : World) (G : Ghost) (k : Nat), listed.size = ops.size → k ≤ ops.size →
      (∀ (j : Nat) (p : Oper), ops[j]? = some p → loud p.op = true → (listed.getD j false = true ↔ j < k)) → (∀ i, i < ops.size → listed.getD i false = true) →
      SlotsOk G (slots ops val σ0 fun i => listed.getD i false = true) a → a.defers = [] → a.tmps.size = N → Step G0 (hp 0) w0 G (hp k) w → Q .normal a w := by
    intro listed a w G k hsz hk hlk hall hs hd hn hst
    have e1 : hp ops.size = hp k := hseg k ops.size hk (Nat.le_refl _) fun j p hj hl hc => by
      have := (hlk j p hj hl).1 (hall j (Array.getElem?_eq_some_iff.1 hj).1)
      omega
    have e2 : slots ops val σ0 (fun i => listed.getD i false = true) = slots ops val σ0 (· < ops.size) := by
      funext t
      by_cases hx : ∃ i, i < ops.size ∧ ∃ o : Oper, ops[i]? = some o ∧ o.dst = some t
      · obtain ⟨i, hi, o, g1, g2⟩ := hx
        rw [slots_some C (L := fun i => listed.getD i false = true) (hall i hi) g1 g2, slots_some C (L := (· < ops.size)) hi g1 g2]
      · rw [slots_none fun i o _ g1 g2 => hx ⟨i, (Array.getElem?_eq_some_iff.1 g1).1, o, g1, g2⟩, slots_none fun i o hi g1 g2 => hx ⟨i, hi, o, g1, g2⟩]
    rw [e2] at hs
    rw [← e1] at hst
    exact hQ a w G hs hd hn hst
  -- nothing ready: all is listed
  have hready : ∀ (listed : Array Bool), listed.size = ops.size → Region.ready .any ops listed = [] → ∀ i, i < ops.size → listed.getD i false = true := by
    intro listed hsz h i
    induction i using Nat.strongRecOn with
    | _ i ih =>
      intro hi
      cases hq : listed.getD i false with
      | true => rfl
      | false =>
        exfalso
        have hmem : i ∈ Region.ready .any ops listed := by
          refine mem_ready.2 ⟨?_, ops[i], Array.getElem?_eq_getElem hi, fun e he hb => ?_⟩
          · have : i < listed.size := by omega
            simp [this] at hq ⊢
            exact hq
          · have := C.edge i _ (Array.getElem?_eq_getElem hi) e he hb
            exact ih e.on this (by omega)
        rw [h] at hmem
        cases hmem
  induction fuel with
  | zero =>
    intro listed a w G k hsz hk hcl hlk hf hs hd hn hst
    have hall : ∀ i, i < ops.size → listed.getD i false = true := by
      intro i hi
      cases hq : listed.getD i false with
      | true => rfl
      | false =>
        exfalso
        have : i ∈ (List.range ops.size).filter fun i => !listed.getD i false := by
          rw [List.mem_filter]
          exact ⟨List.mem_range.2 hi, by rw [hq]; rfl⟩
        have := List.length_pos_of_mem this
        omega
    refine ⟨?_, hdone listed a w G k hsz hk hlk hall hs hd hn hst⟩
    cases hr : Region.ready .any ops listed with
    | nil => rfl
    | cons i r =>
      exfalso
      have hm : i ∈ Region.ready .any ops listed := by rw [hr]; simp
      obtain ⟨h1, o, h2, _⟩ := mem_ready.1 hm
      have hi := (Array.getElem?_eq_some_iff.1 h2).1
      have := hall i hi
      have hl : i < listed.size := by omega
      simp [hl] at h1 this
      rw [h1] at this; cases this
  | succ fuel ih =>
    intro listed a w G k hsz hk hcl hlk hf hs hd hn hst
    refine ⟨fun hr => hdone listed a w G k hsz hk hlk (hready listed hsz hr) hs hd hn hst, fun i hi => ?_⟩
    obtain ⟨h1, o, ho, hedges⟩ := mem_ready.1 hi
    have hilt := (Array.getElem?_eq_some_iff.1 ho).1
    have hil : i < listed.size := by omega
    have hnot : listed.getD i false = false := by simp [hil] at h1 ⊢; exact h1
    have hedge : ∀ j, bf j i → listed.getD j false = true := by
      intro j hj
      obtain ⟨_, o', ho', e, he, hb, hor⟩ := C.bfx j i hj
      rw [ho] at ho'
      cases ho'
      have hl := hedges e he hb
      rcases hor with rfl | hor
      · exact hl
      · exact hcl j e.on hor hl
    have hafter : ∀ j, bf i j → listed.getD j false = false := by
      intro j hj
      cases hq : listed.getD j false with
      | false => rfl
      | true => have := hcl i j hj hq; rw [hnot] at this; cases this
    -- what the operation looks at is as in the text
    have hagree : ∀ t ∈ reads ops o, slots ops val σ0 (fun i => listed.getD i false = true) t = slots ops val σ0 (· < i) t := by
      intro t ht
      by_cases hx : ∃ (j : Nat) (p : Oper), ops[j]? = some p ∧ p.dst = some t
      · obtain ⟨j, p, hj, hp'⟩ := hx
        have only : ∀ (L : Nat → Prop), ¬ L j → slots ops val σ0 L t = σ0 t := fun L hL => slots_none fun j' p' hj' g1 g2 => hL (C.dst _ _ _ _ _ g1 hj g2 hp' ▸ hj')
        by_cases hij : i = j
        · subst hij
          rw [only _ (by rw [hnot]; simp), only _ (by omega)]
        · rcases C.rd j i p o t hj ho hp' ht (Ne.symm hij) with hb | hb
          · rw [slots_some C (L := fun i => listed.getD i false = true) (hedge j hb) hj hp', slots_some C (L := (· < i)) (C.bfx _ _ hb).1 hj hp']
          · have := (C.bfx _ _ hb).1
            rw [only _ (by rw [hafter j hb]; simp), only _ (by omega)]
      · rw [slots_none fun j p _ g1 g2 => hx ⟨j, p, g1, g2⟩, slots_none fun j p _ g1 g2 => hx ⟨j, p, g1, g2⟩]
    have hx := X.step i o ho
    -- what it gives here
    have hgives : ∃ k', k' ≤ ops.size ∧ one T E ops o (slots ops val σ0 (fun i => listed.getD i false = true), hp k) = some (val i, hp k') ∧
        (∀ (j : Nat) (p : Oper), ops[j]? = some p → loud p.op = true → ((listed.setIfInBounds i true).getD j false = true ↔ j < k')) := by
      rw [one_congr hagree]
      have hset : ∀ j, j ≠ i → (listed.setIfInBounds i true).getD j false = listed.getD j false := by
        intro j hj
        simp [Array.getElem?_setIfInBounds_ne (Ne.symm hj)]
      have hself : (listed.setIfInBounds i true).getD i false = true := by simp [hil]
      cases hl : loud o.op with
      | false =>
        refine ⟨k, hk, ?_, fun j p hj hlp => ?_⟩
        · by_cases hpu : isPure o.op = true
          · exact (one_pure hpu hx).2 _
          · have hrd : isRead o.op = true := by
              simp only [loud, Bool.not_eq_false', Bool.or_eq_true] at hl
              exact hl.resolve_left hpu
            exact rl i k o ho hrd hk fun j p hj hlp => ⟨fun hb => (hlk j p hj hlp).1 (hedge j hb), fun hb => by
              have := hafter j hb
              rcases Nat.lt_or_ge j k with h | h
              · rw [(hlk j p hj hlp).2 h] at this; cases this
              · exact h⟩
        · have hne : j ≠ i := by rintro rfl; rw [ho] at hj; cases hj; rw [hl] at hlp; cases hlp
          rw [hset j hne]
          exact hlk j p hj hlp
      | true =>
        -- the loud ones ahead of it are those that were listed
        have hki : k ≤ i := by
          rcases Nat.lt_or_ge i k with h | h
          · have := (hlk i o ho hl).2 h
            rw [hnot] at this; cases this
          · exact h
        have hbetween : ∀ (j : Nat) (p : Oper), ops[j]? = some p → loud p.op = true → ¬ (k ≤ j ∧ j < i) := by
          intro j p hj hlp ⟨c1, c2⟩
          rcases ll j i p o hj ho hlp hl (by omega) with hb | hb
          · have := (hlk j p hj hlp).1 (hedge j hb); omega
          · have := (C.bfx _ _ hb).1; omega
        rw [← hseg k i hki (by omega) hbetween]
        refine ⟨i + 1, by omega, hx, fun j p hj hlp => ?_⟩
        by_cases hji : j = i
        · subst hji; rw [hself]; simp
        · rw [hset j hji, hlk j p hj hlp]
          constructor
          · intro h; omega
          · intro h
            rcases Nat.lt_or_ge j k with h' | h'
            · exact h'
            · exact absurd ⟨h', by omega⟩ (hbetween j p hj hlp)
    obtain ⟨k', hk', hone, hlk'⟩ := hgives
    have hlt : ∀ t, o.dst = some t → t < a.tmps.size := fun t ht => hn ▸ hN i o t ho ht
    have hnext : ∀ v' w' G', V G' (val i) v' → Step G (hp k) w G' (hp k') w' → wpAny P .any ops Q fuel (listed.setIfInBounds i true) (a.put o.dst v') w' := by
      intro v' w' G' hv hst'
      refine ih _ _ w' G' k' (by simp [hsz]) hk' ?_ hlk' ?_ ?_ (by rw [put_defers]; exact hd) (by rw [put_size]; exact hn) (hst.trans hst')
      · intro p q hb hq
        by_cases hqi : q = i
        · subst hqi
          have := hedge p hb
          by_cases hpi : p = q
          · subst hpi; simp [hil]
          · simpa [Array.getElem?_setIfInBounds_ne (Ne.symm hpi)] using this
        · have hq' : listed.getD q false = true := by simpa [Array.getElem?_setIfInBounds_ne (Ne.symm hqi)] using hq
          by_cases hpi : p = i
          · subst hpi; simp [hil]
          · have := hcl p q hb hq'
            simpa [Array.getElem?_setIfInBounds_ne (Ne.symm hpi)] using this
      · have hlen : ((List.range ops.size).filter fun j => !(listed.setIfInBounds i true).getD j false).length < ((List.range ops.size).filter fun j => !listed.getD j false).length := by
          have hsub : ((List.range ops.size).filter fun j => !(listed.setIfInBounds i true).getD j false) = ((List.range ops.size).filter fun j => !listed.getD j false).filter fun j => j != i := by
            rw [List.filter_filter]
            apply List.filter_congr
            intro j _
            by_cases hji : j = i
            · subst hji; simp [hil]
            · have : (listed.setIfInBounds i true).getD j false = listed.getD j false := by simp [Array.getElem?_setIfInBounds_ne (Ne.symm hji)]
              rw [this]; simp [hji]
          rw [hsub]
          exact List.length_filter_lt_length_iff_exists.2 ⟨i, by rw [List.mem_filter]; exact ⟨List.mem_range.2 hilt, by rw [hnot]; rfl⟩, by simp⟩
        omega
      · have := slots_put C (val := val) (σ0 := σ0) (L := fun j => listed.getD j false = true) ho
        have e : (fun j => (listed.setIfInBounds i true).getD j false = true) = fun j => j = i ∨ listed.getD j false = true := by
          funext j
          apply propext
          by_cases hji : j = i
          · subst hji; simp [hil]
          · have : (listed.setIfInBounds i true).getD j false = listed.getD j false := by simp [Array.getElem?_setIfInBounds_ne (Ne.symm hji)]
            rw [this]; simp [hji]
        rw [e, this]
        exact put_ok (hs.mono hst'.le) hv hlt
    unfold wpOp
    simp only [ho]
    generalize (slots ops val σ0 fun i => listed.getD i false = true) = σL at hs hone
    unfold one at hone
    cases hw : wantedD ops o σL with
    | none => simp [hw] at hone
    | some b =>
      rw [wanted_ok hs hw (hn ▸ hN)]
      cases b with
      | true =>
        simp only [hw] at hone
        rw [if_pos rfl]
        refine .inl ?_
        unfold Oper.wp
        exact upon_ok (op_ok TO EO hst.rel hs hone) fun v' w' G' hv hst' => hnext v' w' G' hv hst'
      | false =>
        simp only [hw, Option.some.injEq, Prod.mk.injEq] at hone
        rw [if_neg (by simp)]
        refine hnext undef w G (by rw [← hone.1]; exact V_undef G) ?_
        rw [← hone.2]
        exact .refl hst.rel
end
end Go.Proofs.YtcknfhhbijlobaaDoor.D
