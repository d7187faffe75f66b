/- D: regions that draw their order (3): the look that a region's order does not count. -/
import Derived.Test.YtcknfhhbijlobaaDoorDDraw2
namespace Go.Proofs.YtcknfhhbijlobaaDoor.D
open Go
set_option linter.unusedVariables false
set_option linter.unusedSimpArgs false

theorem mask_spec (acc : List Nat) {i : Nat} : ∀ (es : List Nat) (s : Nat), (es.foldl (fun s e => s ||| 2 ^ e ||| acc.getD e 0) s).testBit i = true → s.testBit i = true ∨ ∃ e ∈ es, i = e ∨ (acc.getD e 0).testBit i = true
  | [], s, h => .inl h
  | e :: es, s, h => by
    simp only [List.foldl_cons] at h
    rcases mask_spec acc es _ h with h | ⟨e', he, h⟩
    · rw [Nat.testBit_or, Nat.testBit_or, Bool.or_eq_true, Bool.or_eq_true] at h
      rcases h with (h | h) | h
      · exact .inl h
      · refine .inr ⟨e, by simp, .inl ?_⟩
        rw [Nat.testBit_two_pow] at h
        exact (by simpa using h : e = i).symm
      · exact .inr ⟨e, by simp, .inr h⟩
    · exact .inr ⟨e', by simp [he], h⟩

theorem masks_spec {ops : Array Oper} : ∀ (l : List Oper) (pre : List Oper) (acc : List Nat), pre ++ l = ops.toList → acc.length = pre.length → (∀ j i, (acc.getD j 0).testBit i = true → BF ops i j) →
    ∀ j i, ((l.foldl (fun acc o => acc ++ [mask acc (edgesOf o)]) acc).getD j 0).testBit i = true → BF ops i j
  | [], pre, acc, _, _, h => h
  | o :: l, pre, acc, hl, hn, h => by
    simp only [List.foldl_cons]
    refine masks_spec l (pre ++ [o]) _ (by simp [hl]) (by simp [hn]) fun j i hb => ?_
    have ho : ops[pre.length]? = some o := by
      have : ops.toList[pre.length]? = some o := by rw [← hl]; simp
      simpa using this
    by_cases hj : j < acc.length
    · refine h j i ?_
      simpa [List.getD, List.getElem?_append_left hj] using hb
    · by_cases hj2 : j = acc.length
      · subst hj2
        have hb' : (mask acc (edgesOf o)).testBit i = true := by simpa [List.getD] using hb
        rw [hn]
        rcases mask_spec acc _ _ hb' with h0 | ⟨e, he, h0⟩
        · simp at h0
        · obtain ⟨e', he', rfl⟩ := List.mem_map.1 he
          rw [List.mem_filter] at he'
          have hmem : e' ∈ o.after := by simpa using he'.1
          rcases h0 with rfl | h0
          · exact .edge ho hmem he'.2
          · exact .step ho hmem he'.2 (h _ _ h0)
      · have : (acc ++ [mask acc (edgesOf o)]).getD j 0 = 0 := by
          simp only [List.getD]
          rw [List.getElem?_eq_none (by simp; omega)]
          rfl
        rw [this] at hb
        simp at hb

theorem ord_spec {ops : Array Oper} {i j : Nat} (h : ord (masks ops.toList) i j = true) : BF ops i j ∨ BF ops j i := by
  have k := masks_spec (ops := ops) ops.toList [] [] rfl rfl (by simp)
  unfold ord at h
  rw [Bool.or_eq_true] at h
  exact h.imp (k j i) (k i j)

theorem look_spec {rl : Bool} {ops : Array Oper} (h : drawLook rl ops = true) : Chain ops (BF ops) ∧
    (∀ (i j : Nat) (o p : Oper), ops[i]? = some o → ops[j]? = some p → loud o.op = true → loud p.op = true → i ≠ j → BF ops i j ∨ BF ops j i) ∧
    (rl = true → ∀ (i j : Nat) (o p : Oper), ops[i]? = some o → ops[j]? = some p → isRead o.op = true → loud p.op = true → BF ops i j ∨ BF ops j i) := by
  simp only [drawLook, List.all_eq_true] at h
  have mem : ∀ {i : Nat} {o : Oper}, ops[i]? = some o → (o, i) ∈ ops.toList.zipIdx := by
    intro i o ho
    rw [List.mem_zipIdx_iff_getElem?]
    simpa using ho
  have get : ∀ (i j : Nat) (o p : Oper), ops[i]? = some o → ops[j]? = some p → i ≠ j →
      (match o.dst with | some d => p.dst != some d && (!(reads ops p).contains d || ord (masks ops.toList) i j) | none => true) = true ∧
      (isPure o.op || isPure p.op || (isRead o.op && isRead p.op) || (!rl && (isRead o.op || isRead p.op)) || ord (masks ops.toList) i j) = true := by
    intro i j o p ho hp hij
    have := h (o, i) (mem ho)
    simp only [Bool.and_eq_true, List.all_eq_true] at this
    have := this.2 (p, j) (mem hp)
    have hb : (i == j) = false := by simpa using hij
    rw [hb, Bool.false_or, Bool.and_eq_true] at this
    exact this
  have hedge : ∀ (j : Nat) (o : Oper), ops[j]? = some o → ∀ e ∈ o.after, Region.binds .any e = true → e.on < j := by
    intro j o ho e he hb
    have := h (o, j) (mem ho)
    simp only [Bool.and_eq_true, List.all_eq_true] at this
    have := this.1 e.on (List.mem_map.2 ⟨e, List.mem_filter.2 ⟨by simpa using he, hb⟩, rfl⟩)
    simpa using this
  refine ⟨⟨hedge, ?_, ?_, ?_⟩, ?_, ?_⟩
  · intro i j hb
    have lt : ∀ {i j : Nat}, BF ops i j → i < j := by
      intro i j hb
      induction hb with
      | edge h he hb => exact hedge _ _ h _ he hb
      | step h he hb _ ih => exact Nat.lt_trans ih (hedge _ _ h _ he hb)
    refine ⟨lt hb, ?_⟩
    cases hb with
    | edge h he hb => exact ⟨_, h, _, he, hb, .inl rfl⟩
    | step h he hb hi => exact ⟨_, h, _, he, hb, .inr hi⟩
  · intro i j o p d ho hp h1 h2
    by_cases hij : i = j
    · exact hij
    · have := (get i j o p ho hp hij).1
      simp [h1, h2] at this
  · intro i j o p d ho hp h1 h2 hij
    have := (get i j o p ho hp hij).1
    simp only [h1, Bool.and_eq_true, Bool.or_eq_true] at this
    rcases this.2 with h | h
    · rw [List.contains_iff_mem.2 h2] at h; cases h
    · exact ord_spec h
  · intro i j o p ho hp h1 h2 hij
    have := (get i j o p ho hp hij).2
    simp only [loud, Bool.not_eq_true', Bool.or_eq_false_iff] at h1 h2
    simp [h1, h2] at this
    exact ord_spec this
  · intro hrl i j o p ho hp h1 h2
    by_cases hij : i = j
    · subst hij
      rw [ho] at hp; cases hp
      simp only [loud, Bool.not_eq_true', Bool.or_eq_false_iff] at h2
      rw [h1] at h2; cases h2.2
    · have := (get i j o p ho hp hij).2
      simp only [loud, Bool.not_eq_true', Bool.or_eq_false_iff] at h2
      have hnp : isPure o.op = false := by
        cases hq : isPure o.op with
        | false => rfl
        | true =>
          exfalso
          revert hq h1
          cases o.op <;> first | (simp [isPure]; done) | (simp [isRead]; done) | skip
          rename_i c
          obtain ⟨callee, _, _⟩ := c
          cases callee <;> first | (simp [isPure]; done) | (simp [isRead]; done) | skip
          rename_i b
          cases b <;> first | (simp [isPure]; done) | (simp [isRead]; done)
      simp [h2, h1, hnp, hrl] at this
      exact ord_spec this

theorem repl_false (n i : Nat) : (Array.replicate n false).getD i false = false := by
  simp [Array.getElem?_replicate]
  split <;> rfl

/-- The text's states. -/
theorem text_take {T : Tab} {E : Orc} {ops : Array Oper} {bf : Nat → Nat → Prop} (C : Chain ops bf) {val : Nat → DV} {hp : Nat → DH} {σ0 : Nat → DV} (X : Text T E ops val hp σ0) : ∀ i, i ≤ ops.size → evalOps T E ops (ops.toList.take i) (σ0, hp 0) = some (slots ops val σ0 (· < i), hp i)
  | 0, _ => by
    have : slots ops val σ0 (· < 0) = σ0 := funext fun t => slots_none fun i o hi => by omega
    rw [this]; rfl
  | i + 1, h => by
    have hlt : i < ops.size := by omega
    have ho : ops[i]? = some ops[i] := Array.getElem?_eq_getElem hlt
    have ht : ops.toList.take (i + 1) = ops.toList.take i ++ [ops[i]] := by
      rw [List.take_add_one]; simp [hlt]
    rw [ht, evalOps_append, text_take C X i (by omega)]
    simp only
    rw [evalOps_cons, X.step i _ ho]
    simp only [evalOps]
    have := slots_put C (val := val) (σ0 := σ0) (L := (· < i)) ho
    rw [← this]
    congr 3
    funext k
    exact propext (by omega)

/-- With no load afloat; or with such as read the same wherever they may stand. -/
theorem draw_ok {P : Program} {T : Tab} (TO : TabOk P T) (hmix : P.follows .mixedOrders = true) : DrawOk P T (drawLook true) := by
  intro ops E EO σ H σ' H' hlook he G w a N id r hs hd hn hb
  obtain ⟨rr, hl, hfl⟩ : ∃ rr, drawLook rr ops = true ∧ (rr = false → Floats T E ops (σ, H)) := by
    rcases hlook with h | h
    · exact ⟨true, h, by simp⟩
    · exact ⟨false, h.1, fun _ => h⟩
  obtain ⟨C, ll, rl⟩ := look_spec hl
  obtain ⟨val, hp, X, e1, e2, e3⟩ := text_of C he
  obtain ⟨b1, b2⟩ := bnd_region hb
  refine wp_region_any hmix ?_
  have hst : Step G (hp 0) w G (hp 0) { w with drawn := w.drawn + 1 } := by rw [e1]; exact Step.drew r
  have hquiet : ∀ (i : Nat) (o : Oper), ops[i]? = some o → loud o.op = false → hp (i + 1) = hp i := by
    intro i o ho hl
    have hx := X.step i o ho
    simp only [loud, Bool.not_eq_false', Bool.or_eq_true] at hl
    rcases hl with hl | hl
    · exact (one_pure hl hx).1
    · exact one_read hl hx
  have hseg : ∀ k k', k ≤ k' → k' ≤ ops.size → (∀ (j : Nat) (p : Oper), ops[j]? = some p → loud p.op = true → ¬ (k ≤ j ∧ j < k')) → hp k' = hp k := by
    intro k k' h1
    induction h1 with
    | refl => intros; rfl
    | step h ih =>
      rename_i m
      intro h2 h3
      have hm : m < ops.size := by omega
      have ho : ops[m]? = some ops[m] := Array.getElem?_eq_getElem hm
      have hl : loud ops[m].op = false := by
        cases hq : loud ops[m].op with
        | false => rfl
        | true => exact absurd ⟨h, Nat.lt_succ_self m⟩ (h3 m _ ho hq)
      rw [hquiet m _ ho hl]
      exact ih (by omega) fun j p a b c => h3 j p a b ⟨c.1, by have := c.2; omega⟩
  refine draw_core TO EO C X ll ?_ b1 (Q := Post G H w N .norm σ' H') ?_ ops.size _ a _ G 0 (by simp) (Nat.zero_le _) ?_ ?_ ?_ ?_ hd hn hst
  · intro i k o ho hrd hks hk
    have hx := X.step i o ho
    have hilt := (Array.getElem?_eq_some_iff.1 ho).1
    cases hrr : rr with
    | false =>
      have := (hfl hrr).2 i o ho hrd k hks hk _ _ _ _ (by rw [← e1]; exact text_take C X i (by omega)) hx (by rw [← e1]; exact text_take C X k hks)
      exact this
    | true =>
    have hh := one_read hrd hx
    rw [hh] at hx
    have : hp k = hp i := by
      rcases Nat.le_total k i with h | h
      · refine (hseg k i h (by omega) fun j p hj hlp c => ?_).symm
        rcases rl hrr i j o p ho hj hrd hlp with hb | hb
        · have := (C.bfx _ _ hb).1; omega
        · have := (hk j p hj hlp).1 hb; omega
      · refine hseg i k h hks fun j p hj hlp c => ?_
        rcases rl hrr i j o p ho hj hrd hlp with hb | hb
        · have := (hk j p hj hlp).2 hb; omega
        · have := (C.bfx _ _ hb).1; omega
    rw [this]; exact hx
  · intro a' w' G' h1 h2 h3 h4
    rw [e3] at h1
    rw [e1, e2] at h4
    exact ⟨rfl, G', h1, h2, h3, h4⟩
  · intro i j _ h; rw [repl_false] at h; cases h
  · intro j p hj hlp
    rw [repl_false]
    simp
  · exact Nat.le_trans (List.length_filter_le _ _) (by simp)
  · have : slots ops val σ (fun i => (Array.replicate ops.size false).getD i false = true) = σ := by
      funext t
      refine slots_none fun i o h _ _ => ?_
      rw [repl_false] at h; cases h
    rw [this]; exact hs
end Go.Proofs.YtcknfhhbijlobaaDoor.D
