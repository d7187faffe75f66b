import Derived.Test.YtcknfhhbijlobaaGreatDoorMB
namespace Go.Proofs.YtcknfhhbijlobaaGreatDoor.D
open Go
set_option linter.unusedVariables false
set_option linter.unusedSimpArgs false
section
variable {P : Program} {T : Tab}
theorem opd_congr {σ σ' : Nat → DV} {x : Operand} (h : ∀ t, x = .tmp t → σ t = σ' t) : opd σ x = opd σ' x := by
 cases x <;> simp [opd]
 exact h _ rfl
theorem opds_congr {σ σ' : Nat → DV} : ∀ {xs : List Operand}, (∀ t, Operand.tmp t ∈ xs → σ t = σ' t) → opds σ xs = opds σ' xs
 | [], _ => rfl
 | x :: xs, h => by
  simp only [opds]
  rw [opd_congr fun t e => h t (by simp [e]), opds_congr fun t ht => h t (by simp [ht])]
theorem opdParts_congr {σ σ' : Nat → DV} : ∀ {xs : List (Nat × Operand)}, (∀ t, Operand.tmp t ∈ xs.map (·.2) → σ t = σ' t) → opdParts σ xs = opdParts σ' xs
 | [], _ => rfl
 | (i, x) :: xs, h => by
  simp only [opdParts]
  rw [opd_congr fun t e => h t (by simp [e]), opdParts_congr fun t ht => h t (by simp at ht ⊢; exact .inr ht)]
theorem evalOp_congr {E : Orc} {o : Op} {σ σ' : Nat → DV} {H : DH} (h : ∀ t, Operand.tmp t ∈ o.operands.toList → σ t = σ' t) : evalOp T E o σ H = evalOp T E o σ' H := by
 cases o <;> simp only [evalOp] <;> simp only [Op.operands] at h
 case move x => rw [opd_congr fun t e => h t (by simp [e])]
 case assign x => rw [opd_congr fun t e => h t (by simp [e])]
 case pick c x y =>
  rw [opd_congr (x := c) fun t e => h t (by simp [e])]
  have e1 : opd σ x = opd σ' x := opd_congr fun t e => h t (by simp [e])
  have e2 : opd σ y = opd σ' y := opd_congr fun t e => h t (by simp [e])
  split
  ·rename_i t _
   cases t
   ·simp [e2]
   ·simp [e1]
  ·rfl
 case box e x => rw [opd_congr fun t e => h t (by simp [e])]
 case build t ps => rw [opdParts_congr fun t e => h t (by simpa using e)]
 case buildSlice t n ps => rw [opdParts_congr fun t e => h t (by simpa using e)]
 case load t x => rw [opd_congr fun t e => h t (by simp [e])]
 case store t x y => rw [opd_congr (x := x) fun t e => h t (by simp [e]), opd_congr (x := y) fun t e => h t (by simp [e])]
 case nilCheck x => rw [opd_congr fun t e => h t (by simp [e])]
 case binOp op t x y yt => rw [opd_congr (x := x) fun t e => h t (by simp [e]), opd_congr (x := y) fun t e => h t (by simp [e])]
 case unOp op t x => rw [opd_congr fun t e => h t (by simp [e])]
 case convert s d x => rw [opd_congr fun t e => h t (by simp [e])]
 case slice t x lo hi mx =>
  rw [opd_congr (x := x) fun t e => h t (by simp [e])]
  have e1 : optOpd σ lo = optOpd σ' lo := by
   cases lo with
   | none => rfl
   | some l => simp only [optOpd]; rw [opd_congr fun t e => h t (by simp [e])]
  have e2 : optOpd σ hi = optOpd σ' hi := by
   cases hi with
   | none => rfl
   | some l => simp only [optOpd]; rw [opd_congr fun t e => h t (by simp [e])]
  rw [e1, e2]
 case fieldAddr s x f => rw [opd_congr fun t e => h t (by simp [e])]
 case field s x f => rw [opd_congr fun t e => h t (by simp [e])]
 case indexAddr t x i => rw [opd_congr (x := x) fun t e => h t (by simp [e]), opd_congr (x := i) fun t e => h t (by simp [e])]
 case index t x i => rw [opd_congr (x := x) fun t e => h t (by simp [e]), opd_congr (x := i) fun t e => h t (by simp [e])]
 case extract x i => rw [opd_congr fun t e => h t (by simp [e])]
 case makeFunc f x y =>
  rw [opds_congr (xs := x.toList) fun t e => h t (by simp at e ⊢; exact .inl e), opds_congr (xs := y.toList) fun t e => h t (by simp at e ⊢; exact .inr e)]
 case makeSlice t x y => rw [opd_congr (x := x) fun t e => h t (by simp [e]), opd_congr (x := y) fun t e => h t (by simp [e])]
 case call c =>
  simp only [Call.operands] at h
  unfold callD
  rw [opds_congr (xs := c.args.toList) fun t e => h t (by simp at e ⊢; exact .inr e)]
  cases hc : c.callee with
  | value f => simp only [hc] at h ⊢; rw [opd_congr (x := f) fun t e => h t (by simp [e])]
  | builtin b => rfl
  | invoke r m => rfl
 case makeMap t n =>
  have e1 : optOpd σ n = optOpd σ' n := by
   cases n with
   | none => rfl
   | some l => simp only [optOpd]; rw [opd_congr fun t e => h t (by simp [e])]
  rw [e1]
 case lookup t x i ok => rw [opd_congr (x := x) fun t e => h t (by simp [e]), opd_congr (x := i) fun t e => h t (by simp [e])]
 case mapUpdate t x k v => rw [opd_congr (x := x) fun t e => h t (by simp [e]), opd_congr (x := k) fun t e => h t (by simp [e]), opd_congr (x := v) fun t e => h t (by simp [e])]
 case insert t x k v => rw [opd_congr (x := x) fun t e => h t (by simp [e]), opd_congr (x := k) fun t e => h t (by simp [e]), opd_congr (x := v) fun t e => h t (by simp [e])]
 case range t x => rw [opd_congr fun t e => h t (by simp [e])]
 case next x b => rw [opd_congr fun t e => h t (by simp [e])]
 all_goals rfl
theorem mem_reads {ops : Array Oper} {o : Oper} {t : Tmp} (h : Operand.tmp t ∈ o.op.operands.toList) : t ∈ reads ops o :=
 List.mem_append_left _ (List.mem_filterMap.2 ⟨.tmp t, h, rfl⟩)
theorem wantedD_congr {ops : Array Oper} {o : Oper} {σ σ' : Nat → DV} (h : ∀ t ∈ reads ops o, σ t = σ' t) : wantedD ops o σ = wantedD ops o σ' := by
 unfold wantedD
 cases hg : o.guard with
 | none => rfl
 | some jw =>
  obtain ⟨j, w⟩ := jw
  simp only
  cases hd : (ops[j]?).bind (·.dst) with
  | none => rfl
  | some d =>
   simp only
   rw [h d (List.mem_append_right _ (by simp [hg, hd]))]
theorem pure_heap {E : Orc} {o : Op} {σ : Nat → DV} {H H' : DH} {v : DV} (hp : isPure o = true) (h : evalOp T E o σ H = some (v, H')) : H' = H ∧ ∀ H2, evalOp T E o σ H2 = some (v, H2) := by
 have map1 : ∀ {x : Option DV} {H H' : DH}, x.map (·, H) = some (v, H') → H' = H ∧ x = some v := by
  intro x H H' hx
  cases x with
  | none => cases hx
  | some u => have := Prod.mk.inj (Option.some.inj hx); exact ⟨this.2.symm, congrArg some this.1⟩
 cases o <;> (first | (simp [isPure] at hp; done) | skip)
 case move x => obtain ⟨h1, h2⟩ := map1 h; exact ⟨h1, fun H2 => by simp [evalOp, h2]⟩
 case assign x => obtain ⟨h1, h2⟩ := map1 h; exact ⟨h1, fun H2 => by simp [evalOp, h2]⟩
 case pick c x y =>
  simp only [evalOp] at h ⊢
  split at h
  ·rename_i t e; obtain ⟨h1, h2⟩ := map1 h; exact ⟨h1, fun H2 => by simp [h2]⟩
  ·cases h
 case build t ps =>
  simp only [evalOp] at h ⊢
  split at h
  ·rename_i l e; obtain ⟨h1, h2⟩ := map1 h; exact ⟨h1, fun H2 => by simp [h2]⟩
  ·cases h
 case nilCheck x =>
  simp only [evalOp] at h ⊢
  split at h <;> first
   | (cases h; done)
   | (have := Prod.mk.inj (Option.some.inj h); exact ⟨this.2.symm, fun H2 => by simp [this.1]⟩)
 case binOp op t x y yt =>
  simp only [evalOp] at h ⊢
  split at h
  ·rename_i a b e1 e2; obtain ⟨h1, h2⟩ := map1 h; exact ⟨h1, fun H2 => by simp [h2]⟩
  ·cases h
 case unOp op t x =>
  simp only [evalOp] at h ⊢
  split at h
  ·obtain ⟨h1, h2⟩ := map1 h; exact ⟨h1, fun H2 => by simp [h2]⟩
  ·cases h
 case slice t x lo hi mx =>
  simp only [evalOp] at h ⊢
  split at h
  ·split at h
   ·obtain ⟨h1, h2⟩ := map1 h; exact ⟨h1, fun H2 => by simp [h2]⟩
   ·cases h
  ·cases h
 case fieldAddr s x f =>
  simp only [evalOp] at h ⊢
  split at h
  ·obtain ⟨h1, h2⟩ := map1 h; exact ⟨h1, fun H2 => by simp [h2]⟩
  ·cases h
 case field s x f =>
  simp only [evalOp] at h ⊢
  split at h
  ·obtain ⟨h1, h2⟩ := map1 h; exact ⟨h1, fun H2 => by simp [h2]⟩
  ·cases h
 case indexAddr t x i =>
  simp only [evalOp] at h ⊢
  split at h
  ·obtain ⟨h1, h2⟩ := map1 h; exact ⟨h1, fun H2 => by simp [h2]⟩
  ·cases h
 case index t x i =>
  simp only [evalOp] at h ⊢
  split at h
  ·obtain ⟨h1, h2⟩ := map1 h; exact ⟨h1, fun H2 => by simp [h2]⟩
  ·cases h
 case extract x i =>
  simp only [evalOp] at h ⊢
  split at h
  ·obtain ⟨h1, h2⟩ := map1 h; exact ⟨h1, fun H2 => by simp [h2]⟩
  ·cases h
 case makeFunc f x y =>
  simp only [evalOp] at h ⊢
  split at h
  ·have := Prod.mk.inj (Option.some.inj h); exact ⟨this.2.symm, fun H2 => by simp [this.1]⟩
  ·cases h
 case call c =>
  obtain ⟨callee, args, ts⟩ := c
  cases callee with
  | value f => simp [isPure] at hp
  | invoke r m => simp [isPure] at hp
  | builtin b =>
   cases b <;> simp [isPure] at hp
   all_goals
    simp only [evalOp, callD] at h ⊢
    cases ha : opds σ args.toList with
    | none => simp [ha] at h
    | some as =>
     simp only [ha] at h ⊢
     match as, h with
     | [], h => simp [builtinD] at h
     | [a], h =>
      first
       | (simp [builtinD] at h; done)
       | (simp only [builtinD] at h ⊢
          cases hm : dataD a with
          | none => simp [hm] at h
          | some u =>
           simp only [hm, Option.some.injEq, Prod.mk.injEq] at h
           exact ⟨h.2.symm, fun H2 => by simp [h.1]⟩)
     | _ :: _ :: _ :: _, h => simp [builtinD] at h
     | [a, b], h =>
      first
       | (simp [builtinD] at h; done)
       | (simp only [builtinD] at h ⊢
          cases hm : maxD a b with
          | none => simp [hm] at h
          | some u =>
           simp only [hm, Option.some.injEq, Prod.mk.injEq] at h
           exact ⟨h.2.symm, fun H2 => by simp [h.1]⟩)
       | (simp only [builtinD] at h ⊢
          cases hm : minD a b with
          | none => simp [hm] at h
          | some u =>
           simp only [hm, Option.some.injEq, Prod.mk.injEq] at h
           exact ⟨h.2.symm, fun H2 => by simp [h.1]⟩)
theorem read_heap {E : Orc} {o : Op} {σ : Nat → DV} {H H' : DH} {v : DV} (hp : isRead o = true) (h : evalOp T E o σ H = some (v, H')) : H' = H := by
 cases o <;> (first | (simp [isRead] at hp; done) | skip)
 case load t x =>
  simp only [evalOp] at h
  split at h
  ·rename_i u e
   cases hl : loadD T t u H with
   | none => simp [hl] at h
   | some y => simp only [hl, Option.map_some, Option.some.injEq, Prod.mk.injEq] at h; exact h.2.symm
  ·cases h
 case lookup t x i ok =>
  simp only [evalOp] at h
  split at h
  ·rename_i u e _ _
   cases hl : lookupD T t u e ok H with
   | none => simp [hl] at h
   | some y => simp only [hl, Option.map_some, Option.some.injEq, Prod.mk.injEq] at h; exact h.2.symm
  ·cases h
 case call c =>
  obtain ⟨callee, args, ts⟩ := c
  cases callee with
  | value f => simp [isRead] at hp
  | invoke r m => simp [isRead] at hp
  | builtin b =>
   cases b <;> simp [isRead] at hp
   simp only [evalOp, callD] at h
   cases ha : opds σ args.toList with
   | none => simp [ha] at h
   | some as =>
    simp only [ha] at h
    match hts : ts.toList, as, h with
    | [], _, h => simp [builtinD] at h
    | _ :: _, [], h => simp [builtinD] at h
    | _ :: _, _ :: _ :: _, h => simp [builtinD] at h
    | t :: _, [x], h =>
     simp only [builtinD] at h
     cases hl : lenD T H t x with
     | none => simp [hl] at h
     | some u =>
      simp only [hl, Option.some.injEq, Prod.mk.injEq] at h
      exact h.2.symm
end
end Go.Proofs.YtcknfhhbijlobaaGreatDoor.D
namespace Go.Proofs.YtcknfhhbijlobaaGreatDoor.D
open Go
set_option linter.unusedVariables false
set_option linter.unusedSimpArgs false
def Ghost.give (G : Ghost) (b B : Nat) : Ghost := { G with ρ := fun x => if x = b then some (B, 0) else G.ρ x }
theorem Rel.adopt {G : Ghost} {H : DH} {w : World} (r : Rel G H w) {B : Nat} {e : TypeId} {cs : List DV} {vs : List Value} (hB : w.heap[B]? = some (.cells vs.toArray e (0, 0)))
  (hun : ∀ b, ownR G H b ≠ some B) (him : ∀ q, G.im B q = none) (hv : VL G cs vs) : G.le (G.give H.next B) ∧ Rel (G.give H.next B) (H.new (.cells e cs)) w := by
 have hle : G.le (G.give H.next B) := by
  refine ⟨fun _ _ _ h => h, fun b y h => ?_, fun _ _ _ h => h⟩
  show (if b = H.next then some (B, 0) else G.ρ b) = some y
  rw [if_neg]
  ·exact h
  ·intro e; subst e; rw [(r.wf H.next (Nat.le_refl _)).2.1] at h; cases h
 have hownNew : ∀ b, b ≠ H.next → ownR (G.give H.next B) (H.new (.cells e cs)) b = ownR G H b := by
  intro b hb
  simp [ownR, DH.new, hb, Ghost.give]
 have hownAt : ownR (G.give H.next B) (H.new (.cells e cs)) H.next = some B := by simp [ownR, DH.new, Ghost.give]
 refine ⟨hle, ⟨?_, ?_, ?_, ?_, ?_, ?_, ?_, ?_, by have := r.z; refine ⟨Nat.succ_pos _, ?_⟩; show (if 0 = H.next then _ else _) = _; rw [if_neg (by omega)]; exact this.2⟩⟩
 ·intro b hb
  have hb' : H.next + 1 ≤ b := hb
  have := r.wf b (by omega)
  have hne : b ≠ H.next := by omega
  simpa [DH.new, hne, Ghost.give] using this
 ·exact r.im
 ·intro b T cs' hm B' s hp
  by_cases hb : b = H.next
  ·subst hb
   simp [DH.new] at hm
   simp [Ghost.give] at hp
   obtain ⟨rfl, rfl⟩ := hp
   obtain ⟨rfl, rfl⟩ := hm
   exact ⟨⟨[], vs, [], e, (0, 0), by simpa using hB, rfl, hv.mono hle, by simp, rfl, rfl, rfl⟩, him⟩
  ·simp [DH.new, hb, Ghost.give] at hm hp
   obtain ⟨⟨pre, us, post, T', fr, h1, h2, h3, h4⟩, h5⟩ := r.cells b T cs' hm B' s hp
   exact ⟨⟨pre, us, post, T', fr, h1, h2, h3.mono hle, h4⟩, h5⟩
 ·intro b T cs' hm B' s hp
  by_cases hb : b = H.next
  ·subst hb
   simp [DH.new] at hm
  ·simp [DH.new, hb, Ghost.give] at hm hp
   obtain ⟨⟨p, pc, c, fr, us, h0, h1, h2, h3, h4, h5⟩, h6⟩ := r.rows b T cs' hm B' s hp
   exact ⟨⟨p, pc, c, fr, us, h0, h1, h2, h3, h4.mono hle, h5⟩, h6⟩
 ·intro b T n cl hm
  by_cases hb : b = H.next
  ·subst hb
   simp [DH.new] at hm
  ·simp [DH.new, hb] at hm
   exact r.tips b T n cl hm
 ·intro b s pos hm B' y hp
  by_cases hb : b = H.next
  ·subst hb
   simp [DH.new] at hm
  ·simp [DH.new, hb, Ghost.give] at hm hp
   exact r.iters b s pos hm B' y hp
 ·intro b es hm B' y hp
  by_cases hb : b = H.next
  ·subst hb
   simp [DH.new] at hm
  ·simp [DH.new, hb, Ghost.give] at hm hp
   obtain ⟨h1, ⟨ms, clk, h2, h3, h3', hbn⟩, h4⟩ := r.maps b es hm B' y hp
   exact ⟨h1, ⟨ms, clk, h2, h3.mono hle, h3'.mono hle, hbn⟩, h4⟩
 ·intro b b' B' h h'
  by_cases hb : b = H.next
  ·subst hb
   rw [hownAt] at h
   obtain rfl := Option.some.inj h
   by_cases hb' : b' = H.next
   ·exact hb'.symm
   ·rw [hownNew b' hb'] at h'
    exact absurd h' (hun b')
  ·rw [hownNew b hb] at h
   by_cases hb' : b' = H.next
   ·subst hb'
    rw [hownAt] at h'
    obtain rfl := Option.some.inj h'
    exact absurd h (hun b)
   ·rw [hownNew b' hb'] at h'
    exact r.inj b b' B' h h'
theorem Step.adopt {G0 G : Ghost} {H0 H : DH} {w0 w : World} (st : Step G0 H0 w0 G H w) {B : Nat} {e : TypeId} {cs : List DV} {vs : List Value} (h0 : w0.heap.size ≤ B) (hB : w.heap[B]? = some (.cells vs.toArray e (0, 0)))
  (hun : ∀ b, ownR G H b ≠ some B) (him : ∀ q, G.im B q = none) (hv : VL G cs vs) : Step G0 H0 w0 (G.give H.next B) (H.new (.cells e cs)) w := by
 obtain ⟨hle, hr⟩ := st.rel.adopt hB hun him hv
 refine ⟨st.le.trans hle, hr, st.os, st.tape, st.output, st.size, st.blk, fun b B' hb => ?_, st.imf⟩
 by_cases h : b = H.next
 ·subst h
  have : ownR (G.give H.next B) (H.new (.cells e cs)) H.next = some B := by simp [ownR, DH.new, Ghost.give]
  rw [this] at hb
  obtain rfl := Option.some.inj hb
  exact .inr h0
 ·have : ownR (G.give H.next B) (H.new (.cells e cs)) b = ownR G H b := by simp [ownR, DH.new, h, Ghost.give]
  rw [this] at hb
  exact st.own b B' hb
section
variable {P : Program} {T : Tab}
theorem alloc_run (TO : TabOk P T) {e : TypeId} {z : DV} (hz : T.zero e = some z) (w : World) : ∃ vs : List Value, (∀ G, VL G z.cells vs) ∧
  (Instr.alloc e true (.tuple #[])).run P w = .ok (.pointer (some ⟨w.heap.size, 0, none⟩)) (w.alloc (.cells vs.toArray e)) := by
 obtain ⟨i, v, h1, h2, h3⟩ := TO.zero _ _ hz
 refine ⟨v.cells.toList, fun G => (h3 G).cells, ?_⟩
 simp [Instr.alloc, zeroValue, typeInfo, h1, h2, newVar, newRow]
end
end Go.Proofs.YtcknfhhbijlobaaGreatDoor.D
namespace Go.Proofs.YtcknfhhbijlobaaGreatDoor.D
open Go
set_option linter.unusedVariables false
set_option linter.unusedSimpArgs false
section
variable {P : Program} {T : Tab}
theorem evalOps_append {E : Orc} {ops : Array Oper} : ∀ (l r : List Oper) (s : St), evalOps T E ops (l ++ r) s = match evalOps T E ops l s with | some s' => evalOps T E ops r s' | none => none
 | [], r, s => by simp [evalOps]
 | o :: l, r, s => by
  simp only [List.cons_append, evalOps]
  split
  ·split
   ·exact evalOps_append l r _
   ·rfl
  ·exact evalOps_append l r _
  ·rfl
theorem evalOps_cons {E : Orc} {ops : Array Oper} {o : Oper} {r : List Oper} {s : St} : evalOps T E ops (o :: r) s = match one T E ops o s with | some (v, H) => evalOps T E ops r (put s.1 o.dst v, H) | none => none := by
 simp only [evalOps, one]
 rcases wantedD ops o s.1 with _ | _ | _
 ·rfl
 ·rfl
 ·cases evalOp T E o.op s.1 s.2 <;> rfl
theorem one_congr {E : Orc} {ops : Array Oper} {o : Oper} {σ σ' : Nat → DV} {H : DH} (h : ∀ t ∈ reads ops o, σ t = σ' t) : one T E ops o (σ, H) = one T E ops o (σ', H) := by
 unfold one
 rw [wantedD_congr h]
 simp only
 rw [evalOp_congr fun t ht => h t (mem_reads ht)]
theorem one_pure {E : Orc} {ops : Array Oper} {o : Oper} {σ : Nat → DV} {H H' : DH} {v : DV} (hp : isPure o.op = true) (h : one T E ops o (σ, H) = some (v, H')) : H' = H ∧ ∀ H2, one T E ops o (σ, H2) = some (v, H2) := by
 unfold one at h ⊢
 simp only at h ⊢
 cases hw : wantedD ops o σ with
 | none => simp [hw] at h
 | some b =>
  cases b with
  | true => simp only [hw] at h ⊢; exact pure_heap hp h
  | false => simp only [hw, Option.some.injEq, Prod.mk.injEq] at h ⊢; exact ⟨h.2.symm, fun H2 => by simp [h.1]⟩
theorem one_read {E : Orc} {ops : Array Oper} {o : Oper} {σ : Nat → DV} {H H' : DH} {v : DV} (hp : isRead o.op = true) (h : one T E ops o (σ, H) = some (v, H')) : H' = H := by
 unfold one at h
 simp only at h
 cases hw : wantedD ops o σ with
 | none => simp [hw] at h
 | some b =>
  cases b with
  | true => simp only [hw] at h; exact read_heap hp h
  | false => simp only [hw, Option.some.injEq, Prod.mk.injEq] at h; exact h.2.symm
structure Chain (ops : Array Oper) (bf : Nat → Nat → Prop) : Prop where
 edge : ∀ (j : Nat) (o : Oper), ops[j]? = some o → ∀ e ∈ o.after, Region.binds .any e = true → e.on < j
 bfx : ∀ (i j : Nat), bf i j → i < j ∧ ∃ o : Oper, ops[j]? = some o ∧ ∃ e ∈ o.after, Region.binds .any e = true ∧ (i = e.on ∨ bf i e.on)
 dst : ∀ (i j : Nat) (o p : Oper) (d : Tmp), ops[i]? = some o → ops[j]? = some p → o.dst = some d → p.dst = some d → i = j
 rd : ∀ (i j : Nat) (o p : Oper) (d : Tmp), ops[i]? = some o → ops[j]? = some p → o.dst = some d → d ∈ reads ops p → i ≠ j → bf i j ∨ bf j i
noncomputable def slots (ops : Array Oper) (val : Nat → DV) (σ0 : Nat → DV) (L : Nat → Prop) : Nat → DV := fun t =>
 open Classical in if h : ∃ i, L i ∧ ∃ o : Oper, ops[i]? = some o ∧ o.dst = some t then val h.choose else σ0 t
theorem slots_some {ops : Array Oper} {bf : Nat → Nat → Prop} (C : Chain ops bf) {val σ0 : Nat → DV} {L : Nat → Prop} {i t : Nat} {o : Oper} (hi : L i) (ho : ops[i]? = some o) (hd : o.dst = some t) :
  slots ops val σ0 L t = val i := by
 have h : ∃ i, L i ∧ ∃ o : Oper, ops[i]? = some o ∧ o.dst = some t := ⟨i, hi, o, ho, hd⟩
 unfold slots
 rw [dif_pos h]
 obtain ⟨_, o', h1, h2⟩ := h.choose_spec
 rw [C.dst _ _ _ _ _ h1 ho h2 hd]
theorem slots_none {ops : Array Oper} {val σ0 : Nat → DV} {L : Nat → Prop} {t : Nat} (h : ∀ (i : Nat) (o : Oper), L i → ops[i]? = some o → o.dst ≠ some t) : slots ops val σ0 L t = σ0 t := by
 unfold slots
 rw [dif_neg]
 rintro ⟨i, hi, o, ho, hd⟩
 exact h i o hi ho hd
theorem slots_put {ops : Array Oper} {bf : Nat → Nat → Prop} (C : Chain ops bf) {val σ0 : Nat → DV} {L : Nat → Prop} {i : Nat} {o : Oper} (ho : ops[i]? = some o) :
  slots ops val σ0 (fun k => k = i ∨ L k) = put (slots ops val σ0 L) o.dst (val i) := by
 funext t
 by_cases hd : o.dst = some t
 ·rw [slots_some C (Or.inl rfl) ho hd, hd]
  simp [put, upd]
 ·have e : put (slots ops val σ0 L) o.dst (val i) t = slots ops val σ0 L t := by
   cases hx : o.dst with
   | none => rfl
   | some d =>
    simp only [put, upd]
    rw [if_neg]
    rintro rfl
    exact hd hx
  rw [e]
  by_cases h : ∃ k, L k ∧ ∃ o : Oper, ops[k]? = some o ∧ o.dst = some t
  ·obtain ⟨k, hk, o', h1, h2⟩ := h
   rw [slots_some C (Or.inr hk) h1 h2, slots_some C hk h1 h2]
  ·have h' : ∀ (k : Nat) (o : Oper), L k → ops[k]? = some o → o.dst ≠ some t := fun k o hk h1 h2 => h ⟨k, hk, o, h1, h2⟩
   rw [slots_none h']
   refine slots_none fun k o' hk h1 h2 => ?_
   rcases hk with rfl | hk
   ·rw [ho] at h1; cases h1; exact hd h2
   ·exact h' k o' hk h1 h2
structure Text (T : Tab) (E : Orc) (ops : Array Oper) (val : Nat → DV) (hp : Nat → DH) (σ0 : Nat → DV) : Prop where
 step : ∀ (i : Nat) (o : Oper), ops[i]? = some o → one T E ops o (slots ops val σ0 (· < i), hp i) = some (val i, hp (i + 1))
theorem text_of {E : Orc} {ops : Array Oper} {bf : Nat → Nat → Prop} (C : Chain ops bf) {σ0 σ' : Nat → DV} {H0 H' : DH} (h : evalOps T E ops ops.toList (σ0, H0) = some (σ', H')) :
  ∃ (val : Nat → DV) (hp : Nat → DH), Text T E ops val hp σ0 ∧ hp 0 = H0 ∧ hp ops.size = H' ∧ slots ops val σ0 (· < ops.size) = σ' := by
 have key : ∀ k, k ≤ ops.size → ∃ (val : Nat → DV) (hp : Nat → DH), (∀ (i : Nat) (o : Oper), i < k → ops[i]? = some o → one T E ops o (slots ops val σ0 (· < i), hp i) = some (val i, hp (i + 1))) ∧ hp 0 = H0 ∧
   evalOps T E ops (ops.toList.drop k) (slots ops val σ0 (· < k), hp k) = some (σ', H') := by
  intro k
  induction k with
  | zero =>
   intro _
   refine ⟨fun _ => undefD, fun _ => H0, fun i o hi => by omega, rfl, ?_⟩
   have : slots ops (fun _ => undefD) σ0 (· < 0) = σ0 := funext fun t => slots_none fun i o hi => by omega
   rw [this]
   simpa using h
  | succ k ih =>
   intro hk
   obtain ⟨val, hp, h1, h2, h3⟩ := ih (by omega)
   have hlt : k < ops.size := by omega
   have ho : ops[k]? = some ops[k] := Array.getElem?_eq_getElem hlt
   have hdrop : ops.toList.drop k = ops[k] :: ops.toList.drop (k + 1) := by
    rw [List.drop_eq_getElem_cons (by simpa using hlt)]; simp
   rw [hdrop, evalOps_cons] at h3
   cases hone : one T E ops ops[k] (slots ops val σ0 (· < k), hp k) with
   | none => simp [hone] at h3
   | some q =>
    obtain ⟨v, H1⟩ := q
    simp only [hone] at h3
    let val' : Nat → DV := fun i => if i = k then v else val i
    let hp' : Nat → DH := fun i => if i = k + 1 then H1 else hp i
    have hsl : ∀ j, j ≤ k → slots ops val' σ0 (· < j) = slots ops val σ0 (· < j) := by
     intro j hj
     funext t
     by_cases hx : ∃ i, i < j ∧ ∃ o : Oper, ops[i]? = some o ∧ o.dst = some t
     ·obtain ⟨i, hi, o, g1, g2⟩ := hx
      rw [slots_some C (L := (· < j)) hi g1 g2, slots_some C (L := (· < j)) hi g1 g2]
      exact if_neg (by omega)
     ·rw [slots_none fun i o hi g1 g2 => hx ⟨i, hi, o, g1, g2⟩, slots_none fun i o hi g1 g2 => hx ⟨i, hi, o, g1, g2⟩]
    refine ⟨val', hp', fun i o hi hio => ?_, ?_, ?_⟩
    ·rcases Nat.lt_succ_iff_lt_or_eq.1 hi with hlt' | rfl
     ·rw [hsl i (by omega)]
      have e1 : hp' i = hp i := if_neg (by omega)
      have e2 : hp' (i + 1) = hp (i + 1) := if_neg (by omega)
      have e3 : val' i = val i := if_neg (by omega)
      rw [e1, e2, e3]
      exact h1 i o hlt' hio
     ·rw [hsl i (Nat.le_refl _)]
      have e1 : hp' i = hp i := if_neg (by omega)
      have e2 : hp' (i + 1) = H1 := if_pos rfl
      have e3 : val' i = v := if_pos rfl
      rw [e1, e2, e3]
      rw [ho] at hio
      cases hio
      exact hone
    ·have : hp' 0 = hp 0 := if_neg (by omega)
     rw [this]; exact h2
    ·have e1 : hp' (k + 1) = H1 := if_pos rfl
     have e2 : slots ops val' σ0 (· < k + 1) = put (slots ops val σ0 (· < k)) ops[k].dst v := by
      have := slots_put C (val := val') (σ0 := σ0) (L := (· < k)) ho
      have e3 : val' k = v := if_pos rfl
      rw [hsl k (Nat.le_refl _), e3] at this
      rw [← this]
      congr 1
      funext i
      exact propext (by omega)
     rw [e1, e2]
     exact h3
 obtain ⟨val, hp, h1, h2, h3⟩ := key ops.size (Nat.le_refl _)
 rw [List.drop_of_length_le (by simp)] at h3
 simp only [evalOps, Option.some.injEq, Prod.mk.injEq] at h3
 exact ⟨val, hp, ⟨fun i o hi => h1 i o (Array.getElem?_eq_some_iff.1 hi).1 hi⟩, h2, h3.2, h3.1⟩
def vk (val : Nat → DV) (f k : Nat) : Nat → DV := fun i => if i = f ∧ k ≤ f then .ip [] else val i
theorem V_ip0 {G : Ghost} {B o : Nat} : V G (.ip []) (.pointer (some ⟨B, o, none⟩)) := V.ip (vs := []) rfl (fun i v h => by simp at h) (fun i d v h => by simp at h)
def Pend (T : Tab) (ops : Array Oper) (w0 : World) (f : Nat) (G : Ghost) (H : DH) (w : World) (a : Act) : Prop :=
 ∃ (o : Oper) (e : TypeId) (d : Tmp) (z : DV) (B : Nat) (vs : List Value), ops[f]? = some o ∧ o.op = .alloc e ∧ o.dst = some d ∧ T.zero e = some z ∧ a.tmps.getD d undef = .pointer (some ⟨B, 0, none⟩) ∧
  w0.heap.size ≤ B ∧ w.heap[B]? = some (.cells vs.toArray e (0, 0)) ∧ (∀ b, ownR G H b ≠ some B) ∧ (∀ q, G.im B q = none) ∧ ∀ G, VL G z.cells vs
theorem Pend.step {ops : Array Oper} {w0 : World} {f : Nat} {G G' : Ghost} {H H' : DH} {w w' : World} {a : Act} (h : Pend T ops w0 f G H w a) (st : Step G H w G' H' w') {dst : Option Tmp} {v : Value}
  (hd : ∀ o, ops[f]? = some o → ∀ d, o.dst = some d → dst ≠ some d) : Pend T ops w0 f G' H' w' (a.put dst v) := by
 obtain ⟨o, e, d, z, B, vs, h1, h2, h3, h4, h5, h6, h7, h8, h9, h10⟩ := h
 have hlt : B < w.heap.size := (Array.getElem?_eq_some_iff.1 h7).1
 refine ⟨o, e, d, z, B, vs, h1, h2, h3, h4, ?_, h6, (st.blk B hlt h8).trans h7, fun b hb => ?_, fun q => (st.imf B hlt h8 q).trans (h9 q), h10⟩
 ·have hne := hd o h1 d h3
  cases dst with
  | none => exact h5
  | some t =>
   have ht : t ≠ d := fun e => hne (by rw [e])
   simpa [Act.put, Array.getElem?_setIfInBounds_ne ht] using h5
 ·rcases st.own b B hb with ⟨b', h⟩ | h
  ·exact h8 b' h
  ·omega
theorem draw_core (TO : TabOk P T) {E : Orc} (EO : OrcOk P E) {ops : Array Oper} {bf : Nat → Nat → Prop} (C : Chain ops bf) {val : Nat → DV} {hp : Nat → DH} {σ0 : Nat → DV} (X : Text T E ops val hp σ0) {f : Nat}
  (hf : ∀ (o : Oper), ops[f]? = some o → (∃ e, o.op = .alloc e) ∧ o.guard = none ∧ ∃ d, o.dst = some d ∧ (∀ (j : Nat) (p : Oper), ops[j]? = some p → d ∈ reads ops p → loud p.op = true ∧ j ≠ f) ∧ ∀ (j : Nat) (p : Oper), ops[j]? = some p → loud p.op = true → f < j → bf f j)
  (ll : ∀ (i j : Nat) (o p : Oper), ops[i]? = some o → ops[j]? = some p → loud o.op = true → loud p.op = true → i ≠ f → j ≠ f → i ≠ j → bf i j ∨ bf j i)
  (rl : ∀ (i k : Nat) (o : Oper), ops[i]? = some o → isRead o.op = true → k ≤ ops.size → (∀ (j : Nat) (p : Oper), ops[j]? = some p → loud p.op = true → j ≠ f → (bf j i → j < k) ∧ (bf i j → k ≤ j)) → one T E ops o (slots ops val σ0 (· < i), hp k) = some (val i, hp k))
  {G0 : Ghost} {w0 : World} {N : Nat} (hN : ∀ (j : Nat) (p : Oper) t, ops[j]? = some p → p.dst = some t → t < N) {Q : Exit → Act → World → Prop}
  (hQ : ∀ a w G, SlotsOk G (slots ops val σ0 (· < ops.size)) a → a.defers = [] → a.tmps.size = N → Step G0 (hp 0) w0 G (hp ops.size) w → Q .normal a w) :
  ∀ (fuel : Nat) (listed : Array Bool) (a : Act) (w : World) (G : Ghost) (k : Nat), listed.size = ops.size → k ≤ ops.size →
   (∀ i j, bf i j → listed.getD j false = true → listed.getD i false = true) →
   (∀ (j : Nat) (p : Oper), ops[j]? = some p → loud p.op = true → j ≠ f → (listed.getD j false = true ↔ j < k)) →
   ((List.range ops.size).filter fun i => !listed.getD i false).length ≤ fuel →
   (listed.getD f false = false → k ≤ f) → (listed.getD f false = true → k ≤ f → Pend T ops w0 f G (hp k) w a) →
   SlotsOk G (slots ops (vk val f k) σ0 fun i => listed.getD i false = true) a → a.defers = [] → a.tmps.size = N → Step G0 (hp 0) w0 G (hp k) w →
   wpAny P .any ops Q fuel listed a w := by
 have hquiet : ∀ (i : Nat) (o : Oper), ops[i]? = some o → loud o.op = false → hp (i + 1) = hp i := by
  intro i o ho hl
  have hx := X.step i o ho
  simp only [loud, Bool.not_eq_false', Bool.or_eq_true] at hl
  rcases hl with hl | hl
  ·exact (one_pure hl hx).1
  ·exact one_read hl hx
 have hseg : ∀ k k', k ≤ k' → k' ≤ ops.size → (∀ (j : Nat) (p : Oper), ops[j]? = some p → loud p.op = true → ¬ (k ≤ j ∧ j < k')) → hp k' = hp k := by
  intro k k' h1
  induction h1 with
  | refl => intros; rfl
  | step h ih =>
   rename_i m
   intro h2 h3
   have hm : m < ops.size := by omega
   have ho : ops[m]? = some ops[m] := Array.getElem?_eq_getElem hm
   have hl : loud ops[m].op = false := by
    cases hq : loud ops[m].op with
    | false => rfl
    | true => exact absurd ⟨h, Nat.lt_succ_self m⟩ (h3 m _ ho hq)
   rw [hquiet m _ ho hl]
   exact ih (by omega) fun j p a b c => h3 j p a b ⟨c.1, by have := c.2; omega⟩
 have htext : ∀ (o : Oper) (e : TypeId) (z : DV), ops[f]? = some o → o.op = .alloc e → T.zero e = some z → val f = .ptr (hp f).next 0 ∧ hp (f + 1) = (hp f).new (.cells e z.cells) := by
  intro o e z ho he hz
  have hx := X.step f o ho
  obtain ⟨_, hg, _⟩ := hf o ho
  unfold one wantedD at hx
  simp only [hg, evalOp, he, hz] at hx
  split at hx
  ·have := Prod.mk.inj (Option.some.inj hx)
   exact ⟨this.1.symm, this.2.symm⟩
  ·cases hx
 have hflush : ∀ (listed : Array Bool) (a : Act) (w : World) (G : Ghost) (k k' : Nat), k ≤ k' → k' ≤ ops.size → (∀ (j : Nat) (p : Oper), ops[j]? = some p → loud p.op = true → j ≠ f → ¬ (k ≤ j ∧ j < k')) →
   (k ≤ f → f < k' → listed.getD f false = true) → (listed.getD f false = true → k ≤ f → Pend T ops w0 f G (hp k) w a) →
   SlotsOk G (slots ops (vk val f k) σ0 fun i => listed.getD i false = true) a → Step G0 (hp 0) w0 G (hp k) w →
   ∃ G', (listed.getD f false = true → k' ≤ f → Pend T ops w0 f G' (hp k') w a) ∧ SlotsOk G' (slots ops (vk val f k') σ0 fun i => listed.getD i false = true) a ∧ Step G0 (hp 0) w0 G' (hp k') w := by
  intro listed a w G k k' hkk hk' hno hl hpe hs hst
  by_cases hin : k ≤ f ∧ f < k'
  ·obtain ⟨o, e, d, z, B, vs, h1, h2, h3, h4, h5, h6, h7, h8, h9, h10⟩ := hpe (hl hin.1 hin.2) hin.1
   obtain ⟨v1, v2⟩ := htext o e z h1 h2 h4
   have e1 : hp f = hp k := hseg k f hin.1 (by omega) fun j p hj hlp c => hno j p hj hlp (by omega) ⟨c.1, by omega⟩
   have e2 : hp k' = hp (f + 1) := hseg (f + 1) k' (by omega) hk' fun j p hj hlp c => hno j p hj hlp (by omega) ⟨by omega, c.2⟩
   have hst2 := hst.adopt h6 h7 h8 h9 (h10 G)
   rw [← e1, ← v2, ← e2] at hst2
   refine ⟨_, fun _ h => absurd h (by omega), ?_, hst2⟩
   have hle : G.le (G.give (hp f).next B) := by
    have := (hst.rel.adopt h7 h8 h9 (h10 G)).1
    rw [← e1] at this; exact this
   intro t
   by_cases ht : t = d
   ·subst ht
    rw [slots_some C (L := fun i => listed.getD i false = true) (hl hin.1 hin.2) h1 h3, h5]
    have : vk val f k' f = val f := if_neg (by omega)
    rw [this, v1]
    have := V.ptr (G := G.give (hp f).next B) (b := (hp f).next) (off := 0) (B := B) (s := 0) (by simp [Ghost.give])
    simpa using this
   ·have : slots ops (vk val f k') σ0 (fun i => listed.getD i false = true) t = slots ops (vk val f k) σ0 (fun i => listed.getD i false = true) t := by
     by_cases hx : ∃ j, listed.getD j false = true ∧ ∃ p : Oper, ops[j]? = some p ∧ p.dst = some t
     ·obtain ⟨j, hj, p, g1, g2⟩ := hx
      rw [slots_some C (L := fun i => listed.getD i false = true) hj g1 g2, slots_some C (L := fun i => listed.getD i false = true) hj g1 g2]
      have hjf : j ≠ f := by rintro rfl; rw [h1] at g1; cases g1; rw [h3] at g2; exact ht (Option.some.inj g2).symm
      unfold vk
      rw [if_neg (fun h => hjf h.1), if_neg (fun h => hjf h.1)]
     ·rw [slots_none fun j p hj g1 g2 => hx ⟨j, hj, p, g1, g2⟩, slots_none fun j p hj g1 g2 => hx ⟨j, hj, p, g1, g2⟩]
    rw [this]
    exact (hs t).mono hle
  ·have e1 : hp k' = hp k := hseg k k' hkk hk' fun j p hj hlp c => by
    by_cases hjf : j = f
    ·subst hjf; exact hin c
    ·exact hno j p hj hlp hjf c
   have e2 : vk val f k' = vk val f k := by
    funext i
    unfold vk
    by_cases h : i = f ∧ k ≤ f
    ·rw [if_pos h, if_pos ⟨h.1, by omega⟩]
    ·rw [if_neg h, if_neg (fun h' => h ⟨h'.1, by omega⟩)]
   rw [e1, e2]
   exact ⟨G, fun h1 h2 => hpe h1 (by omega), hs, hst⟩
 intro fuel
 have hdone : ∀ (listed : Array Bool) (a : Act) (w : World) (G : Ghost) (k : Nat), listed.size = ops.size → k ≤ ops.size →
   (∀ (j : Nat) (p : Oper), ops[j]? = some p → loud p.op = true → j ≠ f → (listed.getD j false = true ↔ j < k)) → (∀ i, i < ops.size → listed.getD i false = true) →
   (listed.getD f false = true → k ≤ f → Pend T ops w0 f G (hp k) w a) →
   SlotsOk G (slots ops (vk val f k) σ0 fun i => listed.getD i false = true) a → a.defers = [] → a.tmps.size = N → Step G0 (hp 0) w0 G (hp k) w → Q .normal a w := by
  intro listed a w G k hsz hk hlk hall hpe hs hd hn hst
  obtain ⟨G', _, hs', hst'⟩ := hflush listed a w G k ops.size hk (Nat.le_refl _) (fun j p hj hl hjf hc => by
   have := (hlk j p hj hl hjf).1 (hall j (Array.getElem?_eq_some_iff.1 hj).1)
   omega) (fun _ h => hall f h) hpe hs hst
  have e2 : slots ops (vk val f ops.size) σ0 (fun i => listed.getD i false = true) = slots ops val σ0 (· < ops.size) := by
   funext t
   by_cases hx : ∃ i, i < ops.size ∧ ∃ o : Oper, ops[i]? = some o ∧ o.dst = some t
   ·obtain ⟨i, hi, o, g1, g2⟩ := hx
    rw [slots_some C (L := fun i => listed.getD i false = true) (hall i hi) g1 g2, slots_some C (L := (· < ops.size)) hi g1 g2]
    exact if_neg (by omega)
   ·rw [slots_none fun i o _ g1 g2 => hx ⟨i, (Array.getElem?_eq_some_iff.1 g1).1, o, g1, g2⟩, slots_none fun i o hi g1 g2 => hx ⟨i, hi, o, g1, g2⟩]
  rw [e2] at hs'
  exact hQ a w G' hs' hd hn hst'
 have hready : ∀ (listed : Array Bool), listed.size = ops.size → Region.ready .any ops listed = [] → ∀ i, i < ops.size → listed.getD i false = true := by
  intro listed hsz h i
  induction i using Nat.strongRecOn with
  | _ i ih =>
   intro hi
   cases hq : listed.getD i false with
   | true => rfl
   | false =>
    exfalso
    have hmem : i ∈ Region.ready .any ops listed := by
     refine mem_ready.2 ⟨?_, ops[i], Array.getElem?_eq_getElem hi, fun e he hb => ?_⟩
     ·have : i < listed.size := by omega
      simp [this] at hq ⊢
      exact hq
     ·have := C.edge i _ (Array.getElem?_eq_getElem hi) e he hb
      exact ih e.on this (by omega)
    rw [h] at hmem
    cases hmem
 induction fuel with
 | zero =>
  intro listed a w G k hsz hk hcl hlk hfu hkf hpe hs hd hn hst
  have hall : ∀ i, i < ops.size → listed.getD i false = true := by
   intro i hi
   cases hq : listed.getD i false with
   | true => rfl
   | false =>
    exfalso
    have : i ∈ (List.range ops.size).filter fun i => !listed.getD i false := by
     rw [List.mem_filter]
     exact ⟨List.mem_range.2 hi, by rw [hq]; rfl⟩
    have := List.length_pos_of_mem this
    omega
  refine ⟨?_, hdone listed a w G k hsz hk hlk hall hpe hs hd hn hst⟩
  cases hr : Region.ready .any ops listed with
  | nil => rfl
  | cons i r =>
   exfalso
   have hm : i ∈ Region.ready .any ops listed := by rw [hr]; simp
   obtain ⟨h1, o, h2, _⟩ := mem_ready.1 hm
   have hi := (Array.getElem?_eq_some_iff.1 h2).1
   have := hall i hi
   have hl : i < listed.size := by omega
   simp [hl] at h1 this
   rw [h1] at this; cases this
 | succ fuel ih =>
  intro listed a w G k hsz hk hcl hlk hfu hkf hpe hs hd hn hst
  refine ⟨fun hr => hdone listed a w G k hsz hk hlk (hready listed hsz hr) hpe hs hd hn hst, fun i hi => ?_⟩
  obtain ⟨h1, o, ho, hedges⟩ := mem_ready.1 hi
  have hilt := (Array.getElem?_eq_some_iff.1 ho).1
  have hil : i < listed.size := by omega
  have hnot : listed.getD i false = false := by simp [hil] at h1 ⊢; exact h1
  have hedge : ∀ j, bf j i → listed.getD j false = true := by
   intro j hj
   obtain ⟨_, o', ho', e, he, hb, hor⟩ := C.bfx j i hj
   rw [ho] at ho'
   cases ho'
   have hl := hedges e he hb
   rcases hor with rfl | hor
   ·exact hl
   ·exact hcl j e.on hor hl
  have hafter : ∀ j, bf i j → listed.getD j false = false := by
   intro j hj
   cases hq : listed.getD j false with
   | false => rfl
   | true => have := hcl i j hj hq; rw [hnot] at this; cases this
  have hset : ∀ j, j ≠ i → (listed.setIfInBounds i true).getD j false = listed.getD j false := by
   intro j hj
   simp [Array.getElem?_setIfInBounds_ne (Ne.symm hj)]
  have hself : (listed.setIfInBounds i true).getD i false = true := by simp [hil]
  have hlt : ∀ t, o.dst = some t → t < a.tmps.size := fun t ht => hn ▸ hN i o t ho ht
  have hclose : ∀ p q, bf p q → (listed.setIfInBounds i true).getD q false = true → (listed.setIfInBounds i true).getD p false = true := by
   intro p q hb hq
   by_cases hqi : q = i
   ·subst hqi
    have := hedge p hb
    by_cases hpi : p = q
    ·subst hpi; exact hself
    ·rw [hset p hpi]; exact this
   ·rw [hset q hqi] at hq
    by_cases hpi : p = i
    ·subst hpi; exact hself
    ·rw [hset p hpi]; exact hcl p q hb hq
  have hfuel : ((List.range ops.size).filter fun j => !(listed.setIfInBounds i true).getD j false).length ≤ fuel := by
   have hlen : ((List.range ops.size).filter fun j => !(listed.setIfInBounds i true).getD j false).length < ((List.range ops.size).filter fun j => !listed.getD j false).length := by
    have hsub : ((List.range ops.size).filter fun j => !(listed.setIfInBounds i true).getD j false) = ((List.range ops.size).filter fun j => !listed.getD j false).filter fun j => j != i := by
     rw [List.filter_filter]
     apply List.filter_congr
     intro j _
     by_cases hji : j = i
     ·subst hji; simp [hil]
     ·rw [hset j hji]; simp [hji]
    rw [hsub]
    exact List.length_filter_lt_length_iff_exists.2 ⟨i, by rw [List.mem_filter]; exact ⟨List.mem_range.2 hilt, by rw [hnot]; rfl⟩, by simp⟩
   omega
  have hlist : (fun j => (listed.setIfInBounds i true).getD j false = true) = fun j => j = i ∨ listed.getD j false = true := by
   funext j
   apply propext
   by_cases hji : j = i
   ·subst hji; simp [hil]
   ·rw [hset j hji]; simp [hji]
  by_cases hif : i = f
  ·
   subst hif
   obtain ⟨⟨e, he⟩, hg, d, hd1, hd2, hd3⟩ := hf o ho
   have hx := X.step i o ho
   have hz : ∃ z, T.zero e = some z := by
    unfold one wantedD at hx
    simp only [hg, evalOp, he] at hx
    cases hz : T.zero e with
    | none => simp [hz] at hx
    | some z => exact ⟨z, rfl⟩
   obtain ⟨z, hz⟩ := hz
   obtain ⟨vs, hvs, hrun⟩ := alloc_run (P := P) TO hz w
   unfold wpOp
   simp only [ho]
   have hw : Region.wanted o (yielded ops a.tmps) = true := by unfold Region.wanted; rw [hg]
   rw [hw, if_pos rfl]
   refine .inl ?_
   unfold Oper.wp
   have hex : (execOp a.eval o).run P w = .ok (.value (.pointer (some ⟨w.heap.size, 0, none⟩))) (w.alloc (.cells vs.toArray e)) := by
    obtain ⟨dst, op, ty, pos, after, guard⟩ := o
    simp only at he
    subst he
    simp only [execOp]
    rw [Sem.run_bind, hrun]
    rfl
   rw [hex]
   have hki : k ≤ i := hkf hnot
   refine ih _ _ (w.alloc (.cells vs.toArray e)) G k (by simp [hsz]) hk hclose ?_ hfuel ?_ ?_ ?_ (by rw [put_defers]; exact hd) (by rw [put_size]; exact hn) (hst.trans (Step.alloc hst.rel _))
   ·intro j p hj hlp hjf
    rw [hset j hjf]; exact hlk j p hj hlp hjf
   ·intro _; exact hki
   ·intro _ _
    refine ⟨o, e, d, z, w.heap.size, vs, ho, he, hd1, hz, ?_, hst.size, heap_alloc_new w _, fun b hb => ?_, fun q => ?_, hvs⟩
    ·have := hlt d hd1
     rw [hd1]; simp [Act.put, this]
    ·have := hst.rel.own_lt hb; omega
    ·cases hq : G.im w.heap.size q with
     | none => rfl
     | some v => have := hst.rel.im_lt hq; omega
   ·rw [hlist, slots_put C ho, show vk val i k i = .ip [] from if_pos ⟨rfl, hki⟩]
    exact put_ok hs V_ip0 hlt
  ·have hdn : ∀ o', ops[f]? = some o' → ∀ d, o'.dst = some d → o.dst ≠ some d := fun o' h1 d h2 h3 => hif (C.dst _ _ _ _ _ ho h1 h3 h2)
   have hx := X.step i o ho
   have hsetf : (listed.setIfInBounds i true).getD f false = listed.getD f false := hset f (Ne.symm hif)
   have hagree : ∀ k1, (loud o.op = true → f < i → f < k1) → ∀ t ∈ reads ops o, slots ops (vk val f k1) σ0 (fun i => listed.getD i false = true) t = slots ops val σ0 (· < i) t := by
    intro k1 hk1 t ht
    by_cases hx : ∃ (j : Nat) (p : Oper), ops[j]? = some p ∧ p.dst = some t
    ·obtain ⟨j, p, hj, hp'⟩ := hx
     have only : ∀ (v : Nat → DV) (L : Nat → Prop), ¬ L j → slots ops v σ0 L t = σ0 t := fun v L hL => slots_none fun j' p' hj' g1 g2 => hL (C.dst _ _ _ _ _ g1 hj g2 hp' ▸ hj')
     by_cases hij : i = j
     ·subst hij
      rw [only _ _ (by rw [hnot]; simp), only _ _ (by omega)]
     ·rcases C.rd j i p o t hj ho hp' ht (Ne.symm hij) with hb | hb
      ·rw [slots_some C (L := fun i => listed.getD i false = true) (hedge j hb) hj hp', slots_some C (L := (· < i)) (C.bfx _ _ hb).1 hj hp']
       unfold vk
       rw [if_neg]
       rintro ⟨rfl, hkj⟩
       obtain ⟨_, _, d, hd1, hd2, _⟩ := hf p hj
       rw [hd1] at hp'
       obtain rfl := Option.some.inj hp'
       have := hk1 (hd2 i o ho ht).1 (C.bfx _ _ hb).1
       omega
      ·have := (C.bfx _ _ hb).1
       rw [only _ _ (by rw [hafter j hb]; simp), only _ _ (by omega)]
    ·rw [slots_none fun j p _ g1 g2 => hx ⟨j, p, g1, g2⟩, slots_none fun j p _ g1 g2 => hx ⟨j, p, g1, g2⟩]
   have hfin : ∀ (k1 k2 : Nat) (G1 : Ghost), k2 ≤ ops.size → (k1 ≤ f ↔ k2 ≤ f) →
     (∀ (j : Nat) (p : Oper), ops[j]? = some p → loud p.op = true → j ≠ f → ((listed.setIfInBounds i true).getD j false = true ↔ j < k2)) → (listed.getD f false = false → k1 ≤ f) →
     (listed.getD f false = true → k1 ≤ f → Pend T ops w0 f G1 (hp k1) w a) → SlotsOk G1 (slots ops (vk val f k1) σ0 fun i => listed.getD i false = true) a → Step G0 (hp 0) w0 G1 (hp k1) w →
     one T E ops o (slots ops (vk val f k1) σ0 (fun i => listed.getD i false = true), hp k1) = some (val i, hp k2) → wpOp P ops Q i (wpAny P .any ops Q fuel (listed.setIfInBounds i true)) a w := by
    intro k1 k2 G1 hk2 hk12 hlk' hkf1 hpe1 hs1 hst1 hone
    have hvk : vk val f k2 = vk val f k1 := by
     funext j
     unfold vk
     by_cases h : j = f ∧ k1 ≤ f
     ·rw [if_pos h, if_pos ⟨h.1, hk12.1 h.2⟩]
     ·rw [if_neg h, if_neg (fun h' => h ⟨h'.1, hk12.2 h'.2⟩)]
    have hvi : vk val f k1 i = val i := if_neg fun h => hif h.1
    have hnext : ∀ v' w' G', V G' (val i) v' → Step G1 (hp k1) w G' (hp k2) w' → wpAny P .any ops Q fuel (listed.setIfInBounds i true) (a.put o.dst v') w' := by
     intro v' w' G' hv hst'
     refine ih _ _ w' G' k2 (by simp [hsz]) hk2 hclose hlk' hfuel ?_ ?_ ?_ (by rw [put_defers]; exact hd) (by rw [put_size]; exact hn) (hst1.trans hst')
     ·intro h; rw [hsetf] at h; exact hk12.1 (hkf1 h)
     ·intro h1 h2; rw [hsetf] at h1
      exact (hpe1 h1 (hk12.2 h2)).step hst' hdn
     ·rw [hlist, hvk, slots_put C ho, hvi]
      exact put_ok (hs1.mono hst'.le) hv hlt
    unfold wpOp
    simp only [ho]
    generalize (slots ops (vk val f k1) σ0 fun i => listed.getD i false = true) = σL at hs1 hone
    unfold one at hone
    cases hw : wantedD ops o σL with
    | none => simp [hw] at hone
    | some b =>
     rw [wanted_ok hs1 hw (hn ▸ hN)]
     cases b with
     | true =>
      simp only [hw] at hone
      rw [if_pos rfl]
      refine .inl ?_
      unfold Oper.wp
      exact upon_ok (op_ok TO EO hst1.rel hs1 hone) fun v' w' G' hv hst' => hnext v' w' G' hv hst'
     | false =>
      simp only [hw, Option.some.injEq, Prod.mk.injEq] at hone
      rw [if_neg (by simp)]
      refine hnext undef w G1 (by rw [← hone.1]; exact V_undef G1) ?_
      rw [← hone.2]
      exact .refl hst1.rel
   cases hl : loud o.op with
   | false =>
    refine hfin k k G hk Iff.rfl ?_ hkf hpe hs hst ?_
    ·intro j p hj hlp hjf
     have hne : j ≠ i := by rintro rfl; rw [ho] at hj; cases hj; rw [hl] at hlp; cases hlp
     rw [hset j hne]
     exact hlk j p hj hlp hjf
    ·rw [one_congr (hagree k (fun h => by rw [hl] at h; cases h))]
     by_cases hpu : isPure o.op = true
     ·exact (one_pure hpu hx).2 _
     ·have hrd : isRead o.op = true := by
       simp only [loud, Bool.not_eq_false', Bool.or_eq_true] at hl
       exact hl.resolve_left hpu
      exact rl i k o ho hrd hk fun j p hj hlp hjf => ⟨fun hb => (hlk j p hj hlp hjf).1 (hedge j hb), fun hb => by
       have := hafter j hb
       rcases Nat.lt_or_ge j k with h | h
       ·rw [(hlk j p hj hlp hjf).2 h] at this; cases this
       ·exact h⟩
   | true =>
    have hki : k ≤ i := by
     rcases Nat.lt_or_ge i k with h | h
     ·have := (hlk i o ho hl hif).2 h
      rw [hnot] at this; cases this
     ·exact h
    have hbetween : ∀ (j : Nat) (p : Oper), ops[j]? = some p → loud p.op = true → j ≠ f → ¬ (k ≤ j ∧ j < i) := by
     intro j p hj hlp hjf ⟨c1, c2⟩
     rcases ll j i p o hj ho hlp hl hjf hif (by omega) with hb | hb
     ·have := (hlk j p hj hlp hjf).1 (hedge j hb); omega
     ·have := (C.bfx _ _ hb).1; omega
    have hfl : f < i → listed.getD f false = true := by
     intro hfi
     have hfs : f < ops.size := by omega
     obtain ⟨_, _, d, _, _, h3⟩ := hf _ (Array.getElem?_eq_getElem hfs)
     exact hedge f (h3 i o ho hl hfi)
    obtain ⟨G1, hpe1, hs1, hst1⟩ := hflush listed a w G k i hki (by omega) hbetween (fun _ h => hfl h) hpe hs hst
    refine hfin i (i + 1) G1 (by omega) (by omega) ?_ ?_ hpe1 hs1 hst1 ?_
    ·intro j p hj hlp hjf
     by_cases hji : j = i
     ·subst hji; rw [hself]; simp
     ·rw [hset j hji, hlk j p hj hlp hjf]
      constructor
      ·intro h; omega
      ·intro h
       rcases Nat.lt_or_ge j k with h' | h'
       ·exact h'
       ·exact absurd ⟨h', by omega⟩ (hbetween j p hj hlp hjf)
    ·intro h
     rcases Nat.lt_or_ge f i with h' | h'
     ·rw [hfl h'] at h; cases h
     ·exact h'
    ·rw [one_congr (hagree i (fun _ h => h))]
     exact hx
end
end Go.Proofs.YtcknfhhbijlobaaGreatDoor.D
namespace Go.Proofs.YtcknfhhbijlobaaGreatDoor.D
open Go
set_option linter.unusedVariables false
set_option linter.unusedSimpArgs false
theorem mask_spec (acc : List Nat) {i : Nat} : ∀ (es : List Nat) (s : Nat), (es.foldl (fun s e => s ||| 2 ^ e ||| acc.getD e 0) s).testBit i = true → s.testBit i = true ∨ ∃ e ∈ es, i = e ∨ (acc.getD e 0).testBit i = true
 | [], s, h => .inl h
 | e :: es, s, h => by
  simp only [List.foldl_cons] at h
  rcases mask_spec acc es _ h with h | ⟨e', he, h⟩
  ·rw [Nat.testBit_or, Nat.testBit_or, Bool.or_eq_true, Bool.or_eq_true] at h
   rcases h with (h | h) | h
   ·exact .inl h
   ·refine .inr ⟨e, by simp, .inl ?_⟩
    rw [Nat.testBit_two_pow] at h
    exact (by simpa using h : e = i).symm
   ·exact .inr ⟨e, by simp, .inr h⟩
  ·exact .inr ⟨e', by simp [he], h⟩
theorem masks_spec {ops : Array Oper} : ∀ (l : List Oper) (pre : List Oper) (acc : List Nat), pre ++ l = ops.toList → acc.length = pre.length → (∀ j i, (acc.getD j 0).testBit i = true → BF ops i j) →
  ∀ j i, ((l.foldl (fun acc o => acc ++ [mask acc (edgesOf o)]) acc).getD j 0).testBit i = true → BF ops i j
 | [], pre, acc, _, _, h => h
 | o :: l, pre, acc, hl, hn, h => by
  simp only [List.foldl_cons]
  refine masks_spec l (pre ++ [o]) _ (by simp [hl]) (by simp [hn]) fun j i hb => ?_
  have ho : ops[pre.length]? = some o := by
   have : ops.toList[pre.length]? = some o := by rw [← hl]; simp
   simpa using this
  by_cases hj : j < acc.length
  ·refine h j i ?_
   simpa [List.getD, List.getElem?_append_left hj] using hb
  ·by_cases hj2 : j = acc.length
   ·subst hj2
    have hb' : (mask acc (edgesOf o)).testBit i = true := by simpa [List.getD] using hb
    rw [hn]
    rcases mask_spec acc _ _ hb' with h0 | ⟨e, he, h0⟩
    ·simp at h0
    ·obtain ⟨e', he', rfl⟩ := List.mem_map.1 he
     rw [List.mem_filter] at he'
     have hmem : e' ∈ o.after := by simpa using he'.1
     rcases h0 with rfl | h0
     ·exact .edge ho hmem he'.2
     ·exact .step ho hmem he'.2 (h _ _ h0)
   ·have : (acc ++ [mask acc (edgesOf o)]).getD j 0 = 0 := by
     simp only [List.getD]
     rw [List.getElem?_eq_none (by simp; omega)]
     rfl
    rw [this] at hb
    simp at hb
theorem ord_spec {ops : Array Oper} {i j : Nat} (h : ord (masks ops.toList) i j = true) : BF ops i j ∨ BF ops j i := by
 have k := masks_spec (ops := ops) ops.toList [] [] rfl rfl (by simp)
 unfold ord at h
 rw [Bool.or_eq_true] at h
 exact h.imp (k j i) (k i j)
theorem look_spec {f : Nat} {rl : Bool} {ops : Array Oper} (h : lookF f rl ops = true) : Chain ops (BF ops) ∧
  (∀ (i j : Nat) (o p : Oper), ops[i]? = some o → ops[j]? = some p → loud o.op = true → loud p.op = true → i ≠ f → j ≠ f → i ≠ j → BF ops i j ∨ BF ops j i) ∧
  (rl = true → ∀ (i j : Nat) (o p : Oper), ops[i]? = some o → ops[j]? = some p → isRead o.op = true → loud p.op = true → j ≠ f → BF ops i j ∨ BF ops j i) ∧
  (∀ (o : Oper), ops[f]? = some o → (∃ e, o.op = .alloc e) ∧ o.guard = none ∧ ∃ d, o.dst = some d ∧ (∀ (j : Nat) (p : Oper), ops[j]? = some p → d ∈ reads ops p → loud p.op = true ∧ j ≠ f) ∧ ∀ (j : Nat) (p : Oper), ops[j]? = some p → loud p.op = true → f < j → BF ops f j) := by
 simp only [lookF, List.all_eq_true] at h
 have mem : ∀ {i : Nat} {o : Oper}, ops[i]? = some o → (o, i) ∈ ops.toList.zipIdx := by
  intro i o ho
  rw [List.mem_zipIdx_iff_getElem?]
  simpa using ho
 have get : ∀ (i j : Nat) (o p : Oper), ops[i]? = some o → ops[j]? = some p → i ≠ j →
   (match o.dst with | some d => p.dst != some d && (!(reads ops p).contains d || (ord (masks ops.toList) i j && (i != f || loud p.op))) | none => true) = true ∧
   (isPure o.op || isPure p.op || (isRead o.op && isRead p.op) || (!rl && (isRead o.op || isRead p.op)) || (i == f && (decide (j < i) || !loud p.op)) || (i != f && j == f) || ord (masks ops.toList) i j) = true := by
  intro i j o p ho hp hij
  have := h (o, i) (mem ho)
  simp only [Bool.and_eq_true, List.all_eq_true] at this
  have := this.2 (p, j) (mem hp)
  have hb : (i == j) = false := by simpa using hij
  rw [hb, Bool.false_or, Bool.and_eq_true] at this
  exact this
 have hedge : ∀ (j : Nat) (o : Oper), ops[j]? = some o → ∀ e ∈ o.after, Region.binds .any e = true → e.on < j := by
  intro j o ho e he hb
  have := h (o, j) (mem ho)
  simp only [Bool.and_eq_true, List.all_eq_true] at this
  have := this.1.1 e.on (List.mem_map.2 ⟨e, List.mem_filter.2 ⟨by simpa using he, hb⟩, rfl⟩)
  simpa using this
 have lt : ∀ {i j : Nat}, BF ops i j → i < j := by
  intro i j hb
  induction hb with
  | edge h he hb => exact hedge _ _ h _ he hb
  | step h he hb _ ih => exact Nat.lt_trans ih (hedge _ _ h _ he hb)
 have notPure : ∀ {o : Oper}, isRead o.op = true → isPure o.op = false := by
  intro o h1
  cases hq : isPure o.op with
  | false => rfl
  | true =>
   exfalso
   revert hq h1
   cases o.op <;> first | (simp [isPure]; done) | (simp [isRead]; done) | skip
   rename_i c
   obtain ⟨callee, _, _⟩ := c
   cases callee <;> first | (simp [isPure]; done) | (simp [isRead]; done) | skip
   rename_i b
   cases b <;> first | (simp [isPure]; done) | (simp [isRead]; done)
 refine ⟨⟨hedge, ?_, ?_, ?_⟩, ?_, ?_, ?_⟩
 ·intro i j hb
  refine ⟨lt hb, ?_⟩
  cases hb with
  | edge h he hb => exact ⟨_, h, _, he, hb, .inl rfl⟩
  | step h he hb hi => exact ⟨_, h, _, he, hb, .inr hi⟩
 ·intro i j o p d ho hp h1 h2
  by_cases hij : i = j
  ·exact hij
  ·have := (get i j o p ho hp hij).1
   simp [h1, h2] at this
 ·intro i j o p d ho hp h1 h2 hij
  have := (get i j o p ho hp hij).1
  simp only [h1, Bool.and_eq_true, Bool.or_eq_true] at this
  rcases this.2 with h | h
  ·rw [List.contains_iff_mem.2 h2] at h; cases h
  ·exact ord_spec h.1
 ·intro i j o p ho hp h1 h2 hif hjf hij
  have := (get i j o p ho hp hij).2
  simp only [loud, Bool.not_eq_true', Bool.or_eq_false_iff] at h1 h2
  simp [h1, h2, hif, hjf] at this
  exact ord_spec this
 ·intro hrl i j o p ho hp h1 h2 hjf
  by_cases hij : i = j
  ·subst hij
   rw [ho] at hp; cases hp
   simp only [loud, Bool.not_eq_true', Bool.or_eq_false_iff] at h2
   rw [h1] at h2; cases h2.2
  ·have hnf : i ≠ f := by
    rintro rfl
    have := h (o, i) (mem ho)
    simp only [Bool.and_eq_true, Bool.or_eq_true] at this
    have := this.1.2
    simp [earlyOk] at this
    obtain ⟨⟨this, _⟩, _⟩ := this
    revert this h1
    cases o.op <;> simp [isRead]
   have := (get i j o p ho hp hij).2
   simp only [loud, Bool.not_eq_true', Bool.or_eq_false_iff] at h2
   simp [h2, h1, notPure h1, hrl, hnf, hjf] at this
   exact ord_spec this
 ·intro o ho
  have h0 := h (o, f) (mem ho)
  simp only [Bool.and_eq_true, Bool.or_eq_true] at h0
  have h1 := h0.1.2
  simp [earlyOk] at h1
  obtain ⟨⟨h1, h2⟩, h3⟩ := h1
  have ha : ∃ e, o.op = .alloc e := by
   revert h1
   cases o.op <;> simp
  obtain ⟨e, ha⟩ := ha
  obtain ⟨d, hd⟩ := Option.isSome_iff_exists.1 h3
  have hnr : ∀ d, d ∉ reads ops o := by
   intro d
   simp [reads, ha, h2, Op.operands]
  refine ⟨⟨e, ha⟩, h2, d, hd, fun j p hj hr => ?_, fun j p hj hl hlt => ?_⟩
  ·by_cases hjf : f = j
   ·subst hjf; rw [ho] at hj; cases hj; exact absurd hr (hnr d)
   ·have := (get f j o p ho hj hjf).1
    simp only [hd, Bool.and_eq_true, Bool.or_eq_true] at this
    rcases this.2 with h | h
    ·rw [List.contains_iff_mem.2 hr] at h; cases h
    ·refine ⟨?_, Ne.symm hjf⟩
     have := h.2
     simpa using this
  ·have := (get f j o p ho hj (by omega)).2
   have hlo : loud o.op = true := by rw [ha]; rfl
   simp only [loud, Bool.not_eq_true', Bool.or_eq_false_iff] at hlo hl
   have hn : ¬ j < f := by omega
   simp [hlo, hl, hn, loud] at this
   rcases ord_spec this with h | h
   ·exact h
   ·have := lt h; omega
theorem repl_false (n i : Nat) : (Array.replicate n false).getD i false = false := by
 simp [Array.getElem?_replicate]
 split <;> rfl
theorem text_take {T : Tab} {E : Orc} {ops : Array Oper} {bf : Nat → Nat → Prop} (C : Chain ops bf) {val : Nat → DV} {hp : Nat → DH} {σ0 : Nat → DV} (X : Text T E ops val hp σ0) : ∀ i, i ≤ ops.size → evalOps T E ops (ops.toList.take i) (σ0, hp 0) = some (slots ops val σ0 (· < i), hp i)
 | 0, _ => by
  have : slots ops val σ0 (· < 0) = σ0 := funext fun t => slots_none fun i o hi => by omega
  rw [this]; rfl
 | i + 1, h => by
  have hlt : i < ops.size := by omega
  have ho : ops[i]? = some ops[i] := Array.getElem?_eq_getElem hlt
  have ht : ops.toList.take (i + 1) = ops.toList.take i ++ [ops[i]] := by
   rw [List.take_add_one]; simp [hlt]
  rw [ht, evalOps_append, text_take C X i (by omega)]
  simp only
  rw [evalOps_cons, X.step i _ ho]
  simp only [evalOps]
  have := slots_put C (val := val) (σ0 := σ0) (L := (· < i)) ho
  rw [← this]
  congr 3
  funext k
  exact propext (by omega)
theorem draw_ok {P : Program} {T : Tab} (TO : TabOk P T) (hmix : P.follows .mixedOrders = true) : DrawOk P T (drawLook true) := by
 intro ops E EO σ H σ' H' hlook he G w a N id r hs hd hn hb
 obtain ⟨rr, f, hl, hr0, hfl⟩ : ∃ rr f, lookF f rr ops = true ∧ (rr = true → f = ops.size) ∧ (rr = false → ∀ (i : Nat) (o : Oper), ops[i]? = some o → isRead o.op = true → ∀ k, k ≤ ops.size → Win f ops i k → ∀ si v H' sk, evalOps T E ops (ops.toList.take i) (σ, H) = some si → one T E ops o si = some (v, H') →
  evalOps T E ops (ops.toList.take k) (σ, H) = some sk → one T E ops o (si.1, sk.2) = some (v, sk.2)) := by
  rcases hlook with h | h
  ·exact ⟨true, ops.size, h, fun _ => rfl, by simp⟩
  ·obtain ⟨f, h1, h2⟩ := h
   exact ⟨false, f, h1, by simp, fun _ => h2⟩
 obtain ⟨C, ll, rl, hf⟩ := look_spec hl
 obtain ⟨val, hp, X, e1, e2, e3⟩ := text_of C he
 obtain ⟨b1, b2⟩ := bnd_region hb
 refine wp_region_any hmix ?_
 have hst : Step G (hp 0) w G (hp 0) { w with drawn := w.drawn + 1 } := by rw [e1]; exact Step.drew r
 have hquiet : ∀ (i : Nat) (o : Oper), ops[i]? = some o → loud o.op = false → hp (i + 1) = hp i := by
  intro i o ho hl
  have hx := X.step i o ho
  simp only [loud, Bool.not_eq_false', Bool.or_eq_true] at hl
  rcases hl with hl | hl
  ·exact (one_pure hl hx).1
  ·exact one_read hl hx
 have hseg : ∀ k k', k ≤ k' → k' ≤ ops.size → (∀ (j : Nat) (p : Oper), ops[j]? = some p → loud p.op = true → ¬ (k ≤ j ∧ j < k')) → hp k' = hp k := by
  intro k k' h1
  induction h1 with
  | refl => intros; rfl
  | step h ih =>
   rename_i m
   intro h2 h3
   have hm : m < ops.size := by omega
   have ho : ops[m]? = some ops[m] := Array.getElem?_eq_getElem hm
   have hl : loud ops[m].op = false := by
    cases hq : loud ops[m].op with
    | false => rfl
    | true => exact absurd ⟨h, Nat.lt_succ_self m⟩ (h3 m _ ho hq)
   rw [hquiet m _ ho hl]
   exact ih (by omega) fun j p a b c => h3 j p a b ⟨c.1, by have := c.2; omega⟩
 refine draw_core TO EO C X hf ll ?_ b1 (Q := Post G H w N .norm σ' H') ?_ ops.size _ a _ G 0 (by simp) (Nat.zero_le _) ?_ ?_ ?_ (fun _ => Nat.zero_le _) (fun h => by rw [repl_false] at h; cases h) ?_ hd hn hst
 ·intro i k o ho hrd hks hk
  have hx := X.step i o ho
  have hilt := (Array.getElem?_eq_some_iff.1 ho).1
  cases hrr : rr with
  | false =>
   have := hfl hrr i o ho hrd k hks hk _ _ _ _ (by rw [← e1]; exact text_take C X i (by omega)) hx (by rw [← e1]; exact text_take C X k hks)
   exact this
  | true =>
  have hfs := hr0 hrr
  have hnf : ∀ (j : Nat) (p : Oper), ops[j]? = some p → j ≠ f := fun j p hj e => by
   have := (Array.getElem?_eq_some_iff.1 hj).1
   omega
  have hh := one_read hrd hx
  rw [hh] at hx
  have : hp k = hp i := by
   rcases Nat.le_total k i with h | h
   ·refine (hseg k i h (by omega) fun j p hj hlp c => ?_).symm
    rcases rl hrr i j o p ho hj hrd hlp (hnf j p hj) with hb | hb
    ·have := (C.bfx _ _ hb).1; omega
    ·have := (hk j p hj hlp (hnf j p hj)).1 hb; omega
   ·refine hseg i k h hks fun j p hj hlp c => ?_
    rcases rl hrr i j o p ho hj hrd hlp (hnf j p hj) with hb | hb
    ·have := (hk j p hj hlp (hnf j p hj)).2 hb; omega
    ·have := (C.bfx _ _ hb).1; omega
  rw [this]; exact hx
 ·intro a' w' G' h1 h2 h3 h4
  rw [e3] at h1
  rw [e1, e2] at h4
  exact ⟨rfl, G', h1, h2, h3, h4⟩
 ·intro i j _ h; rw [repl_false] at h; cases h
 ·intro j p hj hlp _
  rw [repl_false]
  simp
 ·exact Nat.le_trans (List.length_filter_le _ _) (by simp)
 ·have : slots ops (vk val f 0) σ (fun i => (Array.replicate ops.size false).getD i false = true) = σ := by
   funext t
   refine slots_none fun i o h _ _ => ?_
   rw [repl_false] at h; cases h
  rw [this]; exact hs
end Go.Proofs.YtcknfhhbijlobaaGreatDoor.D
namespace Go.Proofs.YtcknfhhbijlobaaGreatDoor.D
open Go
set_option linter.unusedVariables false
set_option linter.unusedSimpArgs false
structure Cfg where
 P : Program
 T : Tab
 ext : FuncId → Option (List DV → DH → Option (DV × DH))
 draw : Array Oper → Bool
abbrev Res := Option (Out × St × DV)
theorem callD_mono {T : Tab} {E E' : Orc} (h : ∀ f a H r, E f a H = some r → E' f a H = some r) {σ : Nat → DV} {c : Call} {H : DH} {r : DV × DH} (hr : callD T E σ c H = some r) : callD T E' σ c H = some r := by
 unfold callD at hr ⊢
 cases ha : opds σ c.args.toList with
 | none => simp [ha] at hr
 | some args =>
  simp only [ha] at hr ⊢
  cases hc : c.callee with
  | invoke _ _ => simp [hc] at hr
  | builtin b => simpa [hc] using hr
  | value f =>
   simp only [hc] at hr ⊢
   split at hr
   ·exact h _ _ _ _ hr
   ·cases hr
theorem evalOp_mono {T : Tab} {E E' : Orc} (h : ∀ f a H r, E f a H = some r → E' f a H = some r) {o : Op} {σ : Nat → DV} {H : DH} {r : DV × DH} (hr : evalOp T E o σ H = some r) : evalOp T E' o σ H = some r := by
 cases o <;> first | exact hr | exact callD_mono h hr
theorem evalOps_mono {T : Tab} {E E' : Orc} (h : ∀ f a H r, E f a H = some r → E' f a H = some r) {ops : Array Oper} : ∀ {l : List Oper} {s r : St}, evalOps T E ops l s = some r → evalOps T E' ops l s = some r
 | [], s, r, hr => hr
 | o :: l, s, r, hr => by
  simp only [evalOps] at hr ⊢
  cases hw : wantedD ops o s.1 with
  | none => simp [hw] at hr
  | some b =>
   cases b with
   | true =>
    cases he : evalOp T E o.op s.1 s.2 with
    | none => simp [hw, he] at hr
    | some q =>
     simp only [hw, he] at hr
     simp only [evalOp_mono h he]
     exact evalOps_mono h hr
   | false =>
    simp only [hw] at hr ⊢
    exact evalOps_mono h hr
theorem evalOps_app {T : Tab} {E : Orc} {ops : Array Oper} : ∀ (l r : List Oper) (s : St), evalOps T E ops (l ++ r) s = match evalOps T E ops l s with | some s' => evalOps T E ops r s' | none => none
 | [], r, s => by simp [evalOps]
 | o :: l, r, s => by
  simp only [List.cons_append, evalOps]
  split
  ·split
   ·exact evalOps_app l r _
   ·rfl
  ·exact evalOps_app l r _
  ·rfl
theorem evalOps_pre {T : Tab} {E : Orc} {ops : Array Oper} {l : List Oper} {s r : St} (h : evalOps T E ops l s = some r) (k : Nat) : ∃ r', evalOps T E ops (l.take k) s = some r' := by
 rw [← List.take_append_drop k l, evalOps_app] at h
 cases hq : evalOps T E ops (l.take k) s with
 | none => simp [hq] at h
 | some r' => exact ⟨r', rfl⟩
theorem one_orc {T : Tab} {E E' : Orc} {ops : Array Oper} {o : Oper} {s : St} (h : isRead o.op = true) : one T E ops o s = one T E' ops o s := by
 unfold one
 have : evalOp T E o.op s.1 s.2 = evalOp T E' o.op s.1 s.2 := by
  generalize o.op = p at h
  cases p <;> first | (simp [isRead] at h; done) | rfl | skip
  rename_i c
  obtain ⟨callee, args, ts⟩ := c
  cases callee <;> first | (simp [isRead] at h; done) | rfl
 rw [this]
theorem floats_iff {T : Tab} {E E' : Orc} (hE : ∀ f a H r, E f a H = some r → E' f a H = some r) {ops : Array Oper} {s r : St} (h : evalOps T E ops ops.toList s = some r) : Floats T E ops s ↔ Floats T E' ops s := by
 have key : ∀ k x, evalOps T E ops (ops.toList.take k) s = some x ↔ evalOps T E' ops (ops.toList.take k) s = some x := by
  intro k x
  obtain ⟨y, hy⟩ := evalOps_pre h k
  have hy' := evalOps_mono hE hy
  rw [hy, hy']
 unfold Floats
 constructor
 ·rintro ⟨f, h1, h2⟩
  refine ⟨f, h1, fun i o ho hr k hk hw si v H' sk a b c => ?_⟩
  rw [← one_orc (E := E) hr] at b ⊢
  exact h2 i o ho hr k hk hw si v H' sk ((key i si).2 a) b ((key k sk).2 c)
 ·rintro ⟨f, h1, h2⟩
  refine ⟨f, h1, fun i o ho hr k hk hw si v H' sk a b c => ?_⟩
  rw [one_orc (E' := E') hr] at b ⊢
  exact h2 i o ho hr k hk hw si v H' sk ((key i si).1 a) b ((key k sk).1 c)
variable (C : Cfg)
noncomputable def orcN (n : Nat) : Orc := orc C.P C.T C.ext C.draw n
noncomputable abbrev ev (n : Nat) (w : Work) (s : St) : Res := evalW C.P C.T C.ext C.draw n w s
open Classical in
noncomputable def stepW (E : Orc) (R : Work → St → Res) (w : Work) (s : St) : Res :=
  match w with
  | .call f args =>
   match C.P.funcs[f]? with
   | none => none
   | some fn => match fn.body with
    | none => none
    | some c =>
     if args.length ≤ fn.ntmps ∧ bnd fn.ntmps c = true then
      match R (.code c) (frame0 args, s.2) with
      | some (.norm, s', _) | some (.ret, s', _) => match resD C.T s'.1 s'.2 fn.results.toList with
       | some vs => some (.norm, s', resOne vs)
       | none => none
      | _ => none
     else none
  | .code c =>
   match c with
   | .skip | .label _ => some (.norm, s, undefD)
   | .ret => some (.ret, s, undefD)
   | .exit id => some (.exit id, s, undefD)
   | .goto l => some (.goto l, s, undefD)
   | .seq a b => match R (.code a) s with
    | some (.norm, s', _) => R (.code b) s'
    | r => r
   | .cond x a b => match opd s.1 x with
    | some (.bool t) => R (.code (if t then a else b)) s
    | _ => none
   | .block id body => match R (.code body) s with
    | some (.exit id', s', v) => if id' = id then some (.norm, s', v) else some (.exit id', s', v)
    | r => r
   | .loop body => match R (.code body) s with
    | some (.norm, s', _) => R (.code (.loop body)) s'
    | r => r
   | .scope body => R (.sc body body) s
   | .region _ ops dr =>
    if dr = true ∧ ¬ (C.draw ops = true ∨ Floats C.T E ops s) then none else
    match evalOps C.T E ops ops.toList s with
    | some s' => some (.norm, s', undefD)
    | none => none
   | _ => none
  | .sc body rest =>
   match R (.code rest) s with
   | some (.goto l, s', v) => match findLabel body l with
    | some rest' => R (.sc body rest') s'
    | none => some (.goto l, s', v)
   | r => r
theorem ev_succ (n : Nat) (w : Work) (s : St) : ev C (n + 1) w s = stepW C (orcN C n) (ev C n) w s := by
 cases w with
 | call f args => rfl
 | sc b r => rfl
 | code c => cases c <;> rfl
theorem stepW_mono {E E' : Orc} {R R' : Work → St → Res} (hE : ∀ f a H r, E f a H = some r → E' f a H = some r) (hR : ∀ w s r, R w s = some r → R' w s = some r) {w : Work} {s : St} {r : Out × St × DV}
  (h : stepW C E R w s = some r) : stepW C E' R' w s = some r := by
 cases w with
 | call f args =>
  simp only [stepW] at h ⊢
  cases hf : C.P.funcs[f]? with
  | none => simp [hf] at h
  | some fn =>
   simp only [hf] at h ⊢
   cases hb : fn.body with
   | none => simp [hb] at h
   | some c =>
    simp only [hb] at h ⊢
    split at h
    ·rename_i hc
     rw [if_pos hc]
     cases hq : R (.code c) (frame0 args, s.2) with
     | none => simp [hq] at h
     | some q => rw [hR _ _ _ hq]; simpa [hq] using h
    ·cases h
 | sc body rest =>
  simp only [stepW] at h ⊢
  cases hq : R (.code rest) s with
  | none => simp [hq] at h
  | some q =>
   rw [hR _ _ _ hq]
   obtain ⟨o, s', v⟩ := q
   cases o with
   | goto l =>
    simp only [hq] at h ⊢
    cases hf : findLabel body l with
    | none => simpa [hf] using h
    | some r' => simp only [hf] at h ⊢; exact hR _ _ _ h
   | _ => simpa [hq] using h
 | code c =>
  cases c with
  | skip => exact h
  | label l => exact h
  | ret => exact h
  | exit id => exact h
  | goto l => exact h
  | rangeFunc _ _ _ _ => exact h
  | refuse _ => exact h
  | seq a b =>
   simp only [stepW] at h ⊢
   cases hq : R (.code a) s with
   | none => simp [hq] at h
   | some q =>
    rw [hR _ _ _ hq]
    obtain ⟨o, s', v⟩ := q
    cases o with
    | norm => simp only [hq] at h ⊢; exact hR _ _ _ h
    | _ => simpa [hq] using h
  | cond x a b =>
   simp only [stepW] at h ⊢
   split at h
   ·rename_i t e; exact hR _ _ _ h
   ·cases h
  | block id body =>
   simp only [stepW] at h ⊢
   cases hq : R (.code body) s with
   | none => simp [hq] at h
   | some q => rw [hR _ _ _ hq]; simpa [hq] using h
  | loop body =>
   simp only [stepW] at h ⊢
   cases hq : R (.code body) s with
   | none => simp [hq] at h
   | some q =>
    rw [hR _ _ _ hq]
    obtain ⟨o, s', v⟩ := q
    cases o with
    | norm => simp only [hq] at h ⊢; exact hR _ _ _ h
    | _ => simpa [hq] using h
  | scope body => exact hR _ _ _ h
  | region id ops dr =>
   simp only [stepW] at h ⊢
   split at h
   ·cases h
   ·rename_i hd
    cases he : evalOps C.T E ops ops.toList s with
    | none => simp [he] at h
    | some s' =>
     rw [floats_iff hE he] at hd
     rw [if_neg hd, evalOps_mono hE he]; simpa [he] using h
theorem orc_of_ev {n m : Nat} (h : ∀ w s r, ev C n w s = some r → ev C m w s = some r) : ∀ f a H r, orcN C n f a H = some r → orcN C m f a H = some r := by
 intro f a H r hr
 unfold orcN orc at hr ⊢
 cases he : C.ext f with
 | some e => simpa [he] using hr
 | none =>
  simp only [he] at hr ⊢
  cases hq : evalW C.P C.T C.ext C.draw n (.call f a) (fun _ => undefD, H) with
  | none => simp [hq] at hr
  | some q =>
   have := h _ _ _ hq
   simp only [ev] at this
   rw [this]
   simpa [hq] using hr
theorem ev_mono : ∀ (n : Nat) (w : Work) (s : St) (r : Out × St × DV), ev C n w s = some r → ev C (n + 1) w s = some r
 | 0, w, s, r, h => by simp [ev, evalW] at h
 | n + 1, w, s, r, h => by
  rw [ev_succ] at h ⊢
  exact stepW_mono C (orc_of_ev C (ev_mono n)) (ev_mono n) h
theorem ev_le {n m : Nat} (hnm : n ≤ m) {w : Work} {s : St} {r : Out × St × DV} (h : ev C n w s = some r) : ev C m w s = some r := by
 induction hnm with
 | refl => exact h
 | step _ ih => exact ev_mono C _ _ _ _ ih
noncomputable def run (w : Work) (s : St) : Res := open Classical in if h : ∃ n r, ev C n w s = some r then some h.choose_spec.choose else none
theorem run_iff {w : Work} {s : St} {r : Out × St × DV} : run C w s = some r ↔ ∃ n, ev C n w s = some r := by
 unfold run
 constructor
 ·intro h
  split at h
  ·rename_i hx
   cases h
   exact ⟨_, hx.choose_spec.choose_spec⟩
  ·cases h
 ·rintro ⟨n, h⟩
  have hx : ∃ n r, ev C n w s = some r := ⟨n, r, h⟩
  rw [dif_pos hx]
  have h1 := hx.choose_spec.choose_spec
  have h2 := ev_le C (Nat.le_max_left hx.choose n) h1
  have h3 := ev_le C (Nat.le_max_right hx.choose n) h
  rw [h2] at h3
  exact h3
noncomputable def callF : Orc := fun f args H => match C.ext f with
 | some e => e args H
 | none => match run C (.call f args) (fun _ => undefD, H) with
  | some (_, s', v) => some (v, s'.2)
  | none => none
theorem callF_iff {f : FuncId} {a : List DV} {H : DH} {r : DV × DH} : callF C f a H = some r ↔ ∃ n, orcN C n f a H = some r := by
 unfold callF orcN orc
 cases he : C.ext f with
 | some e => simp
 | none =>
  simp only
  constructor
  ·intro h
   cases hq : run C (.call f a) (fun _ => undefD, H) with
   | none => simp [hq] at h
   | some q =>
    obtain ⟨n, hn⟩ := (run_iff C).1 hq
    refine ⟨n, ?_⟩
    simp only [ev] at hn
    rw [hn]; simpa [hq] using h
  ·rintro ⟨n, h⟩
   cases hq : evalW C.P C.T C.ext C.draw n (.call f a) (fun _ => undefD, H) with
   | none => simp [hq] at h
   | some q =>
    rw [(run_iff C).2 ⟨n, hq⟩]
    simpa [hq] using h
theorem orcN_le {n m : Nat} (h : n ≤ m) : ∀ f a H r, orcN C n f a H = some r → orcN C m f a H = some r := orc_of_ev C fun w s r hr => ev_le C h hr
theorem evalOp_cont {o : Op} {σ : Nat → DV} {H : DH} {r : DV × DH} (h : evalOp C.T (callF C) o σ H = some r) : ∃ n, evalOp C.T (orcN C n) o σ H = some r := by
 cases o
 case call c =>
  simp only [evalOp] at h ⊢
  unfold callD at h ⊢
  cases ha : opds σ c.args.toList with
  | none => simp [ha] at h
  | some args =>
   simp only [ha] at h ⊢
   cases hc : c.callee with
   | invoke _ _ => simp [hc] at h
   | builtin b => exact ⟨0, by simpa [hc] using h⟩
   | value f =>
    simp only [hc] at h ⊢
    split at h
    ·rename_i g first cap e
     obtain ⟨n, hn⟩ := (callF_iff C).1 h
     exact ⟨n, by simpa [e] using hn⟩
    ·cases h
 all_goals exact ⟨0, h⟩
theorem evalOps_cont {ops : Array Oper} : ∀ {l : List Oper} {s r : St}, evalOps C.T (callF C) ops l s = some r → ∃ n, evalOps C.T (orcN C n) ops l s = some r
 | [], s, r, h => ⟨0, h⟩
 | o :: l, s, r, h => by
  simp only [evalOps] at h
  split at h
  ·rename_i hw
   cases he : evalOp C.T (callF C) o.op s.1 s.2 with
   | none => simp [he] at h
   | some q =>
    simp only [he] at h
    obtain ⟨n1, h1⟩ := evalOp_cont C he
    obtain ⟨n2, h2⟩ := evalOps_cont h
    refine ⟨max n1 n2, ?_⟩
    simp only [evalOps, hw, evalOp_mono (orcN_le C (Nat.le_max_left n1 n2)) h1]
    exact evalOps_mono (orcN_le C (Nat.le_max_right n1 n2)) h2
  ·rename_i hw
   obtain ⟨n, hn⟩ := evalOps_cont h
   exact ⟨n, by simp only [evalOps, hw]; exact hn⟩
  ·cases h
theorem step_cont {w : Work} {s : St} {r : Out × St × DV} (h : stepW C (callF C) (run C) w s = some r) : ∃ n, stepW C (orcN C n) (ev C n) w s = some r := by
 have up : ∀ {n m : Nat}, n ≤ m → ∀ w s r, ev C n w s = some r → ev C m w s = some r := fun hnm w s r hr => ev_le C hnm hr
 cases w with
 | call f args =>
  simp only [stepW] at h ⊢
  cases hf : C.P.funcs[f]? with
  | none => simp [hf] at h
  | some fn =>
   simp only [hf] at h ⊢
   cases hb : fn.body with
   | none => simp [hb] at h
   | some c =>
    simp only [hb] at h ⊢
    split at h
    ·rename_i hc
     cases hq : run C (.code c) (frame0 args, s.2) with
     | none => simp [hq] at h
     | some q =>
      obtain ⟨n, hn⟩ := (run_iff C).1 hq
      exact ⟨n, by rw [if_pos hc, hn]; simpa [hq] using h⟩
    ·cases h
 | sc body rest =>
  simp only [stepW] at h ⊢
  cases hq : run C (.code rest) s with
  | none => simp [hq] at h
  | some q =>
   obtain ⟨n, hn⟩ := (run_iff C).1 hq
   obtain ⟨o, s', v⟩ := q
   cases o with
   | goto l =>
    simp only [hq] at h
    cases hf : findLabel body l with
    | none => exact ⟨n, by simp only [hn, hf]; simpa [hf] using h⟩
    | some r' =>
     simp only [hf] at h
     obtain ⟨m, hm⟩ := (run_iff C).1 h
     exact ⟨max n m, by simp only [up (Nat.le_max_left n m) _ _ _ hn, hf]; exact up (Nat.le_max_right n m) _ _ _ hm⟩
   | _ => exact ⟨n, by rw [hn]; simpa [hq] using h⟩
 | code c =>
  cases c with
  | skip => exact ⟨0, h⟩
  | label l => exact ⟨0, h⟩
  | ret => exact ⟨0, h⟩
  | exit id => exact ⟨0, h⟩
  | goto l => exact ⟨0, h⟩
  | rangeFunc _ _ _ _ => exact ⟨0, h⟩
  | refuse _ => exact ⟨0, h⟩
  | seq a b =>
   simp only [stepW] at h ⊢
   cases hq : run C (.code a) s with
   | none => simp [hq] at h
   | some q =>
    obtain ⟨n, hn⟩ := (run_iff C).1 hq
    obtain ⟨o, s', v⟩ := q
    cases o with
    | norm =>
     simp only [hq] at h
     obtain ⟨m, hm⟩ := (run_iff C).1 h
     exact ⟨max n m, by simp only [up (Nat.le_max_left n m) _ _ _ hn]; exact up (Nat.le_max_right n m) _ _ _ hm⟩
    | _ => exact ⟨n, by rw [hn]; simpa [hq] using h⟩
  | cond x a b =>
   simp only [stepW] at h ⊢
   split at h
   ·rename_i t e
    obtain ⟨n, hn⟩ := (run_iff C).1 h
    exact ⟨n, hn⟩
   ·cases h
  | block id body =>
   simp only [stepW] at h ⊢
   cases hq : run C (.code body) s with
   | none => simp [hq] at h
   | some q =>
    obtain ⟨n, hn⟩ := (run_iff C).1 hq
    exact ⟨n, by rw [hn]; simpa [hq] using h⟩
  | loop body =>
   simp only [stepW] at h ⊢
   cases hq : run C (.code body) s with
   | none => simp [hq] at h
   | some q =>
    obtain ⟨n, hn⟩ := (run_iff C).1 hq
    obtain ⟨o, s', v⟩ := q
    cases o with
    | norm =>
     simp only [hq] at h
     obtain ⟨m, hm⟩ := (run_iff C).1 h
     exact ⟨max n m, by simp only [up (Nat.le_max_left n m) _ _ _ hn]; exact up (Nat.le_max_right n m) _ _ _ hm⟩
    | _ => exact ⟨n, by rw [hn]; simpa [hq] using h⟩
  | scope body =>
   obtain ⟨n, hn⟩ := (run_iff C).1 h
   exact ⟨n, hn⟩
  | region id ops dr =>
   simp only [stepW] at h ⊢
   split at h
   ·cases h
   ·rename_i hd
    cases he : evalOps C.T (callF C) ops ops.toList s with
    | none => simp [he] at h
    | some s' =>
     obtain ⟨n, hn⟩ := evalOps_cont C he
     have hle : ∀ f a H r, orcN C n f a H = some r → callF C f a H = some r := fun f a H r hr => (callF_iff C).2 ⟨n, hr⟩
     rw [← floats_iff hle hn] at hd
     exact ⟨n, by rw [if_neg hd, hn]; simpa [he] using h⟩
theorem run_eq (w : Work) (s : St) : run C w s = stepW C (callF C) (run C) w s := by
 apply Option.ext
 intro r
 constructor
 ·intro h
  obtain ⟨n, hn⟩ := (run_iff C).1 h
  cases n with
  | zero => simp [ev, evalW] at hn
  | succ n =>
   rw [ev_succ] at hn
   exact stepW_mono C (fun f a H r hr => (callF_iff C).2 ⟨n, hr⟩) (fun w s r hr => (run_iff C).2 ⟨n, hr⟩) hn
 ·intro h
  obtain ⟨n, hn⟩ := step_cont C h
  exact (run_iff C).2 ⟨n + 1, by rw [ev_succ]; exact hn⟩
theorem calls_of {C : Cfg} (TO : TabOk C.P C.T) (XO : ExtOk C.P C.ext) (NO : NameOk C.P) (DO : DrawOk C.P C.T C.draw) {f : FuncId} {args : List DV} {H H' : DH} {d : DV} (hx : C.ext f = none) (h : callF C f args H = some (d, H'))
  {G : Ghost} {w : World} {vs : List Value} (r : Rel G H w) (hv : VL G args vs) : Calls C.P f vs.toArray w fun e w' => ∃ v G', e = .returned v ∧ V G' d v ∧ Step G H w G' H' w' := by
 obtain ⟨n, hn⟩ := (callF_iff C).1 h
 unfold orcN orc at hn
 simp only [hx] at hn
 cases hq : evalW C.P C.T C.ext C.draw n (.call f args) (fun _ => undefD, H) with
 | none => simp [hq] at hn
 | some q =>
  obtain ⟨o, ⟨σ', H2⟩, v⟩ := q
  simp only [hq, Option.some.injEq, Prod.mk.injEq] at hn
  obtain ⟨rfl, rfl⟩ := hn
  exact ((sound TO XO NO DO n).call f args _ H o σ' H2 v hq G w vs r hv).2
end Go.Proofs.YtcknfhhbijlobaaGreatDoor.D
namespace Go.Proofs.YtcknfhhbijlobaaGreatDoor.D
open Go
set_option linter.unusedVariables false
set_option linter.unusedSimpArgs false
variable (C : Cfg)
def W (c : Code) (σ : Nat → DV) (H : DH) (K : Out → (Nat → DV) → DH → Prop) : Prop := ∃ o s' v, run C (.code c) (σ, H) = some (o, s', v) ∧ K o s'.1 s'.2
def WS (body rest : Code) (σ : Nat → DV) (H : DH) (K : Out → (Nat → DV) → DH → Prop) : Prop := ∃ o s' v, run C (.sc body rest) (σ, H) = some (o, s', v) ∧ K o s'.1 s'.2
def WO (ops : Array Oper) (l : List Oper) (σ : Nat → DV) (H : DH) (K : (Nat → DV) → DH → Prop) : Prop := ∃ s', evalOps C.T (callF C) ops l (σ, H) = some s' ∧ K s'.1 s'.2
def W1 (o : Op) (σ : Nat → DV) (H : DH) (K : DV → DH → Prop) : Prop := ∃ v H', evalOp C.T (callF C) o σ H = some (v, H') ∧ K v H'
def WC (f : FuncId) (args : List DV) (H : DH) (K : DV → DH → Prop) : Prop := ∃ v H', callF C f args H = some (v, H') ∧ K v H'
def WB (x : Option DV) (t e : Prop) : Prop := ∃ b, x = some (.bool b) ∧ (b = true → t) ∧ (b = false → e)
variable {C}
theorem W_mono {c : Code} {σ : Nat → DV} {H : DH} {K K' : Out → (Nat → DV) → DH → Prop} (h : W C c σ H K) (k : ∀ o σ H, K o σ H → K' o σ H) : W C c σ H K' :=
 let ⟨o, s, v, h1, h2⟩ := h; ⟨o, s, v, h1, k _ _ _ h2⟩
theorem WC_mono {f : FuncId} {a : List DV} {H : DH} {K K' : DV → DH → Prop} (h : WC C f a H K) (k : ∀ v H, K v H → K' v H) : WC C f a H K' :=
 let ⟨v, H', h1, h2⟩ := h; ⟨v, H', h1, k _ _ h2⟩
theorem ex_some {a : Out} {σ : Nat → DV} {H : DH} {u : DV} {K : Out → (Nat → DV) → DH → Prop} : (∃ o s' v, (some (a, (σ, H), u) : Res) = some (o, s', v) ∧ K o s'.1 s'.2) ↔ K a σ H := by
 constructor
 ·rintro ⟨o, s, v, h, hk⟩
  simp only [Option.some.injEq, Prod.mk.injEq] at h
  obtain ⟨rfl, rfl, rfl⟩ := h
  exact hk
 ·intro h; exact ⟨_, _, _, rfl, h⟩
theorem W_skip {σ H K} : W C .skip σ H K ↔ K .norm σ H := by
 unfold W; rw [run_eq]; exact ex_some
theorem W_label {l σ H K} : W C (.label l) σ H K ↔ K .norm σ H := by
 unfold W; rw [run_eq]; exact ex_some
theorem W_ret {σ H K} : W C .ret σ H K ↔ K .ret σ H := by
 unfold W; rw [run_eq]; exact ex_some
theorem W_exit {id σ H K} : W C (.exit id) σ H K ↔ K (.exit id) σ H := by
 unfold W; rw [run_eq]; exact ex_some
theorem W_goto {l σ H K} : W C (.goto l) σ H K ↔ K (.goto l) σ H := by
 unfold W; rw [run_eq]; exact ex_some
theorem W_seq {a b σ H K} : W C (.seq a b) σ H K ↔ W C a σ H fun o σ' H' => if o = .norm then W C b σ' H' K else K o σ' H' := by
 unfold W; rw [run_eq]; simp only [stepW]
 constructor
 ·rintro ⟨o, s, v, h, hk⟩
  cases hq : run C (.code a) (σ, H) with
  | none => simp [hq] at h
  | some q =>
   obtain ⟨o1, s1, v1⟩ := q
   refine ⟨o1, s1, v1, rfl, ?_⟩
   cases o1 with
   | norm => rw [if_pos rfl]; simp only [hq] at h; exact ⟨o, s, v, h, hk⟩
   | _ => simp only [hq, Option.some.injEq, Prod.mk.injEq] at h; obtain ⟨rfl, rfl, rfl⟩ := h; rw [if_neg (by simp)]; exact hk
 ·rintro ⟨o1, s1, v1, h, hk⟩
  rw [h]
  cases o1 with
  | norm => rw [if_pos rfl] at hk; exact hk
  | _ => rw [if_neg (by simp)] at hk; exact ⟨_, _, _, rfl, hk⟩
theorem W_cond {x a b σ H K} : W C (.cond x a b) σ H K ↔ WB (opd σ x) (W C a σ H K) (W C b σ H K) := by
 unfold W WB; rw [run_eq]; simp only [stepW]
 constructor
 ·rintro ⟨o, s, v, h, hk⟩
  split at h
  ·rename_i t e
   refine ⟨t, e, ?_, ?_⟩
   ·rintro rfl; exact ⟨o, s, v, h, hk⟩
   ·rintro rfl; exact ⟨o, s, v, h, hk⟩
  ·cases h
 ·rintro ⟨t, e, h1, h2⟩
  simp only [e]
  cases t with
  | true => exact h1 rfl
  | false => exact h2 rfl
theorem W_block {id c σ H K} : W C (.block id c) σ H K ↔ W C c σ H fun o σ' H' => if o = .exit id then K .norm σ' H' else K o σ' H' := by
 unfold W; rw [run_eq]; simp only [stepW]
 constructor
 ·rintro ⟨o, s, v, h, hk⟩
  cases hq : run C (.code c) (σ, H) with
  | none => simp [hq] at h
  | some q =>
   obtain ⟨o1, s1, v1⟩ := q
   refine ⟨o1, s1, v1, rfl, ?_⟩
   cases o1 with
   | exit id' =>
    simp only [hq] at h
    by_cases hid : id' = id
    ·rw [if_pos hid] at h
     simp only [Option.some.injEq, Prod.mk.injEq] at h; obtain ⟨rfl, rfl, rfl⟩ := h
     rw [if_pos (by rw [hid])]; exact hk
    ·rw [if_neg hid] at h
     simp only [Option.some.injEq, Prod.mk.injEq] at h; obtain ⟨rfl, rfl, rfl⟩ := h
     rw [if_neg (by simp [hid])]; exact hk
   | _ => simp only [hq, Option.some.injEq, Prod.mk.injEq] at h; obtain ⟨rfl, rfl, rfl⟩ := h; rw [if_neg (by simp)]; exact hk
 ·rintro ⟨o1, s1, v1, h, hk⟩
  rw [h]
  cases o1 with
  | exit id' =>
   simp only
   by_cases hid : id' = id
   ·rw [if_pos (by rw [hid])] at hk; rw [if_pos hid]; exact ⟨_, _, _, rfl, hk⟩
   ·rw [if_neg (by simp [hid])] at hk; rw [if_neg hid]; exact ⟨_, _, _, rfl, hk⟩
  | _ => rw [if_neg (by simp)] at hk; exact ⟨_, _, _, rfl, hk⟩
theorem W_region {id ops dr σ H K} : W C (.region id ops dr) σ H K ↔ (dr = true → C.draw ops = true ∨ Floats C.T (callF C) ops (σ, H)) ∧ WO C ops ops.toList σ H (K .norm) := by
 unfold W WO; rw [run_eq]; simp only [stepW]
 constructor
 ·rintro ⟨o, s, v, h, hk⟩
  split at h
  ·cases h
  ·rename_i hd
   refine ⟨fun hdr => Classical.byContradiction fun hq => hd ⟨hdr, hq⟩, ?_⟩
   ·cases he : evalOps C.T (callF C) ops ops.toList (σ, H) with
    | none => simp [he] at h
    | some s' => simp only [he, Option.some.injEq, Prod.mk.injEq] at h; obtain ⟨rfl, rfl, _⟩ := h; exact ⟨_, rfl, hk⟩
 ·rintro ⟨h1, s', h2, hk⟩
  rw [if_neg (by rintro ⟨a, b⟩; exact b (h1 a)), h2]
  exact ⟨_, _, _, rfl, hk⟩
theorem WO_nil {ops σ H K} : WO C ops [] σ H K ↔ K σ H := by simp [WO, evalOps]
theorem WO_cons {ops o l σ H K} : WO C ops (o :: l) σ H K ↔
  match wantedD ops o σ with
  | some true => W1 C o.op σ H fun v H' => WO C ops l (put σ o.dst v) H' K
  | some false => WO C ops l (put σ o.dst undefD) H K
  | none => False := by
 unfold WO W1; simp only [evalOps]
 cases hw : wantedD ops o σ with
 | none => simp
 | some b =>
  cases b with
  | false => simp
  | true =>
   simp only
   constructor
   ·rintro ⟨s', h, hk⟩
    cases he : evalOp C.T (callF C) o.op σ H with
    | none => simp [he] at h
    | some q => obtain ⟨v, H'⟩ := q; simp only [he] at h; exact ⟨v, H', rfl, s', h, hk⟩
   ·rintro ⟨v, H', he, s', h, hk⟩
    exact ⟨s', by simp only [he]; exact h, hk⟩
theorem WO_step {ops o l σ H K} (hg : o.guard = none) : WO C ops (o :: l) σ H K ↔ W1 C o.op σ H fun v H' => WO C ops l (put σ o.dst v) H' K := by
 rw [WO_cons]; simp [wantedD, hg]
theorem W_scope {c σ H K} : W C (.scope c) σ H K ↔ WS C c c σ H K := by
 unfold W WS; rw [run_eq]; rfl
theorem WS_iff {body rest σ H K} : WS C body rest σ H K ↔ W C rest σ H fun o σ' H' =>
  match o with
  | .goto l => match findLabel body l with
   | some r => WS C body r σ' H' K
   | none => K (.goto l) σ' H'
  | o => K o σ' H' := by
 unfold WS W; rw [run_eq]; simp only [stepW]
 constructor
 ·rintro ⟨o, s, v, h, hk⟩
  cases hq : run C (.code rest) (σ, H) with
  | none => simp [hq] at h
  | some q =>
   obtain ⟨o1, s1, v1⟩ := q
   refine ⟨o1, s1, v1, rfl, ?_⟩
   cases o1 with
   | goto l =>
    simp only [hq] at h
    cases hf : findLabel body l with
    | none => simp only [hf, Option.some.injEq, Prod.mk.injEq] at h ⊢; obtain ⟨rfl, rfl, rfl⟩ := h; exact hk
    | some r => simp only [hf] at h ⊢; exact ⟨o, s, v, h, hk⟩
   | _ => simp only [hq, Option.some.injEq, Prod.mk.injEq] at h; obtain ⟨rfl, rfl, rfl⟩ := h; exact hk
 ·rintro ⟨o1, s1, v1, h, hk⟩
  rw [h]
  cases o1 with
  | goto l =>
   simp only
   cases hf : findLabel body l with
   | none => simp only [hf] at hk ⊢; exact ⟨_, _, _, rfl, hk⟩
   | some r => simp only [hf] at hk ⊢; exact hk
  | _ => exact ⟨_, _, _, rfl, hk⟩
theorem WC_body {f : FuncId} {fn : Func} {c : Code} {args : List DV} {H : DH} {K : DV → DH → Prop} (hx : C.ext f = none) (hf : C.P.funcs[f]? = some fn) (hb : fn.body = some c) (hN : bnd fn.ntmps c = true)
  (hl : args.length ≤ fn.ntmps) (h : W C c (frame0 args) H fun o σ H => (o = .norm ∨ o = .ret) ∧ ∃ vs, resD C.T σ H fn.results.toList = some vs ∧ K (resOne vs) H) : WC C f args H K := by
 obtain ⟨o, s, v, h1, h2, vs, h3, h4⟩ := h
 refine ⟨resOne vs, s.2, ?_, h4⟩
 unfold callF
 simp only [hx]
 rw [run_eq]
 simp only [stepW, hf, hb]
 rw [if_pos ⟨hl, hN⟩, h1]
 rcases h2 with rfl | rfl <;> simp [h3]
theorem WC_ext {f : FuncId} {e : List DV → DH → Option (DV × DH)} {args : List DV} {H : DH} {K : DV → DH → Prop} (hx : C.ext f = some e) : WC C f args H K ↔ ∃ v H', e args H = some (v, H') ∧ K v H' := by
 unfold WC callF; simp [hx]
theorem W1_call {c : Call} {σ H K} (hc : ∃ f, c.callee = .value f) : W1 C (.call c) σ H K ↔ ∃ args, opds σ c.args.toList = some args ∧ match c.callee with
  | .value f => ∃ g a b, opd σ f = some (.fn (.func g) a b) ∧ WC C g (a ++ args ++ b) H K
  | _ => False := by
 obtain ⟨f, hf⟩ := hc
 unfold W1 WC
 simp only [evalOp, callD, hf]
 constructor
 ·rintro ⟨v, H', h, hk⟩
  cases ha : opds σ c.args.toList with
  | none => simp [ha] at h
  | some args =>
   simp only [ha] at h
   split at h
   ·rename_i g a b e
    exact ⟨args, rfl, g, a, b, e, v, H', h, hk⟩
   ·cases h
 ·rintro ⟨args, ha, g, a, b, e, v, H', h, hk⟩
  exact ⟨v, H', by simp only [ha, e]; exact h, hk⟩
theorem W1_callf {g : FuncId} {as : Array Operand} {ts σ H K} : W1 C (.call { callee := .value (.func g), args := as, argTypes := ts }) σ H K ↔ ∃ args, opds σ as.toList = some args ∧ WC C g args H K := by
 rw [W1_call ⟨_, rfl⟩]
 constructor
 ·rintro ⟨args, h, g', a, b, e, hk⟩
  simp only [opd, Option.some.injEq, DV.fn.injEq, Fn.func.injEq] at e
  obtain ⟨rfl, rfl, rfl⟩ := e
  exact ⟨args, h, by simpa using hk⟩
 ·rintro ⟨args, h, hk⟩
  exact ⟨args, h, g, [], [], rfl, by simpa using hk⟩
theorem W1_callt {t : Tmp} {as : Array Operand} {ts σ H K} : W1 C (.call { callee := .value (.tmp t), args := as, argTypes := ts }) σ H K ↔ ∃ args, opds σ as.toList = some args ∧ ∃ g a b, σ t = .fn (.func g) a b ∧ WC C g (a ++ args ++ b) H K := by
 rw [W1_call ⟨_, rfl⟩]
 simp [opd]
end Go.Proofs.YtcknfhhbijlobaaGreatDoor.D
namespace Go.Proofs.YtcknfhhbijlobaaGreatDoor.D
open Go
set_option linter.unusedVariables false
set_option linter.unusedSimpArgs false
def consts : List Value → Option (List DV)
 | [] => some []
 | v :: r => match constD v, consts r with
  | some a, some l => some (a :: l)
  | _, _ => none
def zeroDV : Value → Option DV
 | .agg vs => (consts vs.toList).map DV.agg
 | v => constD v
def kindOf (P : Program) (t : TypeId) : Option Nat :=
 match P.underlying t with
 | some .bool => some 0
 | some (.int _) => some 1
 | some .string => some 2
 | _ => none
def flatFields (P : Program) : List Field → Nat → Option (List Nat)
 | [], _ => some []
 | f :: r, i => match kindOf P f.type, flatFields P r (i + 1) with
  | some k, some l => if f.name ≠ "_" ∧ f.offset = i then some (k :: l) else none
  | _, _ => none
def flatKs (P : Program) (t : TypeId) : Option (List Nat) :=
 match P.underlying t with
 | some (.struct fs) => if P.stoodInHeld t = false ∧ P.eqGuardType P.depth t = false then flatFields P fs.toList 0 else none
 | _ => none
def tabOf (P : Program) (wr : List TypeId := []) : Tab where
 und t := P.underlying t
 size t := (P.info? t).map (·.size)
 bytes t := (P.info? t).map (·.bytes)
 zero t := (P.info? t).bind fun i => i.zero.bind zeroDV
 flatEq t := flatKs P t
 lies t n off u := liesAt P P.depth t (n / P.cellsOf t) off u 1 && (P.info? u).isSome
 wr t := wr.contains t
section
variable {P : Program}
theorem consts_ok {vs : List Value} : ∀ {ds : List DV}, consts vs = some ds → ∀ G, VL G ds vs := by
 induction vs with
 | nil => intro ds h G; simp [consts] at h; subst h; exact .nil _
 | cons v vs ih =>
  intro ds h G
  simp only [consts] at h
  split at h
  ·rename_i a l e1 e2
   obtain rfl := Option.some.inj h
   exact .cons (constD_ok e1) (ih e2 G)
  ·cases h
theorem zeroDV_ok {v : Value} {z : DV} (h : zeroDV v = some z) (G : Ghost) : V G z v := by
 unfold zeroDV at h
 split at h
 ·rename_i vs
  simp only [Option.map_eq_some_iff] at h
  obtain ⟨l, h1, rfl⟩ := h
  have := consts_ok h1 G
  exact V.agg (vs := vs.toList) this.1 this.2
 ·exact constD_ok h
theorem part_scalar {w : World} {t : TypeId} {k : Nat} (hk : kindOf P t = some k) {cs : Array Value} {off : Nat} {v : Value} (h : cs[off]? = some v) : (part t cs off).run P w = .ok v w := by
 unfold kindOf at hk
 have : (isAgg t).run P w = .ok false w := by
  split at hk <;> first
   | (rename_i e; simp [isAgg, run_underlying e]; done)
   | (cases hk; done)
 simp [part, this, h]
theorem cellEq_ok {w : World} {d : Nat} {t : TypeId} {k : Nat} (hk : kindOf P t = some k) {G : Ghost} {x y : DV} {vx vy : Value} {b : Bool} (hx : V G x vx) (hy : V G y vy) (h : cellEq k x y = some b) :
  (Op.equalIn (d + 1) t vx vy).run P w = .ok b w := by
 unfold kindOf at hk
 unfold cellEq at h
 split at h
 ·split at h
  ·rename_i hkk
   obtain rfl := Option.some.inj h
   subst hkk
   cases hx; cases hy
   split at hk <;> first | (cases hk; done) | skip
   rename_i e
   exact run_equalIn_int w d t _ _ _ _ e
  ·cases h
 ·rename_i a b
  obtain rfl := Option.some.inj h
  cases hx; cases hy
  split at hk <;> first | (cases hk; done) | skip
  rename_i e
  have := run_equalIn_string (P := P) w d t ⟨a.toArray⟩ ⟨b.toArray⟩ e
  rw [this]; first | rfl | simp
 ·obtain rfl := Option.some.inj h
  cases hx; cases hy
  split at hk <;> first | (cases hk; done) | skip
  rename_i e
  exact run_equalIn_bool' w d t _ _ e
 ·cases h
theorem eqFields_ok {w : World} {d : Nat} {G : Ghost} : ∀ {fs : List Field} {i : Nat} {ks : List Nat} {xs ys : List DV} {px py vx vy : List Value} {b : Bool}, flatFields P fs i = some ks → px.length = i → py.length = i → VL G xs vx → VL G ys vy → cellsEq ks xs ys = some b →
  (Op.eqFields (d + 1) (px ++ vx).toArray (py ++ vy).toArray fs).run P w = .ok b w
 | [], i, ks, xs, ys, px, py, vx, vy, b, h, h1, h2, hx, hy, hc => by
  simp [flatFields] at h; subst h
  cases xs <;> cases ys <;> simp [cellsEq] at hc
  subst hc
  simp [Op.eqFields]
 | f :: fs, i, ks, xs, ys, px, py, vx, vy, b, h, h1, h2, hx, hy, hc => by
  simp only [flatFields] at h
  split at h
  ·rename_i k l e1 e2
   split at h
   ·rename_i hf
    obtain rfl := Option.some.inj h
    cases xs with
    | nil => simp [cellsEq] at hc
    | cons x xs =>
     cases ys with
     | nil => simp [cellsEq] at hc
     | cons y ys =>
      obtain ⟨u, vx', rfl, hxu, hx'⟩ := hx.cons_inv
      obtain ⟨v, vy', rfl, hyv, hy'⟩ := hy.cons_inv
      simp only [cellsEq] at hc
      split at hc
      ·rename_i a b' c1 c2
       obtain rfl := Option.some.inj hc
       have p1 : (part f.type (px ++ u :: vx').toArray f.offset).run P w = .ok u w := part_scalar e1 (by rw [hf.2, ← h1]; simp)
       have p2 : (part f.type (py ++ v :: vy').toArray f.offset).run P w = .ok v w := part_scalar e1 (by rw [hf.2, ← h2]; simp)
       have p3 := cellEq_ok (w := w) (d := d) e1 hxu hyv c1
       have ih := eqFields_ok (w := w) (d := d) (px := px ++ [u]) (py := py ++ [v]) e2 (by simp [h1]) (by simp [h2]) hx' hy' c2
       simp only [List.append_assoc, List.singleton_append] at ih
       rw [Op.eqFields, if_pos hf.1]
       simp only [Sem.run_bind, p1, p2, p3, Result.andThen_ok]
       cases a with
       | true => simpa using ih
       | false => simp
      ·cases hc
   ·cases h
  ·cases h
theorem tab_ok {wr : List TypeId} : TabOk P (tabOf P wr) where
 und t d h := h
 size t n h := by simpa [tabOf] using h
 bytes t n h := by simpa [tabOf] using h
 zero t z h := by
  simp only [tabOf, Option.bind_eq_some_iff] at h
  obtain ⟨i, h1, v, h2, h3⟩ := h
  exact ⟨i, v, h1, h2, zeroDV_ok h3⟩
 lies t n off u h := by
  simp only [tabOf, Bool.and_eq_true, Option.isSome_iff_exists] at h
  exact h
 flatEq t ks h G xs ys vx vy w b x y hx hy hc := by
  simp only [tabOf, flatKs] at h
  split at h
  ·rename_i fs e
   split at h
   ·rename_i hh
    have hfs : P.fieldsOf t = fs := by simp [Program.fieldsOf, e]
    have heq : (Op.equal t (.agg vx.toArray) (.agg vy.toArray)).run P w = .ok b w := by
     show (Op.equalIn (9999 + 1) t _ _).run P w = _
     rw [run_equalIn_struct w 9999 t _ _ (by rw [hfs]; exact e) hh.1, hfs]
     exact eqFields_ok (d := 9998) (px := []) (py := []) h rfl rfl hx hy hc
    have hg : ∀ op, (eqGuard op t x y (.agg vx.toArray) (.agg vy.toArray)).run P w = .ok () w := by
     intro op
     cases op <;> simp [eqGuard, hh.2]
    exact ⟨by simp [hg, binOp, heq], by simp [hg, binOp, heq]⟩
   ·cases h
  ·cases h
end
end Go.Proofs.YtcknfhhbijlobaaGreatDoor.D
namespace Go.Proofs.YtcknfhhbijlobaaGreatDoor.D
open Go
set_option linter.unusedVariables false
set_option linter.unusedSimpArgs false
def liteO (o : Oper) : Oper := { dst := o.dst, op := o.op, type := 0, pos := "", after := #[], guard := o.guard }
def lite : Code → Code
 | .region id ops dr => if dr then .region id ops dr else .region 0 (ops.toList.map liteO).toArray false
 | .seq a b => .seq (lite a) (lite b)
 | .cond x a b => .cond x (lite a) (lite b)
 | .block id a => .block id (lite a)
 | .loop a => .loop (lite a)
 | .scope a => .scope (lite a)
 | c => c
theorem wantedD_lite {ops : Array Oper} {o : Oper} {σ : Nat → DV} : wantedD (ops.toList.map liteO).toArray (liteO o) σ = wantedD ops o σ := by
 unfold wantedD
 show (match o.guard with | none => some true | some (j, want) => _) = _
 cases o.guard with
 | none => rfl
 | some g =>
  obtain ⟨j, want⟩ := g
  have : (((ops.toList.map liteO).toArray)[j]?).bind (·.dst) = (ops[j]?).bind (·.dst) := by
   rw [List.getElem?_toArray, List.getElem?_map, Array.getElem?_toList]
   cases ops[j]? <;> rfl
  simp only [this]
theorem evalOps_lite {T : Tab} {E : Orc} {ops : Array Oper} : ∀ {l : List Oper} {s : St}, evalOps T E (ops.toList.map liteO).toArray (l.map liteO) s = evalOps T E ops l s
 | [], s => rfl
 | o :: l, s => by
  simp only [List.map_cons, evalOps]
  rw [wantedD_lite]
  show (match wantedD ops o s.1 with | some true => (match evalOp T E o.op s.1 s.2 with | some (v, H) => evalOps T E _ (l.map liteO) (put s.1 o.dst v, H) | none => none) | some false => evalOps T E _ (l.map liteO) (put s.1 o.dst undefD, s.2) | none => none) = _
  simp only [evalOps_lite]
  first
  | rfl
  | (rcases wantedD ops o s.1 with _ | _ | _ <;> first | rfl | (cases evalOp T E o.op s.1 s.2 <;> rfl))
theorem findLabel_lite : ∀ (c : Code) (l : Nat), findLabel (lite c) l = (findLabel c l).map lite
 | .seq a b, l => by
  simp only [lite, findLabel, findLabel_lite a l, findLabel_lite b l]
  cases findLabel a l <;> rfl
 | .label l', l => by simp only [lite, findLabel]; split <;> rfl
 | .region _ _ dr, _ => by cases dr <;> rfl
 | .skip, _ | .ret, _ | .exit _, _ | .goto _, _ | .cond _ _ _, _ | .block _ _, _ | .loop _, _ | .scope _, _ | .rangeFunc _ _ _ _, _ | .refuse _, _ => rfl
variable {C : Cfg}
theorem ev_lite : ∀ (n : Nat), (∀ c s, ev C n (.code (lite c)) s = ev C n (.code c) s) ∧ (∀ b r s, ev C n (.sc (lite b) (lite r)) s = ev C n (.sc b r) s)
 | 0 => ⟨fun _ _ => rfl, fun _ _ _ => rfl⟩
 | n + 1 => by
  obtain ⟨ih1, ih2⟩ := ev_lite n
  constructor
  ·intro c s
   rw [ev_succ, ev_succ]
   cases c with
   | seq a b =>
    simp only [lite, stepW, ih1 a s]
    cases ev C n (.code a) s with
    | none => rfl
    | some q =>
     obtain ⟨o, s', v⟩ := q
     cases o <;> first | rfl | exact ih1 b s'
   | cond x a b =>
    simp only [lite, stepW]
    split
    ·rename_i t e
     cases t
     ·exact ih1 b s
     ·exact ih1 a s
    ·rfl
   | block id a => simp only [lite, stepW, ih1 a s]
   | loop a =>
    have h2 : ∀ s, ev C n (.code (.loop (lite a))) s = ev C n (.code (.loop a)) s := fun s => ih1 (.loop a) s
    simp only [lite, stepW, ih1 a s, h2]
   | scope a => simp only [lite, stepW, ih2 a a s]
   | region id ops dr =>
    cases dr with
    | true => rfl
    | false =>
     simp only [lite, Bool.false_eq_true, if_false, stepW, false_and]
     rw [evalOps_lite]
   | _ => rfl
  ·intro b r s
   rw [ev_succ, ev_succ]
   simp only [stepW, ih1 r s, findLabel_lite]
   cases ev C n (.code r) s with
   | none => rfl
   | some q =>
    obtain ⟨o, s', v⟩ := q
    cases o with
    | goto l =>
     simp only
     cases hf : findLabel b l with
     | none => rfl
     | some r' => exact ih2 b r' s'
    | _ => rfl
theorem run_lite {c : Code} {s : St} : run C (.code (lite c)) s = run C (.code c) s := by
 apply Option.ext
 intro r
 rw [run_iff, run_iff]
 exact exists_congr fun n => by rw [(ev_lite n).1 c s]
theorem W_lite {c : Code} {σ : Nat → DV} {H : DH} {K : Out → (Nat → DV) → DH → Prop} : W C (lite c) σ H K ↔ W C c σ H K := by
 unfold W; rw [run_lite]
end Go.Proofs.YtcknfhhbijlobaaGreatDoor.D
