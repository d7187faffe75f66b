import Derived.Test.YtcknfhhbijlobaaDoorPar4
namespace Go.Proofs.YtcknfhhbijlobaaDoor.D
open Go
set_option linter.unusedVariables false
set_option linter.unusedSimpArgs false
set_option maxRecDepth 100000

def intV (n : Nat) : DV := .int .i64 n
/-- A row of numbers. -/
def IntsV (l : List Nat) (v : DV) : Prop := (v = .nils ∧ l = []) ∨ ∃ id off, v = .sl id 1 off (l.map intV)
def StmV (s : Stm) (d : DV) : Prop := ∃ vl vm, d = .agg [.int .i64 s.kind, .str s.s, .str s.t, .str s.u, .int .i64 s.n, .int .i64 s.at_, vl, vm] ∧ IntsV s.l vl ∧ IntsV s.m vm
theorem IsSl.ints {lo : Nat} {H : DH} {e : Nat} {v : DV} {l : List Nat} (h : IsSl lo H e 1 v (l.map intV)) : IntsV l v := by
  rcases h with ⟨h1, h2⟩ | ⟨id, off, k, h1, _⟩
  · exact .inl ⟨h1, by simpa using h2⟩
  · exact .inr ⟨id, off, h1⟩
def slid : DV → List Nat
  | .sl id _ _ _ => [id]
  | _ => []
theorem IsSl.keep {lo : Nat} {H H' : DH} {e sz : Nat} {v : DV} {es : List DV} (h : IsSl lo H e sz v es) (hn : H.next ≤ H'.next) (hm : ∀ id ∈ slid v, H'.m id = H.m id) : IsSl lo H' e sz v es := by
  rcases h with h | ⟨id, off, k, rfl, h2, h3, h4, h5, h6⟩
  · exact .inl h
  · exact .inr ⟨id, off, k, rfl, by rw [hm id (by simp [slid]), h2], h3, h4, Nat.lt_of_lt_of_le h5 hn, h6⟩
theorem IsSl.tip {lo : Nat} {H : DH} {e sz : Nat} {v : DV} {es : List DV} (h : IsSl lo H e sz v es) : ∀ id ∈ slid v, lo ≤ id ∧ id < H.next ∧ ∃ k, H.m id = some (.tip e k true) := by
  rcases h with ⟨rfl, _⟩ | ⟨id, off, k, rfl, h2, h3, h4, h5, h6⟩
  · simp [slid]
  · intro i hi
    simp [slid] at hi
    subst hi
    exact ⟨h4, h5, k, h2⟩
/-- What an append gives, its number with it. -/
theorem app2 {T : Tab} {H : DH} {lo : Nat} {t u e : TypeId} {n by_ : Nat} {du : TypeDesc} {z : DV} {v x : DV} {es new : List DV} {K : DV → DH → Prop} {b : Later K} (h1 : T.und t = some (.slice e)) (h2 : T.size e = some n) (h3 : T.bytes e = some by_) (h4 : T.und u = some du) (h5 : T.zero e = some z)
    (h6 : srcOk du = true) (h7 : z.cells.length = n) (h8 : 0 < n) (hs : IsSl lo H e n v es) (hx : elemsOf n x = some new) (hne : new ≠ []) (hlo : lo ≤ H.next) (hb : (es.length + new.length) * by_ ≤ 140737488355328) (hb2 : es.length + new.length < 9223372036854775808)
    (k : ∀ v' H' id, IsSl lo H' e n v' (es ++ new) → H.next ≤ H'.next → (∀ i, i ≠ id → H'.m i = H.m i) → slid v' = [id] → (slid v = [id] ∨ id = H.next) → K v' H') (hwr : T.wr e = false := by rfl) : WX (appendD T t u v x H) b := by
  unfold appendD
  simp only [h1, h2, h3, h4, h5, hx]
  rw [if_pos ⟨h8, h6, h7⟩]
  rcases hs with ⟨rfl, rfl⟩ | ⟨id, off, kk, rfl, g2, g3, g4, g5⟩
  · simp only
    rw [if_pos (by simp only [List.length_nil, Nat.zero_add] at hb hb2; exact ⟨hb, hb2⟩), if_neg (by simpa [List.isEmpty_iff] using hne), if_neg (by rw [hwr]; simp)]
    refine k _ _ H.next (.inr ⟨H.next, 0, new.length, rfl, ?_, by simp, hlo, Nat.lt_succ_self _, by simpa using hne⟩) (Nat.le_succ _) (fun b hb => ?_) rfl (.inr rfl)
    · exact if_pos rfl
    · exact if_neg hb
  · simp only [g2]
    rw [if_pos (by simp only [true_and]; exact ⟨g3, hb, hb2⟩)]
    refine k _ _ id (.inr ⟨id, off, kk + new.length, rfl, ?_, by simp; omega, g4, g5.1, by simp [g5.2]⟩) (Nat.le_refl _) (fun b hb => ?_) rfl (.inl rfl)
    · rw [set_m, if_pos rfl]
    · rw [set_m, if_neg hb]


inductive All2 {α β : Type} (R : α → β → Prop) : List α → List β → Prop
  | nil : All2 R [] []
  | cons {a b l m} (h : R a b) (t : All2 R l m) : All2 R (a :: l) (b :: m)
theorem All2.len {α β : Type} {R : α → β → Prop} {l : List α} {m : List β} (h : All2 R l m) : l.length = m.length := by
  induction h with
  | nil => rfl
  | cons _ _ ih => simp [ih]
theorem All2.app {α β : Type} {R : α → β → Prop} {l l' : List α} {m m' : List β} (h : All2 R l m) (h' : All2 R l' m') : All2 R (l ++ l') (m ++ m') := by
  induction h with
  | nil => exact h'
  | cons h _ ih => exact .cons h ih
theorem All2.mono {α β : Type} {R R' : α → β → Prop} {l : List α} {m : List β} (h : All2 R l m) (k : ∀ a b, b ∈ m → R a b → R' a b) : All2 R' l m := by
  induction h with
  | nil => exact .nil
  | cons h _ ih => exact .cons (k _ _ (by simp) h) (ih fun a b hb => k a b (by simp [hb]))
theorem All2.last {α β : Type} {R : α → β → Prop} : ∀ {l : List α} {a : α} {m : List β}, All2 R (l ++ [a]) m → ∃ m' b, m = m' ++ [b] ∧ All2 R l m' ∧ R a b
  | [], a, m, h => by cases h with | cons h t => cases t; exact ⟨[], _, rfl, .nil, h⟩
  | x :: l, a, m, h => by
    cases h with
    | cons h t =>
      obtain ⟨m', b, rfl, h1, h2⟩ := All2.last t
      exact ⟨_ :: m', b, rfl, .cons h h1, h2⟩
theorem All2.get {α β : Type} {R : α → β → Prop} {l : List α} {m : List β} (h : All2 R l m) : ∀ {i : Nat} {a : α}, l[i]? = some a → ∃ b, m[i]? = some b ∧ R a b := by
  induction h with
  | nil => intro i a h; simp at h
  | cons h _ ih =>
    intro i a hi
    cases i with
    | zero => simp at hi; subst hi; exact ⟨_, rfl, h⟩
    | succ i => exact ih (by simpa using hi)

abbrev FT : TypeId := 72
abbrev Fx := Nat × DV × DV
def FrV (lo : Nat) (H : DH) (f : Fr) (x : Fx) : Prop := lo ≤ x.1 ∧ x.1 < H.next ∧
  H.m x.1 = some (.cells FT [.int .i64 f.s.kind, .str f.s.s, .str f.s.t, .str f.s.u, .int .i64 f.s.n, .int .i64 f.s.at_, x.2.1, x.2.2, .bool f.other]) ∧ IsSl lo H 3 1 x.2.1 (f.s.l.map intV) ∧ IsSl lo H 3 1 x.2.2 (f.s.m.map intV)
def fids (x : Fx) : List Nat := slid x.2.1 ++ slid x.2.2
/-- The parser in the heap. -/
structure PI (lo : Nat) (H : DH) (p md : Nat) (tok at_ e : DV) (R : List Stm) (top : List Nat) (os : List Fr) (stmv topv opv : DV) (es : List DV) (fs : List Fx) : Prop where
  hp : p < H.next
  lop : lo ≤ p
  obj : H.m p = some (.cells PT [tok, .int .i64 md, stmv, topv, opv, at_, e])
  stm : IsSl lo H 33 8 stmv es
  stmR : All2 StmV R es
  top : IsSl lo H 3 1 topv (top.map intV)
  op : (opv = .nils ∧ fs = []) ∨ ∃ r cs, opv = .hs r 1 0 fs.length ∧ lo ≤ r ∧ r < H.next ∧ H.m r = some (.row 70 cs) ∧ cs.take fs.length = fs.map fun x => .ptr x.1 0
  fr : All2 (FrV lo H) os fs
  nodb : (fs.map (·.1)).Nodup
  nodt : (slid topv ++ fs.flatMap fids).Nodup
structure Bnd (R : List Stm) (top : List Nat) (os : List Fr) : Prop where
  hR : R.length < 100000
  ht : top.length ≤ R.length
  ho : ∀ f ∈ os, f.s.l.length ≤ R.length ∧ f.s.m.length ≤ R.length
  hl : os.length < 100000
theorem FrV.keep {lo : Nat} {H H' : DH} {f : Fr} {x : Fx} (h : FrV lo H f x) (hn : H.next ≤ H'.next) (h1 : H'.m x.1 = H.m x.1) (h2 : ∀ id ∈ fids x, H'.m id = H.m id) : FrV lo H' f x := by
  obtain ⟨a, b, c, d, e⟩ := h
  exact ⟨a, Nat.lt_of_lt_of_le b hn, by rw [h1]; exact c, d.keep hn fun id hi => h2 id (by simp [fids, hi]), e.keep hn fun id hi => h2 id (by simp [fids, hi])⟩
theorem frs_keep {lo : Nat} {H H' : DH} {os : List Fr} {fs : List Fx} (h : All2 (FrV lo H) os fs) (hn : H.next ≤ H'.next) (hk : ∀ x ∈ fs, H'.m x.1 = H.m x.1 ∧ ∀ id ∈ fids x, H'.m id = H.m id) : All2 (FrV lo H') os fs :=
  h.mono fun f x hx hf => hf.keep hn (hk x hx).1 (hk x hx).2
theorem mne {H : DH} {a b : Nat} {o o' : DObj} (h1 : H.m a = some o) (h2 : H.m b = some o') (h : o ≠ o') : a ≠ b := by
  rintro rfl; rw [h1] at h2; cases h2; exact h rfl
theorem FrV.ids {lo : Nat} {H : DH} {f : Fr} {x : Fx} (h : FrV lo H f x) : ∀ id ∈ fids x, lo ≤ id ∧ id < H.next ∧ ∃ k, H.m id = some (.tip 3 k true) := by
  intro id hi
  rcases List.mem_append.1 hi with hi | hi
  · exact h.2.2.2.1.tip id hi
  · exact h.2.2.2.2.tip id hi
theorem All2.mem {α β : Type} {R : α → β → Prop} {l : List α} {m : List β} (h : All2 R l m) : ∀ b ∈ m, ∃ a ∈ l, R a b := by
  induction h with
  | nil => simp
  | cons h _ ih =>
    intro b hb
    rcases List.mem_cons.1 hb with hb | hb
    · subst hb; exact ⟨_, by simp, h⟩
    · obtain ⟨a, ha, hr⟩ := ih b hb
      exact ⟨a, by simp [ha], hr⟩
/-- All that the parser owns changes under no other's hand: a change of what it does not own keeps it. -/
theorem PI.keep {lo : Nat} {H H' : DH} {p md : Nat} {tok at_ e : DV} {R : List Stm} {top : List Nat} {os : List Fr} {stmv topv opv : DV} {es : List DV} {fs : List Fx} (h : PI lo H p md tok at_ e R top os stmv topv opv es fs) (x : Frm [p] H H') {tok' at' e' : DV}
    (hm : H'.m p = some (.cells PT [tok', .int .i64 md, stmv, topv, opv, at', e'])) : PI lo H' p md tok' at' e' R top os stmv topv opv es fs where
  hp := Nat.lt_of_lt_of_le h.hp x.le
  lop := h.lop
  obj := hm
  stm := h.stm.keep x.le fun id hi => by
    obtain ⟨_, h2, k, h3⟩ := h.stm.tip id hi
    exact x.same id h2 (by simpa using mne h3 h.obj (by simp))
  stmR := h.stmR
  top := h.top.keep x.le fun id hi => by
    obtain ⟨_, h2, k, h3⟩ := h.top.tip id hi
    exact x.same id h2 (by simpa using mne h3 h.obj (by simp))
  op := h.op.imp id fun ⟨r, cs, h1, h2, h3, h4, h5⟩ => ⟨r, cs, h1, h2, Nat.lt_of_lt_of_le h3 x.le, by rw [x.same r h3 (by simpa using mne h4 h.obj (by simp))]; exact h4, h5⟩
  fr := frs_keep h.fr x.le fun y hy => by
    obtain ⟨f, _, hf⟩ := h.fr.mem y hy
    refine ⟨x.same y.1 hf.2.1 (by simpa using mne hf.2.2.1 h.obj (by simp [PT, FT])), fun id hi => ?_⟩
    obtain ⟨_, h2, k, h3⟩ := hf.ids id hi
    exact x.same id h2 (by simpa using mne h3 h.obj (by simp))
  nodb := h.nodb
  nodt := h.nodt
theorem StmV.ones {s : Stm} {d : DV} (h : StmV s d) : ∃ d1 d2 d3 d4 d5 d6 d7 d8, d = .agg [d1, d2, d3, d4, d5, d6, d7, d8] ∧ d1.one = true ∧ d2.one = true ∧ d3.one = true ∧ d4.one = true ∧ d5.one = true ∧ d6.one = true ∧ d7.one = true ∧ d8.one = true := by
  obtain ⟨vl, vm, rfl, h1, h2⟩ := h
  have : ∀ {l v}, IntsV l v → v.one = true := by
    rintro l v (⟨rfl, _⟩ | ⟨id, off, rfl⟩) <;> rfl
  exact ⟨_, _, _, _, _, _, _, _, rfl, rfl, rfl, rfl, rfl, rfl, rfl, this h1, this h2⟩
end Go.Proofs.YtcknfhhbijlobaaDoor.D
