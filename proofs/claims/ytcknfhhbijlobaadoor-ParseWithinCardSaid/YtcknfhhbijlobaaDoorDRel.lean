/- D: what the evaluator's state says of the machine's memory. -/
import Derived.Test.YtcknfhhbijlobaaDoorDBase
namespace Go.Proofs.YtcknfhhbijlobaaDoor.D
open Go
set_option linter.unusedVariables false

structure Ghost where
  im : Nat → Nat → Option Value
  ρ : Nat → Option (Nat × Nat)
  place : Nat → Nat → Option (Nat × Nat × Nat)

structure Ghost.le (G G' : Ghost) : Prop where
  im : ∀ B o v, G.im B o = some v → G'.im B o = some v
  ρ : ∀ b x, G.ρ b = some x → G'.ρ b = some x
  place : ∀ b e x, G.place b e = some x → G'.place b e = some x

theorem Ghost.le.refl (G : Ghost) : G.le G := ⟨fun _ _ _ h => h, fun _ _ h => h, fun _ _ _ h => h⟩
theorem Ghost.le.trans {A B C : Ghost} (h : A.le B) (k : B.le C) : A.le C :=
  ⟨fun _ _ _ x => k.im _ _ _ (h.im _ _ _ x), fun _ _ x => k.ρ _ _ (h.ρ _ _ x), fun _ _ _ x => k.place _ _ _ (h.place _ _ _ x)⟩

inductive V (G : Ghost) : DV → Value → Prop
  | bool (b) : V G (.bool b) (.bool b)
  | int (k n) : V G (.int k n) (.int k n)
  | flt (k n) : V G (.flt k n) (.float k n)
  | str (s : List UInt8) : V G (.str s) (.string ⟨s.toArray⟩)
  | nilp : V G .nilp (.pointer none)
  | ptr {b off B s : Nat} (h : G.ρ b = some (B, s)) : V G (.ptr b off) (.pointer (some ⟨B, s + off, none⟩))
  | ip {cs : List DV} {vs : List Value} {B o : Nat} (hl : cs.length = vs.length) (hi : ∀ (i : Nat) (v : Value), vs[i]? = some v → G.im B (o + i) = some v)
      (hv : ∀ (i : Nat) (d : DV) (v : Value), cs[i]? = some d → vs[i]? = some v → V G d v) : V G (.ip cs) (.pointer (some ⟨B, o, none⟩))
  | nils : V G .nils (.slice none 0 0)
  | sl {id sz off : Nat} {es : List DV} {vs : List Value} {B o cap len : Nat} (hsz : 0 < sz) (he : ∀ e ∈ es, e.cells.length = sz) (ho : (flat es).all DV.one = true)
      (hl : (flat es).length = vs.length) (hi : ∀ (i : Nat) (v : Value), vs[i]? = some v → G.im B (o + i) = some v)
      (hv : ∀ (i : Nat) (d : DV) (v : Value), (flat es)[i]? = some d → vs[i]? = some v → V G d v) (hn : len = es.length) (hcap : len ≤ cap)
      (hp : cap = 0 ∨ id = 0 ∨ ∃ e p pc, off + len ≤ e ∧ G.place id e = some (B, p, pc) ∧ o + (e - off) * sz = p ∧ o + cap * sz ≤ pc) :
      V G (.sl id sz off es) (.slice (some ⟨B, o, none⟩) len cap)
  | hs {b sz off len B s o cap : Nat} (h : G.ρ b = some (B, s)) (hcap : len ≤ cap) (hp : cap = 0 ∨ (o = s + off ∧ ∃ p pc, G.place b 0 = some (B, p, pc) ∧ o + cap * sz ≤ pc)) : V G (.hs b sz off len) (.slice (some ⟨B, o, none⟩) len cap)
  | sd {id sz off : Nat} {es : List DV} {vs : List Value} {B o cap : Nat} (hne : es ≠ []) (hsz : 0 < sz) (he : ∀ e ∈ es, e.cells.length = sz)
      (hl : (flat es).length = vs.length) (hi : ∀ (i : Nat) (v : Value), vs[i]? = some v → G.im B (o + i) = some v)
      (hv : ∀ (i : Nat) (d : DV) (v : Value), (flat es)[i]? = some d → vs[i]? = some v → V G d v)
      (hp : id = 0 ∨ ∃ e p pc, off + es.length ≤ e ∧ G.place id e = some (B, p, pc) ∧ o + (e - off) * sz = p ∧ o + cap * sz ≤ pc) (hcap : es.length ≤ cap) :
      V G (.sd id sz off es) (.pointer (some ⟨B, o, none⟩))
  | nilm : V G .nilm (.map none)
  | mp {b B s : Nat} (h : G.ρ b = some (B, s)) : V G (.mp b) (.map (some B))
  | fn {f : Fn} {a b : List DV} {x y : List Value} (ha : a.length = x.length) (hb : b.length = y.length)
      (hx : ∀ (i : Nat) (d : DV) (v : Value), a[i]? = some d → x[i]? = some v → V G d v) (hy : ∀ (i : Nat) (d : DV) (v : Value), b[i]? = some d → y[i]? = some v → V G d v) :
      V G (.fn f a b) (.func f x.toArray y.toArray)
  | nilf : V G .nilf .nilFunc
  | nili : V G .nili .nilIface
  | ifc {t : TypeId} {v : DV} {v' : Value} (h : V G v v') : V G (.ifc t v) (.iface t v')
  | agg {cs : List DV} {vs : List Value} (hl : cs.length = vs.length) (hv : ∀ (i : Nat) (d : DV) (v : Value), cs[i]? = some d → vs[i]? = some v → V G d v) : V G (.agg cs) (.agg vs.toArray)
  | tup {cs : List DV} {vs : List Value} (hl : cs.length = vs.length) (hv : ∀ (i : Nat) (d : DV) (v : Value), cs[i]? = some d → vs[i]? = some v → V G d v) : V G (.tup cs) (.tuple vs.toArray)

theorem V.mono {G G' : Ghost} (h : G.le G') {d : DV} {v : Value} (hv : V G d v) : V G' d v := by
  induction hv with
  | bool b => exact .bool b
  | int k n => exact .int k n
  | flt k n => exact .flt k n
  | str s => exact .str s
  | nilp => exact .nilp
  | ptr h1 => exact .ptr (h.ρ _ _ h1)
  | ip hl hi _ ih => exact .ip hl (fun i v e => h.im _ _ _ (hi i v e)) ih
  | nils => exact .nils
  | sl hsz he ho hl hi _ hn hcap hp ih =>
    exact .sl hsz he ho hl (fun i v e => h.im _ _ _ (hi i v e)) ih hn hcap (hp.imp id fun x => x.imp id fun ⟨e, p, pc, a, b, c, d⟩ => ⟨e, p, pc, a, h.place _ _ _ b, c, d⟩)
  | hs h1 hcap hp => exact .hs (h.ρ _ _ h1) hcap (hp.imp id fun ⟨a, p, pc, b, c⟩ => ⟨a, p, pc, h.place _ _ _ b, c⟩)
  | sd hne hsz he hl hi _ hp hcap ih =>
    exact .sd hne hsz he hl (fun i v e => h.im _ _ _ (hi i v e)) ih (hp.imp id fun ⟨e, p, pc, a, b, c, d⟩ => ⟨e, p, pc, a, h.place _ _ _ b, c, d⟩) hcap
  | nilm => exact .nilm
  | mp h1 => exact .mp (h.ρ _ _ h1)
  | fn ha hb _ _ ih1 ih2 => exact .fn ha hb ih1 ih2
  | nilf => exact .nilf
  | nili => exact .nili
  | ifc _ ih => exact .ifc ih
  | agg hl _ ih => exact .agg hl ih
  | tup hl _ ih => exact .tup hl ih

/-- Row by row. -/
def VL (G : Ghost) (ds : List DV) (vs : List Value) : Prop := ds.length = vs.length ∧ ∀ (i : Nat) (d : DV) (v : Value), ds[i]? = some d → vs[i]? = some v → V G d v

theorem VL.mono {G G' : Ghost} (h : G.le G') {d : List DV} {v : List Value} (hv : VL G d v) : VL G' d v := ⟨hv.1, fun i a b x y => (hv.2 i a b x y).mono h⟩
theorem VL.nil (G : Ghost) : VL G [] [] := ⟨rfl, fun i d v h => by simp at h⟩
theorem VL.cons {G : Ghost} {d : DV} {v : Value} {ds : List DV} {vs : List Value} (h : V G d v) (t : VL G ds vs) : VL G (d :: ds) (v :: vs) :=
  ⟨by simp [t.1], fun i a b x y => by
    cases i with
    | zero => simp at x y; subst x; subst y; exact h
    | succ i => simp at x y; exact t.2 i a b x y⟩
theorem VL.cons_inv {G : Ghost} {d : DV} {ds : List DV} {vs : List Value} (h : VL G (d :: ds) vs) : ∃ v vs', vs = v :: vs' ∧ V G d v ∧ VL G ds vs' := by
  cases vs with
  | nil => have := h.1; simp at this
  | cons v vs' => exact ⟨v, vs', rfl, h.2 0 d v rfl rfl, ⟨by have := h.1; simpa using this, fun i a b x y => h.2 (i + 1) a b (by simpa using x) (by simpa using y)⟩⟩
theorem VL.nil_inv {G : Ghost} {vs : List Value} (h : VL G [] vs) : vs = [] := by
  have := h.1; simp at this; exact List.eq_nil_of_length_eq_zero this.symm
theorem VL.append {G : Ghost} {a b : List DV} {x y : List Value} (h : VL G a x) (k : VL G b y) : VL G (a ++ b) (x ++ y) := by
  induction a generalizing x with
  | nil => rw [h.nil_inv]; exact k
  | cons d ds ih => obtain ⟨v, vs', rfl, h1, h2⟩ := h.cons_inv; exact .cons h1 (ih h2)
theorem VL.drop {G : Ghost} {a : List DV} {x : List Value} (h : VL G a x) (n : Nat) : VL G (a.drop n) (x.drop n) :=
  ⟨by simp [h.1], fun i d v e1 e2 => h.2 (n + i) d v (by simpa using e1) (by simpa using e2)⟩
theorem VL.take {G : Ghost} {a : List DV} {x : List Value} (h : VL G a x) (n : Nat) : VL G (a.take n) (x.take n) :=
  ⟨by simp [h.1], fun i d v e1 e2 => by
    rw [List.getElem?_take] at e1 e2
    split at e1
    · rename_i hi; rw [if_pos hi] at e2; exact h.2 i d v e1 e2
    · cases e1⟩
theorem VL.get {G : Ghost} {a : List DV} {x : List Value} (h : VL G a x) {i : Nat} {d : DV} (hi : a[i]? = some d) : ∃ v, x[i]? = some v ∧ V G d v := by
  have hlt : i < a.length := (List.getElem?_eq_some_iff.1 hi).1
  have hlt' : i < x.length := by rw [← h.1]; exact hlt
  exact ⟨x[i], List.getElem?_eq_getElem hlt', h.2 i d _ hi (List.getElem?_eq_getElem hlt')⟩
theorem VL.head {G : Ghost} {a : List DV} {x : List Value} (h : VL G a x) {d : DV} (hi : a.head? = some d) : ∃ v, x[0]? = some v ∧ V G d v :=
  h.get (by rw [← List.head?_eq_getElem?]; exact hi)

/-- A value's cells. -/
theorem V.cells {G : Ghost} {d : DV} {v : Value} (h : V G d v) : VL G d.cells v.cells.toList := by
  cases h with
  | agg hl hv => exact ⟨by simpa [DV.cells, Value.cells] using hl, fun i a b x y => hv i a b (by simpa [DV.cells] using x) (by simpa [Value.cells] using y)⟩
  | _ => exact .cons (by constructor <;> assumption) (.nil _)

theorem V.one {G : Ghost} {d : DV} {v : Value} (h : V G d v) (ho : d.one = true) : v.oneCell' = true := by
  cases h <;> first | rfl | simp [DV.one] at ho
theorem V.oneCells {G : Ghost} {d : DV} {v : Value} (h : V G d v) (ho : d.one = true) : v.cells.toList = [v] := by
  cases h <;> first | rfl | simp [DV.one] at ho

theorem VL.ones {G : Ghost} {ds : List DV} {vs : List Value} (h : VL G ds vs) (ho : ds.all DV.one = true) : ∀ v ∈ vs, v.oneCell' = true := by
  induction ds generalizing vs with
  | nil => rw [h.nil_inv]; simp
  | cons d ds ih =>
    obtain ⟨v, vs', rfl, h1, h2⟩ := h.cons_inv
    simp at ho
    intro u hu
    cases hu with
    | head => exact h1.one ho.1
    | tail _ hu => exact ih h2 (by simpa using ho.2) u hu

/-- The block of the machine's memory that an object of the evaluator's owns. -/
def ownR (G : Ghost) (H : DH) (b : Nat) : Option Nat :=
  match H.m b with
  | some (.tip _ n _) => (G.place b n).map (·.1)
  | some _ => (G.ρ b).map (·.1)
  | none => none

structure Rel (G : Ghost) (H : DH) (w : World) : Prop where
  wf : ∀ b, H.next ≤ b → H.m b = none ∧ G.ρ b = none ∧ ∀ e, G.place b e = none
  im : ∀ B o v, G.im B o = some v → ∃ c T fr, w.heap[B]? = some (.cells c T fr) ∧ c[o]? = some v
  cells : ∀ b T cs, H.m b = some (.cells T cs) → ∀ B s, G.ρ b = some (B, s) →
    (∃ pre vs post T' fr, w.heap[B]? = some (.cells (pre ++ vs ++ post).toArray T' fr) ∧ pre.length = s ∧ VL G cs vs ∧ (∀ o, s ≤ o → o < s + cs.length → ¬ (fr.1 ≤ o ∧ o < fr.2)) ∧ post = [] ∧ pre = [] ∧ T' = T) ∧ ∀ o, G.im B o = none
  rows : ∀ b T cs, H.m b = some (.row T cs) → ∀ B s, G.ρ b = some (B, s) →
    (∃ p pc c fr vs, G.place b 0 = some (B, p, pc) ∧ w.heap[B]? = some (.cells c T fr) ∧ s + cs.length ≤ pc ∧ pc ≤ c.size ∧ VL G cs vs ∧ (∀ (i : Nat) (v : Value), vs[i]? = some v → c[s + i]? = some v) ∧ (∀ o, s ≤ o → o < pc → ¬ (fr.1 ≤ o ∧ o < fr.2))) ∧ ∀ o, G.im B o = none
  tips : ∀ b T n cl, H.m b = some (.tip T n cl) → (∀ e, G.place b e ≠ none → e ≤ n) ∧ ∀ B p pc, G.place b n = some (B, p, pc) →
    (∃ c T' fr, w.heap[B]? = some (.cells c T' fr) ∧ pc ≤ c.size ∧ p ≤ pc ∧ (∀ o, p ≤ o → o < pc → ¬ (fr.1 ≤ o ∧ o < fr.2)) ∧ T' = T ∧ (cl = true → fr.2 ≤ p)) ∧ ∀ o, p ≤ o → G.im B o = none
  iters : ∀ b s pos, H.m b = some (.iter s pos) → ∀ B x, G.ρ b = some (B, x) → x = 0 ∧ w.heap[B]? = some (.stringIter ⟨s.toArray⟩ pos) ∧ ∀ o, G.im B o = none
  maps : ∀ b es, H.m b = some (.map es) → ∀ B x, G.ρ b = some (B, x) → x = 0 ∧ (∃ ms clk, w.heap[B]? = some (.map ms clk) ∧ VL G (es.map (·.1)) (ms.toList.map (·.key)) ∧ VL G (es.map (·.2)) (ms.toList.map (·.val))) ∧ ∀ o, G.im B o = none
  inj : ∀ b b' B, ownR G H b = some B → ownR G H b' = some B → b = b'
  z : 0 < H.next ∧ H.m 0 = none

theorem Rel.own_lt {G : Ghost} {H : DH} {w : World} (r : Rel G H w) {b B : Nat} (h : ownR G H b = some B) : B < w.heap.size := by
  have lt : ∀ {o : Obj}, w.heap[B]? = some o → B < w.heap.size := fun h => (Array.getElem?_eq_some_iff.1 h).1
  unfold ownR at h
  cases hm : H.m b with
  | none => simp [hm] at h
  | some o =>
    cases o with
    | cells T cs =>
      simp only [hm, Option.map_eq_some_iff] at h
      obtain ⟨⟨B', s⟩, hp, rfl⟩ := h
      obtain ⟨⟨_, _, _, _, _, h, _⟩, _⟩ := r.cells b T cs hm _ _ hp
      exact lt h
    | row T cs =>
      simp only [hm, Option.map_eq_some_iff] at h
      obtain ⟨⟨B', s⟩, hp, rfl⟩ := h
      obtain ⟨⟨_, _, _, _, _, _, h, _⟩, _⟩ := r.rows b T cs hm _ _ hp
      exact lt h
    | tip T n cl =>
      simp only [hm, Option.map_eq_some_iff] at h
      obtain ⟨⟨B', p, pc⟩, hp, rfl⟩ := h
      obtain ⟨⟨_, _, _, h, _⟩, _⟩ := (r.tips b T n cl hm).2 _ _ _ hp
      exact lt h
    | iter s pos =>
      simp only [hm, Option.map_eq_some_iff] at h
      obtain ⟨⟨B', s'⟩, hp, rfl⟩ := h
      exact lt (r.iters b s pos hm _ _ hp).2.1
    | map es =>
      simp only [hm, Option.map_eq_some_iff] at h
      obtain ⟨⟨B', s'⟩, hp, rfl⟩ := h
      obtain ⟨_, ⟨ms, clk, h, _⟩, _⟩ := r.maps b es hm _ _ hp
      exact lt h

/-- The heap alone counts; and blocks that the ghost does not know may come. -/
theorem Rel.heap {G : Ghost} {H : DH} {w w' : World} (r : Rel G H w) (h : ∀ B, B < w.heap.size → w'.heap[B]? = w.heap[B]?) : Rel G H w' := by
  have k : ∀ {B : Nat} {o : Obj}, w.heap[B]? = some o → w'.heap[B]? = some o := fun e => (h _ (Array.getElem?_eq_some_iff.1 e).1).trans e
  refine ⟨r.wf, ?_, ?_, ?_, ?_, ?_, ?_, r.inj, r.z⟩
  · intro B o v e
    obtain ⟨c, T, fr, h1, h2⟩ := r.im B o v e
    exact ⟨c, T, fr, k h1, h2⟩
  · intro b T cs hm B s hp
    obtain ⟨⟨pre, vs, post, T', fr, h1, h2⟩, h3⟩ := r.cells b T cs hm B s hp
    exact ⟨⟨pre, vs, post, T', fr, k h1, h2⟩, h3⟩
  · intro b T cs hm B s hp
    obtain ⟨⟨p, pc, c, fr, vs, h0, h1, h2⟩, h3⟩ := r.rows b T cs hm B s hp
    exact ⟨⟨p, pc, c, fr, vs, h0, k h1, h2⟩, h3⟩
  · intro b T n cl hm
    obtain ⟨h0, h9⟩ := r.tips b T n cl hm
    refine ⟨h0, fun B p pc hp => ?_⟩
    obtain ⟨⟨c, T', fr, h1, h2⟩, h3⟩ := h9 B p pc hp
    exact ⟨⟨c, T', fr, k h1, h2⟩, h3⟩
  · intro b s pos hm B x hp
    obtain ⟨h1, h2, h3⟩ := r.iters b s pos hm B x hp
    exact ⟨h1, k h2, h3⟩
  · intro b es hm B x hp
    obtain ⟨h1, ⟨ms, clk, h2, h3⟩, h4⟩ := r.maps b es hm B x hp
    exact ⟨h1, ⟨ms, clk, k h2, h3⟩, h4⟩

structure Step (G : Ghost) (H : DH) (w : World) (G' : Ghost) (H' : DH) (w' : World) : Prop where
  le : G.le G'
  rel : Rel G' H' w'
  os : w'.os = w.os
  tape : w'.tape = w.tape
  output : w'.output = w.output
  size : w.heap.size ≤ w'.heap.size
  blk : ∀ B, B < w.heap.size → (∀ b, ownR G H b ≠ some B) → w'.heap[B]? = w.heap[B]?
  own : ∀ b B, ownR G' H' b = some B → (∃ b', ownR G H b' = some B) ∨ w.heap.size ≤ B

theorem Step.refl {G : Ghost} {H : DH} {w : World} (r : Rel G H w) : Step G H w G H w :=
  ⟨.refl G, r, rfl, rfl, rfl, Nat.le_refl _, fun _ _ _ => rfl, fun b B h => .inl ⟨b, h⟩⟩
theorem Step.trans {G1 G2 G3 : Ghost} {H1 H2 H3 : DH} {w1 w2 w3 : World} (a : Step G1 H1 w1 G2 H2 w2) (b : Step G2 H2 w2 G3 H3 w3) : Step G1 H1 w1 G3 H3 w3 := by
  refine ⟨a.le.trans b.le, b.rel, b.os.trans a.os, b.tape.trans a.tape, b.output.trans a.output, Nat.le_trans a.size b.size, ?_, ?_⟩
  · intro B hB hn
    refine (b.blk B (Nat.lt_of_lt_of_le hB a.size) fun x hx => ?_).trans (a.blk B hB hn)
    rcases a.own x B hx with ⟨b', h⟩ | h
    · exact hn b' h
    · omega
  · intro x B hx
    rcases b.own x B hx with ⟨b', h⟩ | h
    · exact a.own b' B h
    · right; have := a.size; omega

/-- The world may draw, and blocks may come that nobody owns. -/
theorem Step.of_heap {G : Ghost} {H : DH} {w w' : World} (r : Rel G H w) (hs : w.heap.size ≤ w'.heap.size) (h : ∀ B, B < w.heap.size → w'.heap[B]? = w.heap[B]?)
    (os : w'.os = w.os) (tape : w'.tape = w.tape) (output : w'.output = w.output) : Step G H w G H w' :=
  ⟨.refl G, r.heap h, os, tape, output, hs, fun B hB _ => h B hB, fun b B hb => .inl ⟨b, hb⟩⟩

theorem Step.drew {G : Ghost} {H : DH} {w : World} (r : Rel G H w) : Step G H w G H w.drew := .of_heap r (Nat.le_refl _) (fun _ _ => rfl) rfl rfl rfl
theorem Step.alloc {G : Ghost} {H : DH} {w : World} (r : Rel G H w) (o : Obj) : Step G H w G H (w.alloc o) :=
  .of_heap r (by simp) (fun B hB => heap_alloc_old w o B hB) rfl rfl rfl

@[simp] theorem ownR_new {G : Ghost} {H : DH} {o : DObj} {b : Nat} (h : b ≠ H.next) : ownR G (H.new o) b = ownR G H b := by simp [ownR, DH.new, h]

/-- A new object with a block of its own: its ghost place is put in. -/
theorem Step.newBlock {G : Ghost} {H : DH} {w : World} (r : Rel G H w) (o : Obj) (d : DObj) (x : Nat)
    (hd : ∀ T n cl, d ≠ .tip T n cl) (hd2 : ∀ T cs, d ≠ .row T cs)
    (hcells : ∀ T cs, d = .cells T cs → ∃ pre vs post T' fr, o = .cells (pre ++ vs ++ post).toArray T' fr ∧ pre.length = x ∧ VL G cs vs ∧ (∀ o, x ≤ o → o < x + cs.length → ¬ (fr.1 ≤ o ∧ o < fr.2)) ∧ post = [] ∧ pre = [] ∧ T' = T)
    (hiter : ∀ s pos, d = .iter s pos → x = 0 ∧ o = .stringIter ⟨s.toArray⟩ pos)
    (hmap : ∀ es, d = .map es → x = 0 ∧ ∃ ms clk, o = .map ms clk ∧ VL G (es.map (·.1)) (ms.toList.map (·.key)) ∧ VL G (es.map (·.2)) (ms.toList.map (·.val))) :
    Step G H w { G with ρ := fun b => if b = H.next then some (w.heap.size, x) else G.ρ b } (H.new d) (w.alloc o) ∧
      ({ G with ρ := fun b => if b = H.next then some (w.heap.size, x) else G.ρ b } : Ghost).ρ H.next = some (w.heap.size, x) := by
  refine ⟨?_, by simp⟩
  have hle : G.le { G with ρ := fun b => if b = H.next then some (w.heap.size, x) else G.ρ b } := by
    refine ⟨fun _ _ _ h => h, fun b y h => ?_, fun _ _ _ h => h⟩
    show (if b = H.next then some (w.heap.size, x) else G.ρ b) = some y
    rw [if_neg]
    · exact h
    · intro e; subst e; rw [(r.wf H.next (Nat.le_refl _)).2.1] at h; cases h
  have hnew : (w.alloc o).heap[w.heap.size]? = some o := heap_alloc_new w o
  have hold : ∀ B, B < w.heap.size → (w.alloc o).heap[B]? = w.heap[B]? := fun B hB => heap_alloc_old w o B hB
  have kk : ∀ {B : Nat} {o' : Obj}, w.heap[B]? = some o' → (w.alloc o).heap[B]? = some o' := fun e => (hold _ (Array.getElem?_eq_some_iff.1 e).1).trans e
  have himnone : ∀ q, G.im w.heap.size q = none := by
    intro q
    cases hq : G.im w.heap.size q with
    | none => rfl
    | some v =>
      obtain ⟨c, T, fr, h1, _⟩ := r.im _ _ _ hq
      have := (Array.getElem?_eq_some_iff.1 h1).1
      omega
  have hownNew : ∀ b, b ≠ H.next → ownR { G with ρ := fun b => if b = H.next then some (w.heap.size, x) else G.ρ b } (H.new d) b = ownR G H b := by
    intro b hb
    simp [ownR, DH.new, hb]
  have hownAt : ownR { G with ρ := fun b => if b = H.next then some (w.heap.size, x) else G.ρ b } (H.new d) H.next = some w.heap.size := by
    cases d <;> simp [ownR, DH.new]
    exact absurd rfl (hd _ _ _)
  refine ⟨hle, ⟨?_, ?_, ?_, ?_, ?_, ?_, ?_, ?_, by have := r.z; refine ⟨Nat.succ_pos _, ?_⟩; show (if 0 = H.next then _ else _) = _; rw [if_neg (by omega)]; exact this.2⟩, rfl, rfl, rfl, by simp, fun B hB _ => hold B hB, ?_⟩
  · intro b hb
    have hb' : H.next + 1 ≤ b := hb
    have := r.wf b (by omega)
    have hne : b ≠ H.next := by omega
    simpa [DH.new, hne] using this
  · intro B q v h
    obtain ⟨c, T, fr, h1, h2⟩ := r.im B q v h
    exact ⟨c, T, fr, kk h1, h2⟩
  · intro b T cs hm B s hp
    by_cases hb : b = H.next
    · subst hb
      simp [DH.new] at hm
      simp at hp
      obtain ⟨rfl, rfl⟩ := hp
      obtain ⟨pre, vs, post, T', fr, rfl, h1, h2, h3⟩ := hcells T cs hm
      exact ⟨⟨pre, vs, post, T', fr, hnew, h1, h2.mono hle, h3⟩, himnone⟩
    · simp [DH.new, hb] at hm hp
      obtain ⟨⟨pre, vs, post, T', fr, h1, h2, h3, h4⟩, h5⟩ := r.cells b T cs hm B s hp
      exact ⟨⟨pre, vs, post, T', fr, kk h1, h2, h3.mono hle, h4⟩, h5⟩
  · intro b T cs hm B s hp
    by_cases hb : b = H.next
    · subst hb
      simp [DH.new] at hm
      exact absurd hm (hd2 T cs)
    · simp [DH.new, hb] at hm hp
      obtain ⟨⟨p, pc, c, fr, vs, h0, h1, h2, h3, h4, h5⟩, h6⟩ := r.rows b T cs hm B s hp
      exact ⟨⟨p, pc, c, fr, vs, h0, kk h1, h2, h3, h4.mono hle, h5⟩, h6⟩
  · intro b T n cl hm
    by_cases hb : b = H.next
    · subst hb
      simp [DH.new] at hm
      exact absurd hm (hd T n cl)
    · simp [DH.new, hb] at hm
      obtain ⟨h0, h9⟩ := r.tips b T n cl hm
      refine ⟨h0, fun B p pc hp => ?_⟩
      obtain ⟨⟨c, T', fr, h1, h2⟩, h3⟩ := h9 B p pc hp
      exact ⟨⟨c, T', fr, kk h1, h2⟩, h3⟩
  · intro b s pos hm B y hp
    by_cases hb : b = H.next
    · subst hb
      simp [DH.new] at hm
      simp at hp
      obtain ⟨rfl, rfl⟩ := hp
      obtain ⟨h1, rfl⟩ := hiter s pos hm
      exact ⟨h1, hnew, himnone⟩
    · simp [DH.new, hb] at hm hp
      obtain ⟨h1, h2, h3⟩ := r.iters b s pos hm B y hp
      exact ⟨h1, kk h2, h3⟩
  · intro b es hm B y hp
    by_cases hb : b = H.next
    · subst hb
      simp [DH.new] at hm
      simp at hp
      obtain ⟨rfl, rfl⟩ := hp
      obtain ⟨h1, ms, clk, rfl, h2, h3⟩ := hmap es hm
      exact ⟨h1, ⟨ms, clk, hnew, h2.mono hle, h3.mono hle⟩, himnone⟩
    · simp [DH.new, hb] at hm hp
      obtain ⟨h1, ⟨ms, clk, h2, h3, h3'⟩, h4⟩ := r.maps b es hm B y hp
      exact ⟨h1, ⟨ms, clk, kk h2, h3.mono hle, h3'.mono hle⟩, h4⟩
  · intro b b' B h h'
    by_cases hb : b = H.next
    · subst hb
      rw [hownAt] at h
      obtain rfl := Option.some.inj h
      by_cases hb' : b' = H.next
      · exact hb'.symm
      · rw [hownNew b' hb'] at h'
        have := r.own_lt h'
        omega
    · rw [hownNew b hb] at h
      by_cases hb' : b' = H.next
      · subst hb'
        rw [hownAt] at h'
        obtain rfl := Option.some.inj h'
        have := r.own_lt h
        omega
      · rw [hownNew b' hb'] at h'
        exact r.inj b b' B h h'
  · intro b B h
    by_cases hb : b = H.next
    · subst hb
      rw [hownAt] at h
      obtain rfl := Option.some.inj h
      exact .inr (Nat.le_refl _)
    · rw [hownNew b hb] at h
      exact .inl ⟨b, h⟩
end Go.Proofs.YtcknfhhbijlobaaDoor.D
