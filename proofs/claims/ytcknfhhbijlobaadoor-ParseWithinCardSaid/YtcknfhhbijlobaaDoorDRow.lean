/- D: slices that are appended to, and stores: what they do to the machine's memory. -/
import Derived.Test.YtcknfhhbijlobaaDoorDRel
namespace Go.Proofs.YtcknfhhbijlobaaDoor.D
open Go
set_option linter.unusedVariables false

theorem flat_append (a b : List DV) : flat (a ++ b) = flat a ++ flat b := by
  induction a with
  | nil => rfl
  | cons x a ih => simp [flat, ih]
theorem flat_length {sz : Nat} {es : List DV} (h : ∀ e ∈ es, e.cells.length = sz) : (flat es).length = es.length * sz := by
  induction es with
  | nil => simp [flat]
  | cons e es ih =>
    simp only [flat, List.length_append, List.length_cons]
    rw [h e (by simp), ih fun x hx => h x (by simp [hx]), Nat.add_mul]
    omega

theorem Rel.imCell {G : Ghost} {H : DH} {w : World} (r : Rel G H w) {B o : Nat} {v : Value} (h : G.im B o = some v) : w.cell? ⟨B, o, none⟩ = some v := by
  obtain ⟨c, T, fr, h1, h2⟩ := r.im B o v h
  simp [World.cell?, h1, h2]

theorem Rel.im_lt {G : Ghost} {H : DH} {w : World} (r : Rel G H w) {B o : Nat} {v : Value} (h : G.im B o = some v) : B < w.heap.size := by
  obtain ⟨c, T, fr, h1, h2⟩ := r.im B o v h
  exact (Array.getElem?_eq_some_iff.1 h1).1

theorem Step.newSlice {G : Ghost} {H : DH} {w : World} (r : Rel G H w) {sz : Nat} {es : List DV} {vs post : List Value} {cap : Nat} {T' : TypeId} {cl : Bool} {fr : Nat × Nat}
    (hsz : 0 < sz) (he : ∀ e ∈ es, e.cells.length = sz) (hone : (flat es).all DV.one = true) (hv : VL G (flat es) vs) (hc : (vs ++ post).length = cap * sz) (hfr : ∀ o, vs.length ≤ o → o < cap * sz → ¬ (fr.1 ≤ o ∧ o < fr.2)) (hcl : cl = true → fr.2 ≤ vs.length) :
    ∃ G', Step G H w G' (newSl H T' cl sz es).2 (w.alloc (.cells (vs ++ post).toArray T' fr)) ∧ V G' (newSl H T' cl sz es).1 (.slice (some ⟨w.heap.size, 0, none⟩) es.length cap) := by
  have hlen : vs.length = es.length * sz := by rw [← hv.1, flat_length he]
  have hncap : es.length ≤ cap := by
    have : es.length * sz ≤ cap * sz := by rw [← hlen, ← hc]; simp
    exact Nat.le_of_mul_le_mul_right this hsz
  generalize ho : (Obj.cells (vs ++ post).toArray T' fr) = o
  have hnew : (w.alloc o).heap[w.heap.size]? = some o := heap_alloc_new w o
  have hold : ∀ B, B < w.heap.size → (w.alloc o).heap[B]? = w.heap[B]? := fun B hB => heap_alloc_old w o B hB
  have kk : ∀ {B : Nat} {o' : Obj}, w.heap[B]? = some o' → (w.alloc o).heap[B]? = some o' := fun e => (hold _ (Array.getElem?_eq_some_iff.1 e).1).trans e
  have hnx := r.wf H.next (Nat.le_refl _)
  let G' : Ghost := { im := fun B o => if B = w.heap.size then vs[o]? else G.im B o, ρ := G.ρ, place := fun b e => if b = H.next ∧ e = es.length then some (w.heap.size, vs.length, cap * sz) else G.place b e }
  have hle : G.le G' := by
    refine ⟨fun B q v h => ?_, fun _ _ h => h, fun b e x h => ?_⟩
    · show (if B = w.heap.size then vs[q]? else G.im B q) = some v
      rw [if_neg (by have := r.im_lt h; omega)]; exact h
    · show (if b = H.next ∧ e = es.length then _ else G.place b e) = some x
      rw [if_neg]
      · exact h
      · rintro ⟨rfl, _⟩; rw [hnx.2.2 e] at h; cases h
  have himold : ∀ B, B < w.heap.size → ∀ q, G'.im B q = G.im B q := fun B hB q => if_neg (by omega)
  have hownNew : ∀ b, b ≠ H.next → ownR G' (H.new (.tip T' es.length cl)) b = ownR G H b := by
    intro b hb
    simp [ownR, DH.new, hb, G']
  have hownAt : ownR G' (H.new (.tip T' es.length cl)) H.next = some w.heap.size := by simp [ownR, DH.new, G']
  refine ⟨G', ⟨hle, ⟨?_, ?_, ?_, ?_, ?_, ?_, ?_, ?_, by have := r.z; refine ⟨Nat.succ_pos _, ?_⟩; show (if 0 = H.next then _ else _) = _; rw [if_neg (by omega)]; exact this.2⟩, rfl, rfl, rfl, by simp, fun B hB _ => hold B hB, ?_⟩, ?_⟩
  · intro b hb
    have hb' : H.next + 1 ≤ b := hb
    have := r.wf b (by omega)
    have hne : b ≠ H.next := by omega
    simpa [newSl, DH.new, hne, G'] using this
  · intro B q v h
    by_cases hB : B = w.heap.size
    · subst hB
      have hq : vs[q]? = some v := by simpa [G'] using h
      refine ⟨_, T', fr, by rw [hnew, ← ho], ?_⟩
      simp only [List.getElem?_toArray]
      rw [List.getElem?_append_left (List.getElem?_eq_some_iff.1 hq).1]
      exact hq
    · have h' : G.im B q = some v := by simpa [G', hB] using h
      obtain ⟨c, T, fr, h1, h2⟩ := r.im B q v h'
      exact ⟨c, T, fr, kk h1, h2⟩
  · intro b T cs hm B s hp
    by_cases hb : b = H.next
    · subst hb; simp [newSl, DH.new] at hm
    · simp [newSl, DH.new, hb] at hm
      have hp' : G.ρ b = some (B, s) := hp
      obtain ⟨⟨pre, vs', post', T'', fr', h1, h2, h3, h4⟩, h5⟩ := r.cells b T cs hm B s hp'
      exact ⟨⟨pre, vs', post', T'', fr', kk h1, h2, h3.mono hle, h4⟩, fun q => by rw [himold B (Array.getElem?_eq_some_iff.1 h1).1]; exact h5 q⟩
  · intro b T cs hm B s hp
    by_cases hb : b = H.next
    · subst hb; simp [newSl, DH.new] at hm
    · simp [newSl, DH.new, hb] at hm
      have hp' : G.ρ b = some (B, s) := hp
      obtain ⟨⟨p, pc, c, fr, vs', h0, h1, h2, h3, h4, h5⟩, h6⟩ := r.rows b T cs hm B s hp'
      exact ⟨⟨p, pc, c, fr, vs', by simpa [G', hb] using h0, kk h1, h2, h3, h4.mono hle, h5⟩, fun q => by rw [himold B (Array.getElem?_eq_some_iff.1 h1).1]; exact h6 q⟩
  · intro b T n cl' hm
    by_cases hb : b = H.next
    · subst hb
      simp [newSl, DH.new] at hm
      obtain ⟨rfl, rfl, rfl⟩ := hm
      refine ⟨fun e h => ?_, fun B p pc hp => ?_⟩
      · by_cases he' : e = es.length
        · omega
        · exfalso; apply h; simp [G', he', hnx.2.2 e]
      · have hp' : w.heap.size = B ∧ vs.length = p ∧ cap * sz = pc := by simpa [G'] using hp
        obtain ⟨rfl, rfl, rfl⟩ := hp'
        refine ⟨⟨_, T', fr, by rw [hnew, ← ho], by simp [← hc], by rw [← hc]; simp, hfr, rfl, hcl⟩, fun q hq => ?_⟩
        show (if w.heap.size = w.heap.size then vs[q]? else _) = none
        rw [if_pos rfl]
        exact List.getElem?_eq_none hq
    · simp [newSl, DH.new, hb] at hm
      obtain ⟨h0, h9⟩ := r.tips b T n cl' hm
      refine ⟨fun e h => h0 e (by simpa [G', hb] using h), fun B p pc hp => ?_⟩
      have hp' : G.place b n = some (B, p, pc) := by simpa [G', hb] using hp
      obtain ⟨⟨c, T', fr, h1, h2⟩, h3⟩ := h9 B p pc hp'
      exact ⟨⟨c, T', fr, kk h1, h2⟩, fun q hq => by rw [himold B (Array.getElem?_eq_some_iff.1 h1).1]; exact h3 q hq⟩
  · intro b s pos hm B y hp
    by_cases hb : b = H.next
    · subst hb; simp [newSl, DH.new] at hm
    · simp [newSl, DH.new, hb] at hm
      obtain ⟨h1, h2, h3⟩ := r.iters b s pos hm B y hp
      exact ⟨h1, kk h2, fun q => by rw [himold B (Array.getElem?_eq_some_iff.1 h2).1]; exact h3 q⟩
  · intro b es' hm B y hp
    by_cases hb : b = H.next
    · subst hb; simp [newSl, DH.new] at hm
    · simp [newSl, DH.new, hb] at hm
      obtain ⟨h1, ⟨ms, clk, h2, h3, h3'⟩, h4⟩ := r.maps b es' hm B y hp
      exact ⟨h1, ⟨ms, clk, kk h2, h3.mono hle, h3'.mono hle⟩, fun q => by rw [himold B (Array.getElem?_eq_some_iff.1 h2).1]; exact h4 q⟩
  · intro b b' B h h'
    simp only [newSl] at h h'
    by_cases hb : b = H.next
    · subst hb
      rw [hownAt] at h
      obtain rfl := Option.some.inj h
      by_cases hb' : b' = H.next
      · exact hb'.symm
      · rw [hownNew b' hb'] at h'
        have := r.own_lt h'
        omega
    · rw [hownNew b hb] at h
      by_cases hb' : b' = H.next
      · subst hb'
        rw [hownAt] at h'
        obtain rfl := Option.some.inj h'
        have := r.own_lt h
        omega
      · rw [hownNew b' hb'] at h'
        exact r.inj b b' B h h'
  · intro b B h
    simp only [newSl] at h
    by_cases hb : b = H.next
    · subst hb
      rw [hownAt] at h
      obtain rfl := Option.some.inj h
      exact .inr (Nat.le_refl _)
    · rw [hownNew b hb] at h
      exact .inl ⟨b, h⟩
  · refine V.sl (vs := vs) (B := w.heap.size) (o := 0) hsz he hone hv.1 (fun i v h => ?_) (fun i d v a b => (hv.2 i d v a b).mono hle) rfl hncap (.inr (.inr ⟨es.length, vs.length, cap * sz, by omega, ?_, ?_, by omega⟩))
    · show (if w.heap.size = w.heap.size then vs[0 + i]? else _) = some v
      rw [if_pos rfl, Nat.zero_add]; exact h
    · show (if _ then _ else _) = _
      rw [if_pos ⟨rfl, rfl⟩]
    · rw [hlen]; simp

/-- The heap with one block put in another's stead. -/
def putBlk (w : World) (B : Nat) (o : Obj) : World := { w with heap := w.heap.setIfInBounds B o }
theorem putBlk_at {w : World} {B : Nat} {o o' : Obj} (h : w.heap[B]? = some o') : (putBlk w B o).heap[B]? = some o := by
  have := (Array.getElem?_eq_some_iff.1 h).1
  simp [putBlk, this]
theorem putBlk_ne {w : World} {B B' : Nat} {o : Obj} (h : B' ≠ B) : (putBlk w B o).heap[B']? = w.heap[B']? := by
  simp [putBlk, Array.getElem?_setIfInBounds_ne (Ne.symm h)]

/-- A block that an object owns is written; the object turns. -/
theorem Step.setBlk {G : Ghost} {H : DH} {w : World} (r : Rel G H w) (b0 B0 : Nat) (o : Obj) (d : DObj) (hown : ownR G H b0 = some B0) (hnt : ∀ T n cl, H.m b0 ≠ some (.tip T n cl)) (hd : ∀ T n cl, d ≠ .tip T n cl)
    (hcells : ∀ T cs, d = .cells T cs → ∀ s, G.ρ b0 = some (B0, s) → ∃ pre vs post T' fr, o = .cells (pre ++ vs ++ post).toArray T' fr ∧ pre.length = s ∧ VL G cs vs ∧ (∀ o, s ≤ o → o < s + cs.length → ¬ (fr.1 ≤ o ∧ o < fr.2)) ∧ post = [] ∧ pre = [] ∧ T' = T)
    (hrow : ∀ T cs, d = .row T cs → ∃ p pc c fr vs s, G.ρ b0 = some (B0, s) ∧ G.place b0 0 = some (B0, p, pc) ∧ o = .cells c T fr ∧ s + cs.length ≤ pc ∧ pc ≤ c.size ∧ VL G cs vs ∧ (∀ (i : Nat) (v : Value), vs[i]? = some v → c[s + i]? = some v) ∧ (∀ o, s ≤ o → o < pc → ¬ (fr.1 ≤ o ∧ o < fr.2)))
    (hiter : ∀ s pos, d = .iter s pos → ∀ x, G.ρ b0 = some (B0, x) → x = 0 ∧ o = .stringIter ⟨s.toArray⟩ pos)
    (hmap : ∀ es, d = .map es → ∀ x, G.ρ b0 = some (B0, x) → x = 0 ∧ ∃ ms clk, o = .map ms clk ∧ VL G (es.map (·.1)) (ms.toList.map (·.key)) ∧ VL G (es.map (·.2)) (ms.toList.map (·.val))) :
    Step G H w G (H.set b0 d) (putBlk w B0 o) := by
  have hlt := r.own_lt hown
  obtain ⟨o', ho'⟩ : ∃ o', w.heap[B0]? = some o' := ⟨_, Array.getElem?_eq_getElem hlt⟩
  have hat : (putBlk w B0 o).heap[B0]? = some o := putBlk_at ho'
  have hρ : ∃ s0, G.ρ b0 = some (B0, s0) ∧ ∀ q, G.im B0 q = none := by
    unfold ownR at hown
    cases hm : H.m b0 with
    | none => simp [hm] at hown
    | some ob =>
      cases ob with
      | tip T n cl => exact absurd hm (hnt T n cl)
      | cells T cs =>
        simp only [hm, Option.map_eq_some_iff] at hown
        obtain ⟨⟨B', s⟩, hp, rfl⟩ := hown
        exact ⟨s, hp, (r.cells b0 T cs hm _ _ hp).2⟩
      | row T cs =>
        simp only [hm, Option.map_eq_some_iff] at hown
        obtain ⟨⟨B', s⟩, hp, rfl⟩ := hown
        exact ⟨s, hp, (r.rows b0 T cs hm _ _ hp).2⟩
      | iter s pos =>
        simp only [hm, Option.map_eq_some_iff] at hown
        obtain ⟨⟨B', s'⟩, hp, rfl⟩ := hown
        exact ⟨s', hp, (r.iters b0 s pos hm _ _ hp).2.2⟩
      | map es =>
        simp only [hm, Option.map_eq_some_iff] at hown
        obtain ⟨⟨B', s'⟩, hp, rfl⟩ := hown
        exact ⟨s', hp, (r.maps b0 es hm _ _ hp).2.2⟩
  obtain ⟨s0, hp0, him0⟩ := hρ
  have hownEq : ∀ b, ownR G (H.set b0 d) b = ownR G H b := by
    intro b
    by_cases hb : b = b0
    · subst hb
      rw [hown]
      cases d <;> simp [ownR, DH.set, hp0]
      exact absurd rfl (hd _ _ _)
    · simp [ownR, DH.set, hb]
  have hne : ∀ b B, b ≠ b0 → ownR G H b = some B → B ≠ B0 := fun b B hb h e => hb (r.inj b b0 B0 (e ▸ h) hown)
  refine ⟨.refl G, ⟨?_, ?_, ?_, ?_, ?_, ?_, ?_, ?_, ⟨r.z.1, by show (if 0 = b0 then _ else _) = _; rw [if_neg]; exact r.z.2; rintro rfl; simp [ownR, r.z.2] at hown⟩⟩, rfl, rfl, rfl, by simp [putBlk], fun B hB hn => putBlk_ne fun e => hn b0 (e ▸ hown), fun b B h => .inl ⟨b, by rwa [hownEq] at h⟩⟩
  · intro b hb
    have hb' : H.next ≤ b := hb
    have := r.wf b hb'
    have hne : b ≠ b0 := by rintro rfl; rw [this.2.1] at hp0; cases hp0
    simpa [DH.set, hne] using this
  · intro B q v h
    have hB : B ≠ B0 := by rintro rfl; rw [him0 q] at h; cases h
    obtain ⟨c, T, fr, h1, h2⟩ := r.im B q v h
    exact ⟨c, T, fr, by rw [putBlk_ne hB]; exact h1, h2⟩
  · intro b T cs hm B s hp
    by_cases hb : b = b0
    · subst hb
      simp [DH.set] at hm
      rw [hp0] at hp
      obtain ⟨rfl, rfl⟩ : B0 = B ∧ s0 = s := by simpa using hp
      obtain ⟨pre, vs, post, T', fr, rfl, h1, h2, h3⟩ := hcells T cs hm s0 hp0
      exact ⟨⟨pre, vs, post, T', fr, hat, h1, h2, h3⟩, him0⟩
    · simp [DH.set, hb] at hm
      obtain ⟨⟨pre, vs, post, T', fr, h1, h2⟩, h3⟩ := r.cells b T cs hm B s hp
      exact ⟨⟨pre, vs, post, T', fr, by rw [putBlk_ne (hne b B hb (by simp [ownR, hm, hp]))]; exact h1, h2⟩, h3⟩
  · intro b T cs hm B s hp
    by_cases hb : b = b0
    · subst hb
      simp [DH.set] at hm
      rw [hp0] at hp
      obtain ⟨rfl, rfl⟩ : B0 = B ∧ s0 = s := by simpa using hp
      obtain ⟨p, pc, c, fr, vs, s', g0, g1, rfl, g2⟩ := hrow T cs hm
      rw [hp0] at g0
      obtain rfl : s0 = s' := by simpa using g0
      exact ⟨⟨p, pc, c, fr, vs, g1, hat, g2⟩, him0⟩
    · simp [DH.set, hb] at hm
      obtain ⟨⟨p, pc, c, fr, vs, h0, h1, h2⟩, h3⟩ := r.rows b T cs hm B s hp
      exact ⟨⟨p, pc, c, fr, vs, h0, by rw [putBlk_ne (hne b B hb (by simp [ownR, hm, hp]))]; exact h1, h2⟩, h3⟩
  · intro b T n cl hm
    by_cases hb : b = b0
    · subst hb
      simp [DH.set] at hm
      exact absurd hm (hd T n cl)
    · simp [DH.set, hb] at hm
      obtain ⟨h0, h9⟩ := r.tips b T n cl hm
      refine ⟨h0, fun B p pc hp => ?_⟩
      obtain ⟨⟨c, T', fr, h1, h2⟩, h3⟩ := h9 B p pc hp
      exact ⟨⟨c, T', fr, by rw [putBlk_ne (hne b B hb (by simp [ownR, hm, hp]))]; exact h1, h2⟩, h3⟩
  · intro b s pos hm B x hp
    by_cases hb : b = b0
    · subst hb
      simp [DH.set] at hm
      rw [hp0] at hp
      obtain ⟨rfl, rfl⟩ : B0 = B ∧ s0 = x := by simpa using hp
      obtain ⟨h1, rfl⟩ := hiter s pos hm s0 hp0
      exact ⟨h1, hat, him0⟩
    · simp [DH.set, hb] at hm
      obtain ⟨h1, h2, h3⟩ := r.iters b s pos hm B x hp
      exact ⟨h1, by rw [putBlk_ne (hne b B hb (by simp [ownR, hm, hp]))]; exact h2, h3⟩
  · intro b es hm B x hp
    by_cases hb : b = b0
    · subst hb
      simp [DH.set] at hm
      rw [hp0] at hp
      obtain ⟨rfl, rfl⟩ : B0 = B ∧ s0 = x := by simpa using hp
      obtain ⟨h1, ms, clk, rfl, h2⟩ := hmap es hm s0 hp0
      exact ⟨h1, ⟨ms, clk, hat, h2⟩, him0⟩
    · simp [DH.set, hb] at hm
      obtain ⟨h1, ⟨ms, clk, h2, h3⟩, h4⟩ := r.maps b es hm B x hp
      exact ⟨h1, ⟨ms, clk, by rw [putBlk_ne (hne b B hb (by simp [ownR, hm, hp]))]; exact h2, h3⟩, h4⟩
  · intro b b' B h h'
    rw [hownEq] at h h'
    exact r.inj b b' B h h'

/-- An append in place. -/
theorem Step.appendIn {G : Ghost} {H : DH} {w : World} (r : Rel G H w) {id k m B p pc : Nat} {c : Array Value} {T' T0 : TypeId} {cl : Bool} {fr : Nat × Nat} {nv : List Value}
    (hm : H.m id = some (.tip T0 k cl)) (hp : G.place id k = some (B, p, pc)) (hc : w.heap[B]? = some (.cells c T' fr)) (hroom : p + nv.length ≤ pc) (hnv : m = 0 → nv = []) :
    ∃ G', Step G H w G' (H.set id (.tip T0 (k + m) cl)) (putBlk w B (.cells (c.toList.take p ++ nv ++ c.toList.drop (p + nv.length)).toArray T' fr)) ∧
      (∀ i v, nv[i]? = some v → G'.im B (p + i) = some v) ∧ G'.place id (k + m) = some (B, p + nv.length, pc) := by
  obtain ⟨h0, h9⟩ := r.tips id T0 k cl hm
  obtain ⟨⟨c', T'', fr', h1, h2, h3, h4, h6, h7⟩, h5⟩ := h9 B p pc hp
  rw [hc] at h1
  obtain ⟨rfl, rfl, rfl⟩ : c = c' ∧ T' = T'' ∧ fr = fr' := by simpa using h1
  generalize ho : (Obj.cells (c.toList.take p ++ nv ++ c.toList.drop (p + nv.length)).toArray T' fr) = o
  have hown : ownR G H id = some B := by simp [ownR, hm, hp]
  have hat : (putBlk w B o).heap[B]? = some o := putBlk_at hc
  let G' : Ghost := { im := fun B' q => if B' = B ∧ p ≤ q ∧ q < p + nv.length then nv[q - p]? else G.im B' q, ρ := G.ρ, place := fun b e => if b = id ∧ e = k + m then some (B, p + nv.length, pc) else G.place b e }
  have hle : G.le G' := by
    refine ⟨fun B' q v h => ?_, fun _ _ h => h, fun b e x h => ?_⟩
    · show (if B' = B ∧ p ≤ q ∧ q < p + nv.length then nv[q - p]? else G.im B' q) = some v
      rw [if_neg]
      · exact h
      · rintro ⟨rfl, hq, _⟩; rw [h5 q hq] at h; cases h
    · show (if b = id ∧ e = k + m then _ else G.place b e) = some x
      by_cases hb : b = id ∧ e = k + m
      · obtain ⟨rfl, rfl⟩ := hb
        have := h0 (k + m) (by rw [h]; simp)
        have hm0 : m = 0 := by omega
        subst hm0
        rw [if_pos ⟨rfl, rfl⟩]
        rw [hnv rfl]
        rw [Nat.add_zero, hp] at h
        rw [← h]; simp
      · rw [if_neg hb]; exact h
  have hownNew : ∀ b, ownR G' (H.set id (.tip T0 (k + m) cl)) b = ownR G H b := by
    intro b
    by_cases hb : b = id
    · subst hb; rw [hown]; simp [ownR, DH.set, G']
    · simp [ownR, DH.set, hb, G']
  have hne : ∀ b B', b ≠ id → ownR G H b = some B' → B' ≠ B := fun b B' hb h e => hb (r.inj b id B (e ▸ h) hown)
  have himB : ∀ B', B' ≠ B → ∀ q, G'.im B' q = G.im B' q := fun B' h q => if_neg fun x => h x.1
  have hsize : o = .cells (c.toList.take p ++ nv ++ c.toList.drop (p + nv.length)).toArray T' fr := ho.symm
  have hpc : p ≤ c.toList.length := by simp; omega
  refine ⟨G', ⟨hle, ⟨?_, ?_, ?_, ?_, ?_, ?_, ?_, ?_, ⟨r.z.1, by show (if 0 = id then _ else _) = _; rw [if_neg]; exact r.z.2; rintro rfl; rw [r.z.2] at hm; cases hm⟩⟩, rfl, rfl, rfl, by simp [putBlk], fun B' hB hn => putBlk_ne fun e => hn id (e ▸ hown), fun b B' h => .inl ⟨b, by rwa [hownNew] at h⟩⟩, ?_, ?_⟩
  · intro b hb
    have hb' : H.next ≤ b := hb
    have := r.wf b hb'
    have hne : b ≠ id := by rintro rfl; rw [this.1] at hm; cases hm
    simpa [DH.set, hne, G'] using this
  · intro B' q v h
    by_cases hin : B' = B ∧ p ≤ q ∧ q < p + nv.length
    · obtain ⟨rfl, hq1, hq2⟩ := hin
      have hv : nv[q - p]? = some v := by simpa [G', hq1, hq2] using h
      refine ⟨_, T', fr, by rw [hat, hsize], ?_⟩
      simp only [List.getElem?_toArray]
      have e1 : (c.toList.take p).length = p := by simp; omega
      rw [List.getElem?_append_left (by simp; omega), List.getElem?_append_right (by omega), e1]
      exact hv
    · have h' : G.im B' q = some v := by
        have : G'.im B' q = G.im B' q := if_neg hin
        rw [this] at h; exact h
      obtain ⟨c', T, fr', h1', h2'⟩ := r.im B' q v h'
      by_cases hB : B' = B
      · subst hB
        rw [hc] at h1'
        obtain ⟨rfl, rfl, rfl⟩ : c = c' ∧ T' = T ∧ fr = fr' := by simpa using h1'
        have hq : q < p := by
          rcases Nat.lt_or_ge q p with hq | hq
          · exact hq
          · rw [h5 q hq] at h'; cases h'
        refine ⟨_, T', fr, by rw [hat, hsize], ?_⟩
        simp only [List.getElem?_toArray]
        rw [List.append_assoc, List.getElem?_append_left (by simp; omega), List.getElem?_take, if_pos hq]
        simpa using h2'
      · exact ⟨c', T, fr', by rw [putBlk_ne hB]; exact h1', h2'⟩
  · intro b T cs hmb B' s hpb
    have hb : b ≠ id := by rintro rfl; simp [DH.set] at hmb
    simp [DH.set, hb] at hmb
    have hpb' : G.ρ b = some (B', s) := hpb
    obtain ⟨⟨pre, vs, post, T2, fr2, g1, g2, g3, g4⟩, g5⟩ := r.cells b T cs hmb B' s hpb'
    have hBB := hne b B' hb (by simp [ownR, hmb, hpb'])
    exact ⟨⟨pre, vs, post, T2, fr2, by rw [putBlk_ne hBB]; exact g1, g2, g3.mono hle, g4⟩, fun q => by rw [himB B' hBB]; exact g5 q⟩
  · intro b T cs hmb B' s hpb
    have hb : b ≠ id := by rintro rfl; simp [DH.set] at hmb
    simp [DH.set, hb] at hmb
    have hpb' : G.ρ b = some (B', s) := hpb
    obtain ⟨⟨p2, pc2, c2, fr2, vs, g0, g1, g2, g3, g4, g5⟩, g6⟩ := r.rows b T cs hmb B' s hpb'
    have hBB := hne b B' hb (by simp [ownR, hmb, hpb'])
    exact ⟨⟨p2, pc2, c2, fr2, vs, by simpa [G', hb] using g0, by rw [putBlk_ne hBB]; exact g1, g2, g3, g4.mono hle, g5⟩, fun q => by rw [himB B' hBB]; exact g6 q⟩
  · intro b T n cl' hmb
    by_cases hb : b = id
    · subst hb
      simp [DH.set] at hmb
      obtain ⟨rfl, rfl, rfl⟩ := hmb
      refine ⟨fun e h => ?_, fun B' p' pc' hp' => ?_⟩
      · by_cases he' : e = k + m
        · omega
        · have := h0 e (by simpa [G', he'] using h)
          omega
      · have hp'' : B = B' ∧ p + nv.length = p' ∧ pc = pc' := by simpa [G'] using hp'
        obtain ⟨rfl, rfl, rfl⟩ := hp''
        refine ⟨⟨_, T', fr, by rw [hat, hsize], ?_, hroom, fun q hq hq' => h4 q (by omega) hq', h6, fun hc => Nat.le_trans (h7 hc) (Nat.le_add_right _ _)⟩, fun q hq => ?_⟩
        · simp; omega
        · show (if _ then _ else _) = none
          rw [if_neg (by omega)]
          exact h5 q (by omega)
    · simp [DH.set, hb] at hmb
      obtain ⟨g0, g9⟩ := r.tips b T n cl' hmb
      refine ⟨fun e h => g0 e (by simpa [G', hb] using h), fun B' p' pc' hp' => ?_⟩
      have hp'' : G.place b n = some (B', p', pc') := by simpa [G', hb] using hp'
      obtain ⟨⟨c2, T2, fr2, g1, g2⟩, g3⟩ := g9 B' p' pc' hp''
      have hBB := hne b B' hb (by simp [ownR, hmb, hp''])
      exact ⟨⟨c2, T2, fr2, by rw [putBlk_ne hBB]; exact g1, g2⟩, fun q hq => by rw [himB B' hBB]; exact g3 q hq⟩
  · intro b s pos hmb B' x hpb
    have hb : b ≠ id := by rintro rfl; simp [DH.set] at hmb
    simp [DH.set, hb] at hmb
    have hpb' : G.ρ b = some (B', x) := hpb
    obtain ⟨g1, g2, g3⟩ := r.iters b s pos hmb B' x hpb'
    have hBB := hne b B' hb (by simp [ownR, hmb, hpb'])
    exact ⟨g1, by rw [putBlk_ne hBB]; exact g2, fun q => by rw [himB B' hBB]; exact g3 q⟩
  · intro b es hmb B' x hpb
    have hb : b ≠ id := by rintro rfl; simp [DH.set] at hmb
    simp [DH.set, hb] at hmb
    have hpb' : G.ρ b = some (B', x) := hpb
    obtain ⟨g1, ⟨ms, clk, g2, g3, g3'⟩, g4⟩ := r.maps b es hmb B' x hpb'
    have hBB := hne b B' hb (by simp [ownR, hmb, hpb'])
    exact ⟨g1, ⟨ms, clk, by rw [putBlk_ne hBB]; exact g2, g3.mono hle, g3'.mono hle⟩, fun q => by rw [himB B' hBB]; exact g4 q⟩
  · intro b b' B' h h'
    rw [hownNew] at h h'
    exact r.inj b b' B' h h'
  · intro i v h
    show (if B = B ∧ p ≤ p + i ∧ p + i < p + nv.length then nv[p + i - p]? else _) = some v
    rw [if_pos ⟨rfl, by omega, by have := (List.getElem?_eq_some_iff.1 h).1; omega⟩]
    simpa using h
  · show (if _ then _ else _) = _
    rw [if_pos ⟨rfl, rfl⟩]
/-- An append into a new row: the slice's place in the ghost goes there. -/
theorem Step.appendNew {G : Ghost} {H : DH} {w : World} (r : Rel G H w) {id k m : Nat} {T' : TypeId} {cl : Bool} {vs post : List Value} (hm : H.m id = some (.tip T' k cl)) (hpos : 0 < m) :
    ∃ G', Step G H w G' (H.set id (.tip T' (k + m) cl)) (w.alloc (.cells (vs ++ post).toArray T' (0, 0))) ∧
      (∀ i v, vs[i]? = some v → G'.im w.heap.size i = some v) ∧ G'.place id (k + m) = some (w.heap.size, vs.length, (vs ++ post).length) := by
  obtain ⟨h0, h9⟩ := r.tips id T' k cl hm
  generalize ho : (Obj.cells (vs ++ post).toArray T' (0, 0)) = o
  have hnew : (w.alloc o).heap[w.heap.size]? = some o := heap_alloc_new w o
  have hold : ∀ B, B < w.heap.size → (w.alloc o).heap[B]? = w.heap[B]? := fun B hB => heap_alloc_old w o B hB
  have kk : ∀ {B : Nat} {o' : Obj}, w.heap[B]? = some o' → (w.alloc o).heap[B]? = some o' := fun e => (hold _ (Array.getElem?_eq_some_iff.1 e).1).trans e
  let G' : Ghost := { im := fun B q => if B = w.heap.size then vs[q]? else G.im B q, ρ := G.ρ, place := fun b e => if b = id ∧ e = k + m then some (w.heap.size, vs.length, (vs ++ post).length) else G.place b e }
  have hle : G.le G' := by
    refine ⟨fun B q v h => ?_, fun _ _ h => h, fun b e x h => ?_⟩
    · show (if B = w.heap.size then vs[q]? else G.im B q) = some v
      rw [if_neg (by have := r.im_lt h; omega)]; exact h
    · show (if b = id ∧ e = k + m then _ else G.place b e) = some x
      rw [if_neg]
      · exact h
      · rintro ⟨rfl, rfl⟩; have := h0 (k + m) (by rw [h]; simp); omega
  have himold : ∀ B, B < w.heap.size → ∀ q, G'.im B q = G.im B q := fun B hB q => if_neg (by omega)
  have hownNew : ∀ b, b ≠ id → ownR G' (H.set id (.tip T' (k + m) cl)) b = ownR G H b := by
    intro b hb
    simp [ownR, DH.set, hb, G']
  have hownAt : ownR G' (H.set id (.tip T' (k + m) cl)) id = some w.heap.size := by simp [ownR, DH.set, G']
  refine ⟨G', ⟨hle, ⟨?_, ?_, ?_, ?_, ?_, ?_, ?_, ?_, ⟨r.z.1, by show (if 0 = id then _ else _) = _; rw [if_neg]; exact r.z.2; rintro rfl; rw [r.z.2] at hm; cases hm⟩⟩, rfl, rfl, rfl, by simp, fun B hB _ => hold B hB, ?_⟩, ?_, ?_⟩
  · intro b hb
    have hb' : H.next ≤ b := hb
    have := r.wf b hb'
    have hne : b ≠ id := by rintro rfl; rw [this.1] at hm; cases hm
    simpa [DH.set, hne, G'] using this
  · intro B q v h
    by_cases hB : B = w.heap.size
    · subst hB
      have hq : vs[q]? = some v := by simpa [G'] using h
      refine ⟨_, T', (0, 0), by rw [hnew, ← ho], ?_⟩
      simp only [List.getElem?_toArray]
      rw [List.getElem?_append_left (List.getElem?_eq_some_iff.1 hq).1]
      exact hq
    · have h' : G.im B q = some v := by simpa [G', hB] using h
      obtain ⟨c, T, fr, h1, h2⟩ := r.im B q v h'
      exact ⟨c, T, fr, kk h1, h2⟩
  · intro b T cs hmb B s hpb
    have hb : b ≠ id := by rintro rfl; simp [DH.set] at hmb
    simp [DH.set, hb] at hmb
    have hpb' : G.ρ b = some (B, s) := hpb
    obtain ⟨⟨pre, vs', post', T'', fr', h1, h2, h3, h4⟩, h5⟩ := r.cells b T cs hmb B s hpb'
    exact ⟨⟨pre, vs', post', T'', fr', kk h1, h2, h3.mono hle, h4⟩, fun q => by rw [himold B (Array.getElem?_eq_some_iff.1 h1).1]; exact h5 q⟩
  · intro b T cs hmb B s hpb
    have hb : b ≠ id := by rintro rfl; simp [DH.set] at hmb
    simp [DH.set, hb] at hmb
    have hpb' : G.ρ b = some (B, s) := hpb
    obtain ⟨⟨p2, pc2, c2, fr2, vs', g0, g1, g2, g3, g4, g5⟩, g6⟩ := r.rows b T cs hmb B s hpb'
    exact ⟨⟨p2, pc2, c2, fr2, vs', by simpa [G', hb] using g0, kk g1, g2, g3, g4.mono hle, g5⟩, fun q => by rw [himold B (Array.getElem?_eq_some_iff.1 g1).1]; exact g6 q⟩
  · intro b T n cl' hmb
    by_cases hb : b = id
    · subst hb
      simp [DH.set] at hmb
      obtain ⟨rfl, rfl, rfl⟩ := hmb
      refine ⟨fun e h => ?_, fun B p pc hp => ?_⟩
      · by_cases he' : e = k + m
        · omega
        · have := h0 e (by simpa [G', he'] using h)
          omega
      · have hp' : w.heap.size = B ∧ vs.length = p ∧ (vs ++ post).length = pc := by simpa [G'] using hp
        obtain ⟨rfl, rfl, rfl⟩ := hp'
        refine ⟨⟨_, T', (0, 0), by rw [hnew, ← ho], by simp, by simp, by simp, rfl, fun _ => Nat.zero_le _⟩, fun q hq => ?_⟩
        show (if w.heap.size = w.heap.size then vs[q]? else _) = none
        rw [if_pos rfl]
        exact List.getElem?_eq_none hq
    · simp [DH.set, hb] at hmb
      obtain ⟨h0, h9⟩ := r.tips b T n cl' hmb
      refine ⟨fun e h => h0 e (by simpa [G', hb] using h), fun B p pc hp => ?_⟩
      have hp' : G.place b n = some (B, p, pc) := by simpa [G', hb] using hp
      obtain ⟨⟨c, T', fr, h1, h2⟩, h3⟩ := h9 B p pc hp'
      exact ⟨⟨c, T', fr, kk h1, h2⟩, fun q hq => by rw [himold B (Array.getElem?_eq_some_iff.1 h1).1]; exact h3 q hq⟩
  · intro b s pos hmb B y hpb
    have hb : b ≠ id := by rintro rfl; simp [DH.set] at hmb
    simp [DH.set, hb] at hmb
    obtain ⟨h1, h2, h3⟩ := r.iters b s pos hmb B y hpb
    exact ⟨h1, kk h2, fun q => by rw [himold B (Array.getElem?_eq_some_iff.1 h2).1]; exact h3 q⟩
  · intro b es' hmb B y hpb
    have hb : b ≠ id := by rintro rfl; simp [DH.set] at hmb
    simp [DH.set, hb] at hmb
    obtain ⟨h1, ⟨ms, clk, h2, h3, h3'⟩, h4⟩ := r.maps b es' hmb B y hpb
    exact ⟨h1, ⟨ms, clk, kk h2, h3.mono hle, h3'.mono hle⟩, fun q => by rw [himold B (Array.getElem?_eq_some_iff.1 h2).1]; exact h4 q⟩
  · intro b b' B h h'
    by_cases hb : b = id
    · subst hb
      rw [hownAt] at h
      obtain rfl := Option.some.inj h
      by_cases hb' : b' = b
      · exact hb'.symm
      · rw [hownNew b' hb'] at h'
        have := r.own_lt h'
        omega
    · rw [hownNew b hb] at h
      by_cases hb' : b' = id
      · subst hb'
        rw [hownAt] at h'
        obtain rfl := Option.some.inj h'
        have := r.own_lt h
        omega
      · rw [hownNew b' hb'] at h'
        exact r.inj b b' B h h'
  · intro b B h
    by_cases hb : b = id
    · subst hb
      rw [hownAt] at h
      obtain rfl := Option.some.inj h
      exact .inr (Nat.le_refl _)
    · rw [hownNew b hb] at h
      exact .inl ⟨b, h⟩
  · intro i v h
    show (if w.heap.size = w.heap.size then vs[i]? else _) = some v
    rw [if_pos rfl]; exact h
  · show (if _ then _ else _) = _
    rw [if_pos ⟨rfl, rfl⟩]

/-- A row that may be written comes to be, or goes on, under a new number: at a place of its own. 'b': the elder one, if there is one. -/
theorem Step.row {G : Ghost} {H : DH} {w w' : World} (r : Rel G H w) {b0 : Nat} {B s pc : Nat} {T : TypeId} {cs : List DV} {c : Array Value} {fr : Nat × Nat} {vs : List Value} {H' : DH}
    (hH : H'.next = H.next + 1 ∧ H'.m H.next = some (.row T cs) ∧ ∀ i, i ≠ H.next → H'.m i = H.m i ∨ (i = b0 ∧ H'.m i = none))
    (hB : ownR G H b0 = some B ∧ H'.m b0 = none ∧ (∀ q, G.im B q = none) ∨ B = w.heap.size)
    (hat : w'.heap[B]? = some (.cells c T fr)) (hother : ∀ B', B' < w.heap.size → B' ≠ B → w'.heap[B']? = w.heap[B']?) (hsz : w.heap.size ≤ w'.heap.size)
    (h1 : s + cs.length ≤ pc) (h2 : pc ≤ c.size) (h3 : VL G cs vs) (h4 : ∀ (i : Nat) (v : Value), vs[i]? = some v → c[s + i]? = some v) (h5 : ∀ o, s ≤ o → o < pc → ¬ (fr.1 ≤ o ∧ o < fr.2))
    (os : w'.os = w.os) (tape : w'.tape = w.tape) (output : w'.output = w.output) :
    ∃ G', Step G H w G' H' w' ∧ G'.ρ H.next = some (B, s) ∧ G'.place H.next 0 = some (B, s, pc) := by
  obtain ⟨hn, hnew, hold⟩ := hH
  have hnx := r.wf H.next (Nat.le_refl _)
  let G' : Ghost := { im := G.im, ρ := fun b => if b = H.next then some (B, s) else G.ρ b, place := fun b e => if b = H.next ∧ e = 0 then some (B, s, pc) else G.place b e }
  have hle : G.le G' := by
    refine ⟨fun _ _ _ h => h, fun b x h => ?_, fun b e x h => ?_⟩
    · show (if b = H.next then _ else G.ρ b) = some x
      rw [if_neg]
      · exact h
      · rintro rfl; rw [hnx.2.1] at h; cases h
    · show (if b = H.next ∧ e = 0 then _ else G.place b e) = some x
      rw [if_neg]
      · exact h
      · rintro ⟨rfl, _⟩; rw [hnx.2.2 e] at h; cases h
  have keep : ∀ {i : Nat} {o : DObj}, i ≠ H.next → H'.m i = some o → H.m i = some o := by
    intro i o hi h
    rcases hold i hi with e | ⟨_, e⟩
    · rw [← e]; exact h
    · rw [e] at h; cases h
  have himB : ∀ q, G.im B q = none := by
    rcases hB with h | rfl
    · exact h.2.2
    · intro q
      cases hq : G.im w.heap.size q with
      | none => rfl
      | some v => have := r.im_lt hq; omega
  have hownOld : ∀ b B', b ≠ H.next → ownR G' H' b = some B' → ownR G H b = some B' := by
    intro b B' hb h
    unfold ownR at h ⊢
    cases hm : H'.m b with
    | none => rw [hm] at h; cases h
    | some o =>
      rw [hm] at h
      rw [keep hb hm]
      cases o <;> simpa [G', hb] using h
  have hownNew : ownR G' H' H.next = some B := by simp [ownR, hnew, G']
  have hneB : ∀ b B', b ≠ H.next → H'.m b ≠ none → ownR G H b = some B' → B' ≠ B := by
    rintro b B' hb hm ho rfl
    rcases hB with h | h
    · have := r.inj _ _ _ ho h.1
      subst this
      exact hm h.2.1
    · have := r.own_lt ho
      omega
  have kk : ∀ {B' : Nat} {o : Obj}, B' ≠ B → w.heap[B']? = some o → w'.heap[B']? = some o := fun hb e => (hother _ (Array.getElem?_eq_some_iff.1 e).1 hb).trans e
  refine ⟨G', ⟨hle, ⟨?_, ?_, ?_, ?_, ?_, ?_, ?_, ?_, ?_⟩, os, tape, output, hsz, ?_, ?_⟩, by simp [G'], by simp [G']⟩
  · intro b hb
    rw [hn] at hb
    have := r.wf b (by omega)
    have hne : b ≠ H.next := by omega
    refine ⟨?_, by simpa [G', hne] using this.2.1, fun e => by simpa [G', hne] using this.2.2 e⟩
    rcases hold b hne with e | ⟨_, e⟩
    · rw [e]; exact this.1
    · exact e
  · intro B' o v h
    obtain ⟨c', T', fr', g1, g2⟩ := r.im B' o v h
    exact ⟨c', T', fr', kk (by rintro rfl; rw [himB o] at h; cases h) g1, g2⟩
  · intro b T' cs' hm B' s' hp
    have hb : b ≠ H.next := by rintro rfl; rw [hnew] at hm; cases hm
    have hm' := keep hb hm
    have hp' : G.ρ b = some (B', s') := by simpa [G', hb] using hp
    obtain ⟨⟨pre, vs', post, T'', fr', g1, g2, g3, g4⟩, g5⟩ := r.cells b T' cs' hm' B' s' hp'
    exact ⟨⟨pre, vs', post, T'', fr', kk (hneB b B' hb (by rw [hm]; simp) (by simp [ownR, hm', hp'])) g1, g2, g3.mono hle, g4⟩, g5⟩
  · intro b T' cs' hm B' s' hp
    by_cases hb : b = H.next
    · subst hb
      rw [hnew] at hm
      obtain ⟨rfl, rfl⟩ : T = T' ∧ cs = cs' := by simpa using hm
      obtain ⟨rfl, rfl⟩ : B = B' ∧ s = s' := by simpa [G'] using hp
      exact ⟨⟨s, pc, c, fr, vs, by simp [G'], hat, h1, h2, h3.mono hle, h4, h5⟩, himB⟩
    · have hm' := keep hb hm
      have hp' : G.ρ b = some (B', s') := by simpa [G', hb] using hp
      obtain ⟨⟨p2, pc2, c2, fr2, vs2, g0, g1, g2, g3, g4, g5⟩, g6⟩ := r.rows b T' cs' hm' B' s' hp'
      exact ⟨⟨p2, pc2, c2, fr2, vs2, by simpa [G', hb] using g0, kk (hneB b B' hb (by rw [hm]; simp) (by simp [ownR, hm', hp'])) g1, g2, g3, g4.mono hle, g5⟩, g6⟩
  · intro b T' n cl hm
    have hb : b ≠ H.next := by rintro rfl; rw [hnew] at hm; cases hm
    have hm' := keep hb hm
    obtain ⟨h0, h9⟩ := r.tips b T' n cl hm'
    refine ⟨fun e h => h0 e (by simpa [G', hb] using h), fun B' p pc hp => ?_⟩
    have hp' : G.place b n = some (B', p, pc) := by simpa [G', hb] using hp
    obtain ⟨⟨c', T'', fr', g1, g2⟩, g3⟩ := h9 B' p pc hp'
    exact ⟨⟨c', T'', fr', kk (hneB b B' hb (by rw [hm]; simp) (by simp [ownR, hm', hp'])) g1, g2⟩, g3⟩
  · intro b s' pos hm B' x hp
    have hb : b ≠ H.next := by rintro rfl; rw [hnew] at hm; cases hm
    have hm' := keep hb hm
    have hp' : G.ρ b = some (B', x) := by simpa [G', hb] using hp
    obtain ⟨g1, g2, g3⟩ := r.iters b s' pos hm' B' x hp'
    exact ⟨g1, kk (hneB b B' hb (by rw [hm]; simp) (by simp [ownR, hm', hp'])) g2, g3⟩
  · intro b es hm B' x hp
    have hb : b ≠ H.next := by rintro rfl; rw [hnew] at hm; cases hm
    have hm' := keep hb hm
    have hp' : G.ρ b = some (B', x) := by simpa [G', hb] using hp
    obtain ⟨g1, ⟨ms, clk, g2, g3, g3'⟩, g4⟩ := r.maps b es hm' B' x hp'
    exact ⟨g1, ⟨ms, clk, kk (hneB b B' hb (by rw [hm]; simp) (by simp [ownR, hm', hp'])) g2, g3.mono hle, g3'.mono hle⟩, g4⟩
  · intro b b' B' h h'
    have live : ∀ {x : Nat}, ownR G' H' x = some B' → H'.m x ≠ none := by
      intro x hx e
      simp [ownR, e] at hx
    by_cases hb : b = H.next
    · subst hb
      rw [hownNew] at h
      obtain rfl := Option.some.inj h
      by_cases hb' : b' = H.next
      · exact hb'.symm
      · exact absurd rfl (hneB b' _ hb' (live h') (hownOld b' _ hb' h'))
    · by_cases hb' : b' = H.next
      · subst hb'
        rw [hownNew] at h'
        obtain rfl := Option.some.inj h'
        exact absurd rfl (hneB b _ hb (live h) (hownOld b _ hb h))
      · exact r.inj b b' B' (hownOld b _ hb h) (hownOld b' _ hb' h')
  · have hz0 := r.z
    refine ⟨by rw [hn]; exact Nat.succ_pos _, ?_⟩
    rcases hold 0 (by omega) with e | ⟨_, e⟩
    · rw [e]; exact hz0.2
    · exact e
  · intro B' hlt hno
    by_cases hbb : B' = B
    · subst hbb
      rcases hB with h | h
      · exact absurd h.1 (hno b0)
      · omega
    · exact hother B' hlt hbb
  · intro b B' h
    by_cases hb : b = H.next
    · subst hb
      rw [hownNew] at h
      obtain rfl := Option.some.inj h
      rcases hB with h | h
      · exact .inl ⟨b0, h.1⟩
      · exact .inr (Nat.le_of_eq h.symm)
    · exact .inl ⟨b, hownOld b _ hb h⟩
end Go.Proofs.YtcknfhhbijlobaaDoor.D
