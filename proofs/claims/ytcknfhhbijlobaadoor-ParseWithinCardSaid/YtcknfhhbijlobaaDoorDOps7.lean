/- D: what each operation does, held against the model's (7): unsafe.String, unsafe.SliceData. -/
import Derived.Test.YtcknfhhbijlobaaDoorDOps6
import Derived.Lib.UnsafeStr
namespace Go.Proofs.YtcknfhhbijlobaaDoor.D
open Go
set_option linter.unusedVariables false
set_option linter.unusedSimpArgs false

section
variable {P : Program} {T : Tab} {G : Ghost} {H H' : DH} {w : World} {d : DV}

theorem Step.refreeze (r : Rel G H w) {id k B p pc : Nat} {T0 : TypeId} {c : Array Value} {T' : TypeId} {fr fr' : Nat × Nat} (hm : H.m id = some (.tip T0 k true)) (hp : G.place id k = some (B, p, pc))
    (hc : w.heap[B]? = some (.cells c T' fr)) (hfr : fr'.2 ≤ p) : Step G H w G H (putBlk w B (.cells c T' fr')) := by
  obtain ⟨h0, h9⟩ := r.tips id T0 k true hm
  obtain ⟨⟨c', T'', fr'', h1, h2, h3, h4, h6, h7⟩, h5⟩ := h9 B p pc hp
  rw [hc] at h1
  obtain ⟨rfl, rfl, rfl⟩ : c = c' ∧ T' = T'' ∧ fr = fr'' := by simpa using h1
  have hown : ownR G H id = some B := by simp [ownR, hm, hp]
  have hat : (putBlk w B (.cells c T' fr')).heap[B]? = some (.cells c T' fr') := putBlk_at hc
  have hne : ∀ b B', b ≠ id → ownR G H b = some B' → B' ≠ B := fun b B' hb h e => hb (r.inj b id B (e ▸ h) hown)
  refine ⟨.refl G, ⟨r.wf, ?_, ?_, ?_, ?_, ?_, ?_, r.inj, r.z⟩, rfl, rfl, rfl, by simp [putBlk], fun B' hB hn => putBlk_ne fun e => hn id (e ▸ hown), fun b B' h => .inl ⟨b, h⟩⟩
  · intro B' q v h
    obtain ⟨c', T, fr2, g1, g2⟩ := r.im B' q v h
    by_cases hB : B' = B
    · subst hB
      rw [hc] at g1
      obtain ⟨rfl, rfl, rfl⟩ : c = c' ∧ T' = T ∧ fr = fr2 := by simpa using g1
      exact ⟨c, T', fr', hat, g2⟩
    · exact ⟨c', T, fr2, by rw [putBlk_ne hB]; exact g1, g2⟩
  · intro b T cs hmb B' s hpb
    have hb : b ≠ id := by rintro rfl; rw [hm] at hmb; cases hmb
    obtain ⟨⟨pre, vs, post, T2, fr2, g1, g2⟩, g3⟩ := r.cells b T cs hmb B' s hpb
    have hBB := hne b B' hb (by simp [ownR, hmb, hpb])
    exact ⟨⟨pre, vs, post, T2, fr2, by rw [putBlk_ne hBB]; exact g1, g2⟩, g3⟩
  · intro b T cs hmb B' s hpb
    have hb : b ≠ id := by rintro rfl; rw [hm] at hmb; cases hmb
    obtain ⟨⟨p2, pc2, c2, fr2, vs, g0, g1, g2⟩, g3⟩ := r.rows b T cs hmb B' s hpb
    have hBB := hne b B' hb (by simp [ownR, hmb, hpb])
    exact ⟨⟨p2, pc2, c2, fr2, vs, g0, by rw [putBlk_ne hBB]; exact g1, g2⟩, g3⟩
  · intro b T n cl hmb
    obtain ⟨g0, g9⟩ := r.tips b T n cl hmb
    refine ⟨g0, fun B' p' pc' hp' => ?_⟩
    by_cases hb : b = id
    · subst hb
      rw [hm] at hmb
      cases hmb
      rw [hp] at hp'
      cases hp'
      exact ⟨⟨c, T', fr', hat, h2, h3, fun o ho1 ho2 ⟨_, h⟩ => by omega, h6, fun _ => hfr⟩, h5⟩
    · obtain ⟨⟨c2, T2, fr2, g1, g2⟩, g3⟩ := g9 B' p' pc' hp'
      have hBB := hne b B' hb (by simp [ownR, hmb, hp'])
      exact ⟨⟨c2, T2, fr2, by rw [putBlk_ne hBB]; exact g1, g2⟩, g3⟩
  · intro b s pos hmb B' x hpb
    have hb : b ≠ id := by rintro rfl; rw [hm] at hmb; cases hmb
    obtain ⟨g1, g2, g3⟩ := r.iters b s pos hmb B' x hpb
    exact ⟨g1, by rw [putBlk_ne (hne b B' hb (by simp [ownR, hmb, hpb]))]; exact g2, g3⟩
  · intro b es hmb B' x hpb
    have hb : b ≠ id := by rintro rfl; rw [hm] at hmb; cases hmb
    obtain ⟨g1, ⟨ms, clk, g2, g3⟩, g4⟩ := r.maps b es hmb B' x hpb
    exact ⟨g1, ⟨ms, clk, by rw [putBlk_ne (hne b B' hb (by simp [ownR, hmb, hpb]))]; exact g2, g3⟩, g4⟩

theorem data_ok (r : Rel G H w) {x : DV} {vx : Value} {ts : Array TypeId} {ty : TypeId} (hx : V G x vx) (h : dataD x = some d) : GoodV P G H w H d ((Builtin.unsafeSliceData_ ts ty #[vx]).run P w) := by
  unfold dataD at h
  split at h
  · cases hx
    obtain rfl := Option.some.inj h
    exact good_ok r .nilp rfl
  · rename_i id sz off es
    by_cases he0 : es.isEmpty = true
    · rw [if_pos he0] at h; cases h
    · rw [if_neg he0] at h
      obtain rfl := Option.some.inj h
      cases hx with
      | sl hsz he ho hl him hvv hln hcap hp =>
        rename_i vs B o cap len
        subst hln
        have hne : es ≠ [] := by simpa using he0
        have hpos : 0 < es.length := List.length_pos_iff.2 hne
        exact good_ok r (V.sd hne hsz he hl him hvv (hp.resolve_left (by omega)) hcap) (Lib.run_unsafeSliceData_row w _ _ _ _ _ (by omega))
  · cases h

theorem VL_repl {z : DV} {zv : List Value} (h : VL G z.cells zv) : ∀ l : Nat, VL G (flat (List.replicate l z)) (List.replicate l zv).flatten
  | 0 => .nil _
  | l + 1 => by
    simp only [List.replicate_succ, flat, List.flatten_cons]
    exact h.append (VL_repl h l)
theorem repl_get {zv : List Value} {n : Nat} (hz : zv.length = n) (hn : 0 < n) : ∀ (l j : Nat) (v : Value), ((List.replicate l zv).flatten)[j]? = some v → zv[j % n]? = some v ∧ j < l * n
  | 0, j, v, h => by simp at h
  | l + 1, j, v, h => by
    rw [List.replicate_succ, List.flatten_cons] at h
    rcases Nat.lt_or_ge j n with hj | hj
    · rw [List.getElem?_append_left (by omega)] at h
      rw [Nat.mod_eq_of_lt hj, Nat.add_mul]
      exact ⟨h, by omega⟩
    · rw [List.getElem?_append_right (by omega), hz] at h
      obtain ⟨h1, h2⟩ := repl_get hz hn l (j - n) v h
      rw [Nat.add_mul]
      refine ⟨?_, by omega⟩
      rw [← h1, Nat.mod_eq_sub_mod hj]
theorem repl_len {zv : List Value} {n : Nat} (hz : zv.length = n) : ∀ l : Nat, ((List.replicate l zv).flatten).length = l * n
  | 0 => by simp
  | l + 1 => by rw [List.replicate_succ, List.flatten_cons, List.length_append, repl_len hz l, hz, Nat.add_mul]; omega

theorem makeSlice_ok (TO : TabOk P T) (r : Rel G H w) {t : TypeId} {x y : DV} {vx vy : Value} (hx : V G x vx) (hy : V G y vy) (h : makeSliceD T t x y H = some (d, H')) :
    GoodV P G H w H' d ((Instr.makeSlice t vx vy).run P w) := by
  unfold makeSliceD at h
  split at h
  · rename_i e l c e1
    cases hx; cases hy
    split at h
    · rename_i n by_ z e2 e3 e5
      split at h
      · rename_i hc
        obtain ⟨hl0, hlc, hc63, hby, hn, hzl, hzo⟩ := hc
        have hdH := Prod.mk.inj (Option.some.inj h)
        rw [← hdH.1, ← hdH.2]
        obtain ⟨i, i1, i2⟩ := TO.size _ _ e2
        obtain ⟨i', j1, j2⟩ := TO.bytes _ _ e3
        obtain ⟨i'', zv, k1, k2, k3⟩ := TO.zero _ _ e5
        rw [i1] at j1 k1
        obtain rfl := Option.some.inj j1
        obtain rfl := Option.some.inj k1
        subst i2; subst j2
        have hzs : zv.cells.size = i.size := by have := (k3 G).cells.1; simp [hzl] at this; omega
        have wl : IntKind.i64.wrap l = l := by unfold IntKind.wrap; simp [IntKind.signed, IntKind.bits]; omega
        have wc : IntKind.i64.wrap c = c := by unfold IntKind.wrap; simp [IntKind.signed, IntKind.bits]; omega
        have hbig : ¬ (281474976710656 < (i.bytes : Int) * c) := by omega
        have hneg : ¬ (c < 0) := by omega
        have hneg2 : ¬ (l < 0) := by omega
        have hgt : ¬ (c < l) := by omega
        have hn0 : ¬ (i.size = 0) := by omega
        let arr : Array Value := (Array.range (c.toNat * i.size)).map (zv.cells[· % zv.cells.size]!)
        have hrun : (Instr.makeSlice t (.int .i64 l) (.int .i64 c)).run P w = .ok (.slice (some ⟨w.heap.size, 0, none⟩) l.toNat c.toNat) (w.alloc (.cells arr e)) := by
          have hz : (zeroValue e).run P w = .ok zv w := by simp [zeroValue, typeInfo, i1, k2]
          by_cases hc0 : c.toNat * i.size = 0
          · have hzc : ∀ w, (if c.toNat * i.size = 0 then (pure #[] : Sem (Array Value)) else do pure (← zeroValue e).cells).run P w = .ok #[] w := fun w => by rw [if_pos hc0]; rfl
            simp only [Instr.makeSlice, asInt, asIntOf, Sem.run_bind, Sem.run_pure, Result.andThen_ok, run_underlying (TO.und _ _ e1), typeInfo, run_program, i1, wl, wc]
            simp [hbig, hneg, hneg2, hgt, sizeOf, typeInfo, i1, hc0, newRow, arr]
            have r0 : Array.range 0 = #[] := rfl
            simp [r0]
          · simp only [Instr.makeSlice, asInt, asIntOf, Sem.run_bind, Sem.run_pure, Result.andThen_ok, run_underlying (TO.und _ _ e1), typeInfo, run_program, i1, wl, wc]
            simp [hbig, hneg, hneg2, hgt, sizeOf, typeInfo, i1, hc0, newRow, arr, zeroValue, k2]
        rw [hrun]
        have hVL := VL_repl (G := G) (k3 G).cells l.toNat
        have hlen := repl_len (zv := zv.cells.toList) (n := i.size) (by simpa using hzs) l.toNat
        have hle : l.toNat ≤ c.toNat := by omega
        obtain ⟨G', st, g1, g2⟩ := Step.row (w := w) (w' := w.alloc (.cells arr e)) r (b0 := H.next) (B := w.heap.size) (s := 0)
          (pc := c.toNat * i.size) (T := e) (cs := flat (List.replicate l.toNat z)) (c := arr) (fr := (0, 0)) (vs := (List.replicate l.toNat zv.cells.toList).flatten) (H' := (newHs H e i.size l.toNat (flat (List.replicate l.toNat z))).2)
          ⟨rfl, by simp [newHs, DH.new], fun q hq => .inl (by simp [newHs, DH.new, hq])⟩ (.inr rfl) (heap_alloc_new w _) (fun B' h1 _ => heap_alloc_old w _ B' h1) (by simp)
          (by rw [hVL.1, hlen, Nat.zero_add]; exact Nat.mul_le_mul_right _ hle) (by simp [arr]) hVL
          (fun j v hj => by
            obtain ⟨q1, q2⟩ := repl_get (by simpa using hzs) hn _ _ _ hj
            have q3 : j < c.toNat * i.size := Nat.lt_of_lt_of_le q2 (Nat.mul_le_mul_right _ hle)
            have q4 : j % i.size < zv.cells.size := by rw [hzs]; exact Nat.mod_lt _ hn
            simp only [Array.getElem?_toList] at q1
            rw [Array.getElem?_eq_getElem q4] at q1
            simp only [Nat.zero_add, arr, Array.getElem?_map, Array.getElem?_range, if_pos q3, Option.map_some, hzs]
            rw [← q1]
            simp [getElem!_def, q4]) (by simp) rfl rfl rfl
        exact ⟨G', V.hs g1 hle (.inr ⟨rfl, 0, _, g2, by simp⟩), st⟩
      · cases h
    · cases h
  · cases h
theorem liesAt_off {e cells off n : Nat} (hc : P.cellsOf e = 1) (hn : off + n ≤ cells / P.cellsOf e) : liesAt P P.depth e (cells / P.cellsOf e) off e n = true := by
  obtain ⟨k, hd⟩ : ∃ k, P.depth = k + 1 := ⟨_, rfl⟩
  rw [hd]
  simp only [liesAt, Bool.or_eq_true]
  left
  rw [hd]
  simp [rowAt, hc, sameLayout]
  left
  rw [hc] at hn
  exact ⟨Nat.mod_one _, by simpa using hn⟩

theorem run_loadBytesI : ∀ (ns : List Int) (a : Addr) (acc : ByteArray) (w : World), (∀ (j : Nat) (x : Int), ns[j]? = some x → w.cell? (a.add j) = some (.int .u8 x)) →
    (loadBytes a acc ns.length).run P w = .ok ⟨acc.data ++ (ns.map fun n => UInt8.ofNat n.toNat).toArray⟩ w
  | [], a, acc, w, _ => by simp [loadBytes]
  | x :: l, a, acc, w, h => by
    have h0 : w.cell? a = some (.int .u8 x) := by
      have := h 0 x rfl
      simpa [Addr.add] using this
    have ih := run_loadBytesI l (a.add 1) (acc.push (x.toNat).toUInt8) w (fun j y hy => by
      have := h (j + 1) y (by simpa using hy)
      have e : (a.add 1).add j = a.add (j + 1) := by
        unfold Addr.add
        by_cases hj : j = 0
        · subst hj; simp
        · simp [hj]; omega
      rw [e]; exact this)
    simp only [List.length_cons, loadBytes, Sem.run_bind, run_load, h0, Result.andThen]
    rw [ih]
    congr 1
    apply ByteArray.ext
    simp [ByteArray.push]

theorem run_unsafeString_off (w : World) (pt it ty e : TypeId) (hp : P.underlying pt = some (.pointer e)) (hc : P.cellsOf e = 1) (g o cells : Nat) (hsh : w.shape? g = some (e, cells)) (l : List Int) (h0 : l ≠ []) (hn : o + l.length ≤ cells) (h63 : l.length ≤ 9223372036854775807)
    (hcell : ∀ (j : Nat) (x : Int), l[j]? = some x → w.cell? ((⟨g, o, none⟩ : Addr).add j) = some (.int .u8 x)) :
    (Builtin.unsafeString_ #[pt, it] ty #[.pointer (some ⟨g, o, none⟩), .int .i64 l.length]).run P w = .ok (.string ⟨(l.map fun n => UInt8.ofNat n.toNat).toArray⟩) (w.freeze ⟨g, o, none⟩ l.length) := by
  have hl : l.length ≠ 0 := by simpa using h0
  have hlb := run_loadBytesI (P := P) l ⟨g, o, none⟩ .empty w hcell
  have hlies := liesAt_off (P := P) (cells := cells) (off := o) (n := l.length) hc (by rw [hc]; simpa using hn)
  have h63' : ¬ (9223372036854775807 : Int) < (l.length : Int) := by omega
  have hdef : Builtin.unsafeString_ #[pt, it] ty #[.pointer (some ⟨g, o, none⟩), .int .i64 l.length] =
      (do
        let n ← asInt (.int .i64 l.length)
        if n < 0 then runtimePanic (.error "unsafe.String: len out of range")
        if n > IntKind.i64.max then unsupported (.unsafePointer "String: a length above the largest int")
        if n = 0 then pure (.string .empty)
        else if ← variablesAt ⟨g, o, none⟩ (← elemOf pt) n.toNat then do
          let s ← loadBytes ⟨g, o, none⟩ .empty n.toNat
          freeze ⟨g, o, none⟩ n.toNat
          pure (.string s)
        else unsupported (.unsafePointer "String: not so many bytes at ptr")) := rfl
  rw [hdef]
  have hmax : IntKind.i64.max = 9223372036854775807 := rfl
  have hneg : ¬ (l.length : Int) < 0 := by omega
  simp [asInt, asIntOf, hmax, h63', hneg, hl, variablesAt, hsh, elemOf, run_underlying hp, hlies, hlb]

theorem freeze_put {w : World} {B o n : Nat} {c : Array Value} {T : TypeId} {fr : Nat × Nat} (h : w.heap[B]? = some (.cells c T fr)) (hn : n ≠ 0) :
    w.freeze ⟨B, o, none⟩ n = putBlk w B (.cells c T (if fr.1 == fr.2 then (o, o + n) else (min fr.1 o, max fr.2 (o + n)))) := by
  have hlt := (Array.getElem?_eq_some_iff.1 h).1
  have hv := (Array.getElem?_eq_some_iff.1 h).2
  unfold World.freeze putBlk
  rw [if_neg hn]
  congr 1
  apply Array.ext_getElem?
  intro k
  rw [Array.getElem?_modify, Array.getElem?_setIfInBounds]
  by_cases hk : B = k
  · subst hk
    obtain ⟨lo, hi⟩ := fr
    simp [hlt, hv]
  · simp [hk]

theorem cellsOf_size (TO : TabOk P T) {t : TypeId} {n : Nat} (h : T.size t = some n) : P.cellsOf t = n := by
  obtain ⟨i, h1, h2⟩ := TO.size _ _ h
  simp [Program.cellsOf, h1, h2]

theorem unsafeStr_ok (TO : TabOk P T) (r : Rel G H w) {pt it ty : TypeId} {x y : DV} {vx vy : Value} (hx : V G x vx) (hy : V G y vy) (h : unsafeStrD T H pt x y = some d) :
    GoodV P G H w H d ((Builtin.unsafeString_ #[pt, it] ty #[vx, vy]).run P w) := by
  unfold unsafeStrD at h
  split at h
  · rename_i i
    by_cases hi : i = 0
    · rw [if_pos hi] at h
      subst hi
      obtain rfl := Option.some.inj h
      cases hx; cases hy
      exact good_ok r (V.str []) (Lib.run_unsafeString_none w pt it ty none)
    · rw [if_neg hi] at h; cases h
  · rename_i id sz off es i
    split at h
    · rename_i e e' k l e1 hm e2
      by_cases hc : e' = e ∧ sz = 1 ∧ T.size e = some 1 ∧ k = off + es.length ∧ i = es.length ∧ es.length < 9223372036854775808
      · rw [if_pos hc] at h
        obtain rfl := Option.some.inj h
        obtain ⟨rfl, rfl, hsz1, rfl, rfl, hlen⟩ := hc
        cases hy
        cases hx with
        | sd hne hsz he hl him hvv hp hcap =>
          rename_i vs B o cap
          rcases hp with rfl | ⟨e2', p, pc, q1, q2, q3, q4⟩
          · rw [r.z.2] at hm; cases hm
          · obtain ⟨t0, t9⟩ := r.tips id _ _ _ hm
            have hek : e2' = off + es.length := by have := t0 e2' (by rw [q2]; simp); omega
            subst hek
            obtain ⟨⟨c, T', fr, c1, c2, c3, c4, rfl, c6⟩, c5⟩ := t9 _ _ _ q2
            have hp' : o + es.length = p := by rw [← q3]; simp
            obtain ⟨ns, rfl, rfl⟩ := bytesOf_ok ⟨hl, hvv⟩ e2
            have hnl : ns.length = es.length := by have := hl; rw [flat_length he] at this; simpa using this.symm
            have hn0 : es.length ≠ 0 := by simpa using hne
            have hfz := c6 rfl
            have hrange : ∀ (j : Nat) (x : Int), ns[j]? = some x → w.cell? ⟨B, o + j, none⟩ = some (.int .u8 x) := fun j x hj => r.imCell (him j _ (by simp [hj]))
            have hsh : w.shape? B = some (T', c.size) := by simp [World.shape?, c1]
            have hrun := run_unsafeString_off (P := P) w pt it ty T' (TO.und _ _ e1) (cellsOf_size TO hsz1) B o c.size hsh ns (by rintro rfl; simp at hnl; exact hn0 hnl.symm) (by omega) (by omega) (fun j x hj => by rw [addr_add]; exact hrange j x hj)
            rw [hnl] at hrun
            rw [hrun, freeze_put c1 hn0]
            refine ⟨G, V.str _, Step.refreeze r hm q2 c1 ?_⟩
            split
            · simp only; omega
            · simp only; omega
      · rw [if_neg hc] at h; cases h
    · cases h
  · cases h
end
end Go.Proofs.YtcknfhhbijlobaaDoor.D
