/- D: what each operation does, held against the model's (4): slices. -/
import Derived.Test.YtcknfhhbijlobaaDoorDOps3
import Derived.Laws.BytesString
namespace Go.Proofs.YtcknfhhbijlobaaDoor.D
open Go
set_option linter.unusedVariables false
set_option linter.unusedSimpArgs false

section
variable {P : Program} {T : Tab} {G : Ghost} {H H' : DH} {w : World} {d : DV}

theorem DH.set_self {H : DH} {b : Nat} {o : DObj} (h : H.m b = some o) : H.set b o = H := by
  unfold DH.set
  cases H with
  | mk next m =>
    congr 1
    funext i
    split
    · rename_i e; subst e; exact h.symm
    · rfl

theorem flat_bytes (l : List UInt8) : flat (l.map byteDV) = l.map byteDV := by
  induction l with
  | nil => rfl
  | cons b l ih => simp [flat, byteDV, DV.cells, ih]
theorem VL_bytes (G : Ghost) (l : List UInt8) : VL G (l.map byteDV) (l.map fun b => Value.int .u8 (b.toNat : Int)) := by
  induction l with
  | nil => exact .nil _
  | cons b l ih => exact .cons (.int _ _) ih
theorem ones_bytes (l : List UInt8) : (flat (l.map byteDV)).all DV.one = true := by
  rw [flat_bytes]; simp [byteDV, DV.one]

theorem firstCells_slice {n m : Nat} {B o cap : Nat} {nv : List Value} (hl : nv.length = m * n) (h : ∀ (i : Nat) (v : Value), nv[i]? = some v → w.cell? ⟨B, o + i, none⟩ = some v) :
    (Builtin.firstCells n m (.slice (some ⟨B, o, none⟩) m cap)).run P w = .ok nv.toArray w := by
  have := run_loadCells_list (P := P) w ⟨B, o, none⟩ nv (fun j v hj => by rw [addr_add]; exact h j v hj)
  rw [hl] at this
  simpa [Builtin.firstCells] using this

theorem elems_ok (r : Rel G H w) {n : Nat} {x : DV} {vx : Value} {new : List DV} (hx : V G x vx) (hn : 0 < n) (h : elemsOf n x = some new) :
    ∃ nv, VL G (flat new) nv ∧ (∀ e ∈ new, e.cells.length = n) ∧ (flat new).all DV.one = true ∧ (∀ w, (Builtin.lenOf vx).run P w = .ok new.length w) ∧
      ∀ w', (∀ B, B < w.heap.size → w'.heap[B]? = w.heap[B]?) → (Builtin.firstCells n new.length vx).run P w' = .ok nv.toArray w' := by
  unfold elemsOf at h
  split at h
  · cases h; cases hx
    exact ⟨[], .nil _, by simp, by simp [flat], fun w => by simp [Builtin.lenOf], fun w' _ => by simp [Builtin.firstCells]⟩
  · split at h
    · rename_i hsz
      cases h
      cases hx with
      | sl hsz' he ho hl him hvv hln hcap hp =>
        rename_i vs B o cap len
        subst hsz; subst hln
        refine ⟨vs, ⟨hl, hvv⟩, he, ho, fun w => by simp [Builtin.lenOf], fun w' hw' => firstCells_slice (by rw [← hl, flat_length he]) fun i v hv => ?_⟩
        have := him i v hv
        obtain ⟨c, T, fr, h1, h2⟩ := r.im _ _ _ this
        have h3 := (hw' B (r.im_lt this)).trans h1
        simp [World.cell?, h3, h2]
    · cases h
  · split at h
    · rename_i s hs1
      cases h; cases hx
      subst hs1
      refine ⟨s.map fun b => Value.int .u8 (b.toNat : Int), by rw [flat_bytes]; exact VL_bytes G s, by simp [byteDV, DV.cells], ones_bytes s, fun w => by simp [Builtin.lenOf, ba_size], fun w' _ => ?_⟩
      have : (⟨s.toArray⟩ : ByteArray).extract 0 s.length = ⟨s.toArray⟩ := by
        have := ByteArray.extract_zero_size (b := ⟨s.toArray⟩)
        rwa [ba_size] at this
      simp [Builtin.firstCells, this]
    · cases h
  · cases h

theorem zeroCells_len (z : Array Value) (n : Nat) : (Builtin.zeroCells z n).toList.length = n * z.size := by simp [Builtin.zeroCells]

/-- append, where a new row is made. -/
theorem run_append_new {t u ty e : TypeId} {i : TypeInfo} {z : Value} {du : TypeDesc} (ht : P.underlying t = some (.slice e)) (hu : P.underlying u = some du) (hdu : srcOk du = true)
    (hi : P.info? e = some i) (hz : i.zero = some z) {base : Option Addr} {len cap m : Nat} {vx : Value} {ov nv : List Value}
    (hlx : ∀ w, (Builtin.lenOf vx).run P w = .ok m w) (hov : (Builtin.firstCells i.size len (.slice base len cap)).run P w.drew = .ok ov.toArray w.drew) (hnv : (Builtin.firstCells i.size m vx).run P w.drew = .ok nv.toArray w.drew)
    (hneed : cap < len + m) (hb : (len + m) * i.bytes ≤ 140737488355328) (h63 : len + m < 9223372036854775808) :
    (Builtin.append_ #[t, u] ty #[.slice base len cap, vx]).run P w =
      .ok (.slice (some ⟨w.heap.size, 0, none⟩) (len + m) (grownCap w (len + m) cap e)) (w.drew.alloc (.cells ((ov ++ nv) ++ (Builtin.zeroCells z.cells (grownCap w (len + m) cap e - (len + m))).toList).toArray e (0, 0))) := by
  have hn : ¬ (len + m ≤ cap) := by omega
  have h63' : ¬ (9223372036854775807 < (len : Int) + (m : Int)) := by omega
  have h48 := growslice_fits hneed hb
  have h48' : ¬ (281474976710656 < Builtin.nextslicecap (len + m) cap * i.bytes) := by omega
  have hcat : ov.toArray ++ nv.toArray ++ Builtin.zeroCells z.cells (grownCap w (len + m) cap e - (len + m)) = ((ov ++ nv) ++ (Builtin.zeroCells z.cells (grownCap w (len + m) cap e - (len + m))).toList).toArray := by
    apply Array.toList_inj.1
    simp
  rw [← hcat]
  obtain ⟨e2, rfl⟩ | rfl : (∃ e2, du = .slice e2) ∨ du = .string := by cases du <;> simp [srcOk] at hdu ⊢
  all_goals
    simp only [Builtin.append_, List.getElem?_toArray, List.getElem?_cons_zero, List.getElem?_cons_succ, Sem.run_bind, run_underlying ht, run_underlying hu, Result.andThen_ok, sizeOf, typeInfo, run_program, hi, Sem.run_pure, hlx]
    simp [hn, h63', h48', Question.forced, hov, hnv, zeroValue, typeInfo, hi, hz, newRow, grownCap, hlx]
    congr 2
    apply Array.toList_inj.1
    simp

theorem append_ok (TO : TabOk P T) (r : Rel G H w) {t u ty : TypeId} {s x : DV} {vs vx : Value} (hs : V G s vs) (hx : V G x vx) (h : appendD T t u s x H = some (d, H')) :
    GoodV P G H w H' d ((Builtin.append_ #[t, u] ty #[vs, vx]).run P w) := by
  unfold appendD at h
  split at h
  · rename_i e e1
    split at h
    · rename_i n by_ du z e2 e3 e4 e5
      split at h
      · rename_i new hnew
        split at h
        · rename_i hc
          obtain ⟨hn, hdu, hzl⟩ := hc
          obtain ⟨nv, hnvl, hne, hno, hlx, hfx⟩ := elems_ok r hx hn hnew
          obtain ⟨i, i1, i2⟩ := TO.size _ _ e2
          obtain ⟨i', j1, j2⟩ := TO.bytes _ _ e3
          obtain ⟨i'', zv, k1, k2, k3⟩ := TO.zero _ _ e5
          rw [i1] at j1 k1
          obtain rfl := Option.some.inj j1
          obtain rfl := Option.some.inj k1
          subst i2; subst j2
          have hzs : zv.cells.size = i.size := by have := (k3 G).cells.1; simp [hzl] at this; omega
          have hnvlen : nv.length = new.length * i.size := by rw [← hnvl.1, flat_length hne]
          cases s <;> first | (cases h; done) | skip
          · -- nil
            cases hs
            simp only at h
            by_cases hb : new.length * i.bytes ≤ 140737488355328 ∧ new.length < 9223372036854775808
            · rw [if_pos hb] at h
              by_cases h0 : new.isEmpty = true
              · rw [if_pos h0] at h
                have hdH := Prod.mk.inj (Option.some.inj h)
                rw [← hdH.1, ← hdH.2]
                have h00 : new.length = 0 := by simpa using h0
                have hlx0 : ∀ w, (Builtin.lenOf vx).run P w = .ok 0 w := fun w => by have := hlx w; rwa [h00] at this
                have hfx0 : (Builtin.firstCells i.size 0 vx).run P w = .ok #[] w := by
                  have := hfx w (fun _ _ => rfl)
                  rw [h00] at this
                  rw [this]
                  have : nv = [] := List.eq_nil_of_length_eq_zero (by rw [hnvlen, h00]; simp)
                  rw [this]
                refine good_ok r .nils ?_
                obtain ⟨e2', rfl⟩ | rfl : (∃ e2, du = .slice e2) ∨ du = .string := by cases du <;> simp [srcOk] at hdu ⊢
                all_goals
                  simp [Builtin.append_, run_underlying (TO.und _ _ e1), run_underlying (TO.und _ _ e4), sizeOf, typeInfo, i1, hlx0, hfx0]
              · rw [if_neg h0] at h
                have hpos : 0 < new.length := by cases new with | nil => exact absurd rfl h0 | cons a b => simp
                rw [run_append_new (TO.und _ _ e1) (TO.und _ _ e4) hdu i1 k2 (ov := []) hlx (by simp [Builtin.firstCells]) (hfx _ (fun _ _ => rfl)) (by omega) (by simpa using hb.1) (by simpa using hb.2)]
                simp only [Nat.zero_add, List.nil_append]
                have hge := grownCap_ge w new.length 0 e
                have hst := Step.drew r
                by_cases hwr : T.wr e = true
                · rw [if_pos hwr] at h
                  have hdH := Prod.mk.inj (Option.some.inj h)
                  rw [← hdH.1, ← hdH.2]
                  obtain ⟨G', st, g1, g2⟩ := Step.row (w := w.drew) (w' := w.drew.alloc (.cells (nv ++ (Builtin.zeroCells zv.cells (grownCap w new.length 0 e - new.length)).toList).toArray e (0, 0))) hst.rel (b0 := H.next) (B := w.heap.size) (s := 0)
                    (pc := grownCap w new.length 0 e * i.size) (T := e) (cs := flat new) (c := (nv ++ (Builtin.zeroCells zv.cells (grownCap w new.length 0 e - new.length)).toList).toArray) (fr := (0, 0)) (vs := nv) (H' := (newHs H e i.size new.length (flat new)).2)
                    ⟨rfl, by simp [newHs, DH.new], fun q hq => .inl (by simp [newHs, DH.new, hq])⟩ (.inr rfl) (heap_alloc_new w.drew _) (fun B' h1 _ => heap_alloc_old w.drew _ B' h1) (by simp)
                    (by rw [hnvl.1, hnvlen]; simp only [Nat.zero_add]; exact Nat.mul_le_mul_right _ hge)
                    (by simp only [List.size_toArray, List.length_append, zeroCells_len, hnvlen, hzs, ← Nat.add_mul]; apply Nat.le_of_eq; congr 1; omega) hnvl
                    (fun j v hj => by simp only [Nat.zero_add, List.getElem?_toArray]; rw [List.getElem?_append_left (List.getElem?_eq_some_iff.1 hj).1]; exact hj) (by simp) rfl rfl rfl
                  refine ⟨G', V.hs g1 hge (.inr ⟨rfl, 0, _, g2, by simp⟩), hst.trans st⟩
                rw [if_neg hwr] at h
                have hdH := Prod.mk.inj (Option.some.inj h)
                rw [← hdH.1, ← hdH.2]
                obtain ⟨G', st, hv⟩ := Step.newSlice (w := w.drew) hst.rel (es := new) (post := (Builtin.zeroCells zv.cells (grownCap w new.length 0 e - new.length)).toList) (cap := grownCap w new.length 0 e) (T' := e) (fr := (0, 0)) (cl := true) hn hne hno hnvl
                  (by rw [List.length_append, zeroCells_len, hnvlen, hzs, ← Nat.add_mul]; congr 1; omega) (by simp) (by simp)
                exact ⟨G', hv, hst.trans st⟩
            · rw [if_neg hb] at h; cases h
          rotate_left
          · rename_i bb sz off len
            simp only at h
            cases hm : H.m bb with
            | none => simp [hm] at h
            | some ob =>
             cases ob with
             | cells _ _ => simp [hm] at h
             | iter _ _ => simp [hm] at h
             | map _ => simp [hm] at h
             | tip _ _ _ => simp [hm] at h
             | row e' cs =>
              simp only [hm] at h
              by_cases hb : sz = i.size ∧ e' = e ∧ off + len * i.size ≤ cs.length ∧ (len + new.length) * i.bytes ≤ 140737488355328 ∧ len + new.length < 9223372036854775808 ∧ new ≠ []
              · rw [if_pos hb] at h
                have hdH := Prod.mk.inj (Option.some.inj h)
                rw [← hdH.1, ← hdH.2]
                obtain ⟨rfl, rfl, hcl, hb1, hb2, hne0⟩ := hb
                have hpos : 0 < new.length := List.length_pos_iff.2 hne0
                cases hs with
                | hs hρ hcap hp =>
                  rename_i B s o cap
                  obtain ⟨⟨p, pc, c, fr, vs, c0, c1, c2, c3, c4, c5, c6⟩, c7⟩ := r.rows bb _ _ hm _ _ hρ
                  have hown : ownR G H bb = some B := by simp [ownR, hm, hρ]
                  have hlo : ((vs.drop off).take (len * i.size)).length = len * i.size := by rw [List.length_take, List.length_drop, ← c4.1]; omega
                  have hVL : VL G ((cs.drop off).take (len * i.size) ++ flat new) ((vs.drop off).take (len * i.size) ++ nv) := ((c4.drop off).take _).append hnvl
                  have hcell : ∀ (j : Nat) (v : Value), ((vs.drop off).take (len * i.size))[j]? = some v → c[s + off + j]? = some v := by
                    intro j v hj
                    rw [List.getElem?_take] at hj
                    split at hj
                    · rw [List.getElem?_drop] at hj
                      rw [Nat.add_assoc]; exact c5 _ _ hj
                    · cases hj
                  have hnext : bb ≠ H.next := by rintro rfl; rw [(r.wf _ (Nat.le_refl _)).1] at hm; cases hm
                  by_cases hroom : len + new.length ≤ cap
                  · obtain ⟨rfl, p', pc', q1, q2⟩ : o = s + off ∧ ∃ p pc, G.place bb 0 = some (B, p, pc) ∧ o + cap * i.size ≤ pc := by
                      rcases hp with h | h
                      · omega
                      · exact h
                    rw [c0] at q1
                    obtain ⟨rfl, rfl⟩ : p = p' ∧ pc = pc' := by simpa using q1
                    have hroom' : s + off + len * i.size + nv.length ≤ pc := by
                      have := Nat.mul_le_mul_right i.size hroom
                      rw [Nat.add_mul] at this
                      omega
                    have hst := run_storeCells_free P B e' fr nv 0 (s + off + len * i.size) c w c1 (fun q hq1 hq2 => c6 q (by omega) (by omega)) (by omega) (hnvl.ones hno)
                    simp only [Nat.add_zero] at hst
                    have hf := hfx w (fun _ _ => rfl)
                    have hrun : (Builtin.append_ #[t, u] ty #[.slice (some ⟨B, s + off, none⟩) len cap, vx]).run P w = .ok (.slice (some ⟨B, s + off, none⟩) (len + new.length) cap)
                        (putBlk w B (.cells (c.toList.take (s + off + len * i.size) ++ nv ++ c.toList.drop (s + off + len * i.size + nv.length)).toArray e' fr)) := by
                      obtain ⟨e2', rfl⟩ | rfl : (∃ e2, du = .slice e2) ∨ du = .string := by cases du <;> simp [srcOk] at hdu ⊢
                      all_goals
                        simp [Builtin.append_, run_underlying (TO.und _ _ e1), run_underlying (TO.und _ _ e4), sizeOf, typeInfo, i1, hlx, hf, hroom, addr_add, hst]
                    rw [hrun]
                    have hcl2 : (c.toList.take (s + off + len * i.size)).length = s + off + len * i.size := by simp; omega
                    obtain ⟨G', st, g1, g2⟩ := Step.row (w := w) (w' := putBlk w B (.cells (c.toList.take (s + off + len * i.size) ++ nv ++ c.toList.drop (s + off + len * i.size + nv.length)).toArray e' fr)) r (b0 := bb) (B := B) (s := s + off)
                      (pc := pc) (T := e') (cs := (cs.drop off).take (len * i.size) ++ flat new) (c := (c.toList.take (s + off + len * i.size) ++ nv ++ c.toList.drop (s + off + len * i.size + nv.length)).toArray) (fr := fr) (vs := (vs.drop off).take (len * i.size) ++ nv)
                      (H' := H.mov bb (.row e' ((cs.drop off).take (len * i.size) ++ flat new)))
                      ⟨rfl, by simp [DH.mov], fun q hq => by by_cases hqb : q = bb; exact .inr ⟨hqb, by simp [DH.mov, hq, hqb, hnext]⟩; exact .inl (by simp [DH.mov, hq, hqb])⟩
                      (.inl ⟨hown, by simp [DH.mov, hnext], c7⟩) (putBlk_at c1) (fun B' _ h => putBlk_ne h) (by simp [putBlk])
                      (by rw [hVL.1, List.length_append, hlo]; omega) (by simp only [List.size_toArray, List.length_append, List.length_take, List.length_drop, Array.length_toList]; omega) hVL
                      (fun j v hj => by
                        simp only [List.getElem?_toArray]
                        by_cases hjl : j < len * i.size
                        · rw [List.getElem?_append_left (by omega)] at hj
                          rw [List.append_assoc, List.getElem?_append_left (by omega), List.getElem?_take, if_pos (by omega), Array.getElem?_toList]
                          exact hcell j v hj
                        · rw [List.getElem?_append_right (by omega), hlo] at hj
                          have := (List.getElem?_eq_some_iff.1 hj).1
                          rw [List.append_assoc, List.getElem?_append_right (by omega), hcl2, show s + off + j - (s + off + len * i.size) = j - len * i.size by omega, List.getElem?_append_left (by omega)]
                          exact hj) (fun q hq1 hq2 => c6 q (by omega) hq2) rfl rfl rfl
                    exact ⟨G', V.hs g1 hroom (.inr ⟨rfl, _, _, g2, q2⟩), st⟩
                  · have hold : (Builtin.firstCells i.size len (.slice (some ⟨B, o, none⟩) len cap)).run P w.drew = .ok ((vs.drop off).take (len * i.size)).toArray w.drew := by
                      refine firstCells_slice (w := w.drew) hlo fun j v hj => ?_
                      have hj1 := (List.getElem?_eq_some_iff.1 hj).1
                      obtain ⟨rfl, _⟩ : o = s + off ∧ True := by
                        rcases hp with h | h
                        · exfalso
                          have : len = 0 := by omega
                          subst this
                          simp at hj1
                        · exact ⟨h.1, trivial⟩
                      have := hcell j v hj
                      simp [World.cell?, show w.drew.heap = w.heap from rfl, c1, this]
                    rw [run_append_new (TO.und _ _ e1) (TO.und _ _ e4) hdu i1 k2 (ov := (vs.drop off).take (len * i.size)) hlx hold (hfx _ (fun _ _ => rfl)) (by omega) hb1 hb2]
                    have hge := grownCap_ge w (len + new.length) cap e'
                    have hst := Step.drew r
                    obtain ⟨G', st, g1, g2⟩ := Step.row (w := w.drew) (w' := w.drew.alloc (.cells (((vs.drop off).take (len * i.size) ++ nv) ++ (Builtin.zeroCells zv.cells (grownCap w (len + new.length) cap e' - (len + new.length))).toList).toArray e' (0, 0))) hst.rel (b0 := bb) (B := w.heap.size) (s := 0)
                      (pc := grownCap w (len + new.length) cap e' * i.size) (T := e') (cs := (cs.drop off).take (len * i.size) ++ flat new) (c := (((vs.drop off).take (len * i.size) ++ nv) ++ (Builtin.zeroCells zv.cells (grownCap w (len + new.length) cap e' - (len + new.length))).toList).toArray) (fr := (0, 0)) (vs := (vs.drop off).take (len * i.size) ++ nv)
                      (H' := H.mov bb (.row e' ((cs.drop off).take (len * i.size) ++ flat new)))
                      ⟨rfl, by simp [DH.mov], fun q hq => by by_cases hqb : q = bb; exact .inr ⟨hqb, by simp [DH.mov, hq, hqb, hnext]⟩; exact .inl (by simp [DH.mov, hq, hqb])⟩
                      (.inr rfl) (heap_alloc_new w.drew _) (fun B' h1 _ => heap_alloc_old w.drew _ B' h1) (by simp)
                      (by rw [hVL.1, List.length_append, hlo, hnvlen, ← Nat.add_mul, Nat.zero_add]; exact Nat.mul_le_mul_right _ hge)
                      (by simp only [List.size_toArray, List.length_append, zeroCells_len, hlo, hnvlen, hzs, ← Nat.add_mul]; apply Nat.le_of_eq; congr 1; omega) hVL
                      (fun j v hj => by simp only [Nat.zero_add, List.getElem?_toArray]; rw [List.getElem?_append_left (List.getElem?_eq_some_iff.1 hj).1]; exact hj) (by simp) rfl rfl rfl
                    exact ⟨G', V.hs g1 hge (.inr ⟨rfl, _, _, g2, by simp⟩), hst.trans st⟩
              · rw [if_neg hb] at h; cases h
          · rename_i id sz off es
            simp only at h
            cases hm : H.m id with
            | none => simp [hm] at h
            | some ob =>
             cases ob with
             | cells _ _ => simp [hm] at h
             | row _ _ => simp [hm] at h
             | iter _ _ => simp [hm] at h
             | map _ => simp [hm] at h
             | tip e' k cl =>
              simp only [hm] at h
              by_cases hb : sz = i.size ∧ e' = e ∧ k = off + es.length ∧ (es.length + new.length) * i.bytes ≤ 140737488355328 ∧ es.length + new.length < 9223372036854775808
              · rw [if_pos hb] at h
                have hdH := Prod.mk.inj (Option.some.inj h)
                rw [← hdH.1, ← hdH.2]
                obtain ⟨rfl, rfl, rfl, hb1, hb2⟩ := hb
                cases hs with
                | sl hsz he ho hl him hvv hln hcap hp =>
                  rename_i vs B o cap len
                  subst hln
                  have hvslen : vs.length = es.length * i.size := by rw [← hl, flat_length he]
                  by_cases hm0 : new.length = 0
                  · have hnn : new = [] := List.eq_nil_of_length_eq_zero hm0
                    have hH : H.set id (.tip e' (off + es.length + new.length) cl) = H := DH.set_self (by rw [hm0]; simpa using hm)
                    rw [hH]
                    refine good_ok r (by rw [hnn, List.append_nil]; exact V.sl hsz he ho hl him hvv rfl hcap hp) (v := .slice (some ⟨B, o, none⟩) es.length cap) ?_
                    have hlx0 : ∀ w, (Builtin.lenOf vx).run P w = .ok 0 w := fun w => by have := hlx w; rwa [hm0] at this
                    have hf : (Builtin.firstCells i.size 0 vx).run P w = .ok #[] w := by
                      have := hfx w (fun _ _ => rfl)
                      rw [hm0] at this
                      rw [this]
                      have : nv = [] := List.eq_nil_of_length_eq_zero (by rw [hnvlen, hm0]; simp)
                      rw [this]
                    obtain ⟨e2', rfl⟩ | rfl : (∃ e2, du = .slice e2) ∨ du = .string := by cases du <;> simp [srcOk] at hdu ⊢
                    all_goals
                      simp [Builtin.append_, run_underlying (TO.und _ _ e1), run_underlying (TO.und _ _ e4), sizeOf, typeInfo, i1, hlx0, hf, hcap, storeCells]
                  · by_cases hroom : es.length + new.length ≤ cap
                    · -- in place
                      rcases hp with hp | hp | ⟨e', p, pc, q1, q2, q3, q4⟩
                      · omega
                      · subst hp; rw [r.z.2] at hm; cases hm
                      · obtain ⟨t0, t9⟩ := r.tips id _ _ _ hm
                        have hek : e' = off + es.length := by have := t0 e' (by rw [q2]; simp); omega
                        subst hek
                        obtain ⟨⟨c, T', fr, c1, c2, c3, c4, c6⟩, c5⟩ := t9 _ _ _ q2
                        have hp' : o + es.length * i.size = p := by rw [← q3]; congr 2; omega
                        have hroom' : p + nv.length ≤ pc := by
                          rw [← hp', hnvlen, Nat.add_assoc, ← Nat.add_mul]
                          exact Nat.le_trans (Nat.add_le_add_left (Nat.mul_le_mul_right _ hroom) o) q4
                        obtain ⟨G', st, g1, g2⟩ := Step.appendIn r (m := new.length) hm q2 c1 hroom' (fun h => absurd h hm0)
                        have hst := run_storeCells_free P B T' fr nv 0 p c w c1 (fun q hq1 hq2 => c4 q (by omega) (by omega)) (by omega) (hnvl.ones hno)
                        have hf := hfx w (fun _ _ => rfl)
                        have hrun : (Builtin.append_ #[t, u] ty #[.slice (some ⟨B, o, none⟩) es.length cap, vx]).run P w = .ok (.slice (some ⟨B, o, none⟩) (es.length + new.length) cap)
                            (putBlk w B (.cells (c.toList.take p ++ nv ++ c.toList.drop (p + nv.length)).toArray T' fr)) := by
                          obtain ⟨e2', rfl⟩ | rfl : (∃ e2, du = .slice e2) ∨ du = .string := by cases du <;> simp [srcOk] at hdu ⊢
                          all_goals
                            simp only [Nat.add_zero] at hst
                            simp [Builtin.append_, run_underlying (TO.und _ _ e1), run_underlying (TO.und _ _ e4), sizeOf, typeInfo, i1, hlx, hf, hroom, addr_add, hp', hst]
                        rw [hrun]
                        refine ⟨G', ?_, st⟩
                        refine V.sl (vs := vs ++ nv) hsz (fun x hx => ?_) ?_ ?_ ?_ ?_ (by simp) (by simpa using hroom) (.inr (.inr ⟨off + es.length + new.length, p + nv.length, pc, by omega, g2, ?_, q4⟩))
                        · rcases List.mem_append.1 hx with h | h
                          · exact he x h
                          · exact hne x h
                        · rw [flat_append, List.all_append, ho, hno]; rfl
                        · rw [flat_append, List.length_append, List.length_append, hl, hnvl.1]
                        · intro j v hj
                          by_cases hjl : j < vs.length
                          · rw [List.getElem?_append_left hjl] at hj
                            exact st.le.im _ _ _ (him j v hj)
                          · rw [List.getElem?_append_right (by omega)] at hj
                            have := g1 _ _ hj
                            rw [show o + j = p + (j - vs.length) by rw [← hp', ← hvslen]; omega]
                            exact this
                        · rw [flat_append]
                          exact ((VL.mono st.le ⟨hl, hvv⟩).append (hnvl.mono st.le)).2
                        · rw [← hp', hnvlen, show off + es.length + new.length - off = es.length + new.length by omega, Nat.add_mul]
                          omega
                    · -- a new row
                      have hold : (Builtin.firstCells i.size es.length (.slice (some ⟨B, o, none⟩) es.length cap)).run P w.drew = .ok vs.toArray w.drew :=
                        firstCells_slice (w := w.drew) hvslen fun j v hj => (Step.drew r).rel.imCell (him j v hj)
                      rw [run_append_new (TO.und _ _ e1) (TO.und _ _ e4) hdu i1 k2 (ov := vs) hlx hold (hfx _ (fun _ _ => rfl)) (by omega) hb1 hb2]
                      have hge := grownCap_ge w (es.length + new.length) cap e'
                      have hst := Step.drew r
                      obtain ⟨G', st, g1, g2⟩ := Step.appendNew (w := w.drew) hst.rel (m := new.length) (vs := vs ++ nv) (post := (Builtin.zeroCells zv.cells (grownCap w (es.length + new.length) cap e' - (es.length + new.length))).toList) (T' := e') hm (by omega)
                      refine ⟨G', ?_, hst.trans st⟩
                      have hvn : (vs ++ nv).length = (es.length + new.length) * i.size := by rw [List.length_append, hvslen, hnvlen, Nat.add_mul]
                      refine V.sl (vs := vs ++ nv) hsz (fun x hx => ?_) ?_ ?_ ?_ ?_ (by simp) hge (.inr (.inr ⟨off + es.length + new.length, _, _, by omega, g2, ?_, ?_⟩))
                      · rcases List.mem_append.1 hx with h | h
                        · exact he x h
                        · exact hne x h
                      · rw [flat_append, List.all_append, ho, hno]; rfl
                      · rw [flat_append, List.length_append, List.length_append, hl, hnvl.1]
                      · intro j v hj
                        rw [Nat.zero_add]
                        exact g1 j v hj
                      · rw [flat_append]
                        exact ((VL.mono (hst.trans st).le ⟨hl, hvv⟩).append (hnvl.mono (hst.trans st).le)).2
                      · rw [hvn, Nat.zero_add]; congr 1; omega
                      · rw [List.length_append, hvn, zeroCells_len, hzs, ← Nat.add_mul, Nat.zero_add]
                        apply Nat.le_of_eq; congr 1; omega
              · rw [if_neg hb] at h; cases h
        · cases h
      · cases h
    · cases h
  · cases h
end
end Go.Proofs.YtcknfhhbijlobaaDoor.D
