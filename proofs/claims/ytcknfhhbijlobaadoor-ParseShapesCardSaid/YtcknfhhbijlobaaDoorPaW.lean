import Derived.Test.YtcknfhhbijlobaaDoorPaMo
import Derived.Test.YtcknfhhbijlobaaDoorParF
/- ParseWithin: the walk. -/
namespace Go.Proofs.YtcknfhhbijlobaaDoor.D
open Go
set_option linter.unusedVariables false
set_option linter.unusedSimpArgs false
set_option maxRecDepth 100000

theorem PrgV.tops {R : List Stm} {top : List Nat} {stmv topv : DV} (h : PrgV R top stmv topv) : ∀ H, lenD cfg.T H 24 topv = some (.int .i64 top.length) := by
  obtain ⟨_, htop⟩ := h
  intro H
  rcases htop with ⟨rfl, rfl⟩ | ⟨id, off, rfl⟩
  · rw [slv_len (sz := 1) (.inl ⟨rfl, rfl⟩) und_24]; rfl
  · rw [slv_len (.inr ⟨id, off, rfl⟩) und_24, List.length_map]
theorem IsSl.other {lo lo' : Nat} {H H' : DH} {e sz e' sz' : Nat} {v v' : DV} {es es' : List DV} (h : IsSl lo H e sz v es) (x : Same v' H H') (h' : IsSl lo' H e' sz' v' es') (hne : e ≠ e') : IsSl lo H' e sz v es := by
  refine h.keep x.le fun id hid => ?_
  obtain ⟨g1, g2, k, g3⟩ := h.tip id hid
  refine x.same id g2 fun id' sz2 off2 es2 hv => ?_
  rintro rfl
  subst hv
  obtain ⟨_, _, k', g3'⟩ := h'.tip id (by simp [slid])
  rw [g3] at g3'
  cases g3'
  exact hne rfl
theorem IntsV.facts {l : List Nat} {v : DV} (h : IntsV l v) : v.one = true ∧ v.cells = [v] ∧ ∀ H, lenD cfg.T H 24 v = some (.int .i64 l.length) := by
  rcases h with ⟨rfl, rfl⟩ | ⟨id, off, rfl⟩
  · exact ⟨rfl, rfl, fun H => slv_len (sz := 1) (.inl ⟨rfl, rfl⟩) und_24⟩
  · exact ⟨rfl, rfl, fun H => by rw [slv_len (.inr ⟨id, off, rfl⟩) und_24, List.length_map]⟩
def ownL (N k : Nat) : List Nat := N :: (List.range k).flatMap fun j => [j, j]
theorem ownL_succ {N k : Nat} : ownL N (k + 1) = ownL N k ++ [k, k] := by simp [ownL, List.range_succ]
theorem ownL_len {N k : Nat} : (ownL N k).length = 1 + 2 * k := by
  induction k with
  | zero => rfl
  | succ k ih => rw [ownL_succ, List.length_append, ih]; simp; omega
theorem allL_take {R : List Stm} {k : Nat} {x : Stm} (h : R[k]? = some x) : allL (R.take (k + 1)) = allL (R.take k) ++ [x.l, x.m] := by
  rw [List.take_add_one, h, allL_app]; rfl
theorem allL_len {R : List Stm} : (allL R).length = 2 * R.length := by
  induction R with
  | nil => rfl
  | cons a R ih => rw [show allL (a :: R) = [a.l, a.m] ++ allL R from rfl, List.length_append, ih]; simp; omega
theorem pairs_get {α β : Type} (f g : α → β) : ∀ (xs : List α) (j : Nat), (xs.flatMap fun x => [f x, g x])[j]? = if j % 2 = 0 then (xs[j / 2]?).map f else (xs[j / 2]?).map g
  | [], j => by simp
  | x :: xs, 0 => by simp
  | x :: xs, 1 => by simp
  | x :: xs, j + 2 => by
    rw [List.flatMap_cons]
    show (f x :: g x :: (xs.flatMap fun x => [f x, g x]))[j + 2]? = _
    rw [List.getElem?_cons_succ, List.getElem?_cons_succ, pairs_get f g xs j]
    have h1 : (j + 2) % 2 = j % 2 := by omega
    have h2 : (j + 2) / 2 = j / 2 + 1 := by omega
    rw [h1, h2, List.getElem?_cons_succ]
theorem wi_rows {R : List Stm} {top : List Nat} (h : Wi R top [] []) {i : Nat} {l : List Nat} (hl : (top :: allL R)[i]? = some l) :
    ∃ o, (ownL R.length R.length)[i]? = some o ∧ (∀ n ∈ l, n < o ∧ n < R.length) ∧ l.Pairwise (· < ·) := by
  have hm : l ∈ top :: (allL R ++ allF [] ++ []) := by
    have := List.mem_of_getElem? hl
    simpa [allF] using this
  have hlt := fun n (hn : n ∈ l) => h.lt hm hn
  have hinc := h.inc l hm
  cases i with
  | zero =>
    refine ⟨R.length, rfl, fun n hn => ⟨hlt n hn, hlt n hn⟩, hinc⟩
  | succ j =>
    rw [List.getElem?_cons_succ] at hl
    unfold allL at hl
    rw [pairs_get] at hl
    have hs : ∃ s, R[j / 2]? = some s ∧ (l = s.l ∨ l = s.m) := by
      split at hl
      · obtain ⟨s, h1, h2⟩ := Option.map_eq_some_iff.1 hl
        exact ⟨s, h1, .inl h2.symm⟩
      · obtain ⟨s, h1, h2⟩ := Option.map_eq_some_iff.1 hl
        exact ⟨s, h1, .inr h2.symm⟩
    obtain ⟨s, hs1, hs2⟩ := hs
    have hj : j / 2 < R.length := (List.getElem?_eq_some_iff.1 hs1).1
    refine ⟨j / 2, ?_, fun n hn => ⟨?_, hlt n hn⟩, hinc⟩
    · unfold ownL
      rw [List.getElem?_cons_succ, pairs_get (fun j => j) (fun j => j)]
      rw [List.getElem?_range hj]
      split <;> rfl
    · refine h.own _ s hs1 n ?_
      rcases hs2 with rfl | rfl
      · simp [hn]
      · simp [hn]
def cntR (N : Nat) (f : List Nat) : List DV := (List.range N).map fun j => .int .i64 (f.count j)
theorem cntR_nil {N : Nat} : flat (List.replicate N (.int .i64 0)) = cntR N [] := by
  have e : flat (List.replicate N (.int .i64 0)) = List.replicate N (.int .i64 0) := by
    induction N with
    | zero => rfl
    | succ n ih =>
      rw [List.replicate_succ]
      show [DV.int .i64 0] ++ flat (List.replicate n (.int .i64 0)) = _
      rw [ih]; rfl
  rw [e]
  unfold cntR
  simp [List.map_const', List.eq_replicate_iff]
theorem cntR_get {N : Nat} {f : List Nat} {n : Nat} (h : n < N) : (cntR N f)[n]? = some (.int .i64 (f.count n)) := by
  unfold cntR; rw [List.getElem?_map, List.getElem?_range h]; rfl
theorem cntR_len {N : Nat} {f : List Nat} : (cntR N f).length = N := by unfold cntR; simp
theorem cntR_push {N : Nat} {f : List Nat} {n : Nat} (h : n < N) : (cntR N f).take n ++ [.int .i64 (f.count n + 1)] ++ (cntR N f).drop (n + 1) = cntR N (f ++ [n]) := by
  apply List.ext_getElem?
  intro j
  have hl : ((cntR N f).take n).length = n := by rw [List.length_take, cntR_len]; omega
  by_cases h1 : j < n
  · rw [List.append_assoc, List.getElem?_append_left (by omega), List.getElem?_take, if_pos h1, cntR_get (by omega), cntR_get (by omega), List.count_append, List.count_singleton]
    rw [if_neg (by simp; omega)]; rfl
  · by_cases h2 : j = n
    · subst h2
      rw [List.append_assoc, List.getElem?_append_right (by omega), hl]
      simp only [Nat.sub_self, List.cons_append, List.getElem?_cons_zero]
      rw [cntR_get h, List.count_append]
      simp
    · rw [List.getElem?_append_right (by rw [List.length_append, hl]; simp; omega), List.length_append, hl, List.getElem?_drop]
      simp only [List.length_cons, List.length_nil]
      rw [show n + 1 + (j - (n + (0 + 1))) = j by omega]
      by_cases h3 : j < N
      · rw [cntR_get h3, cntR_get h3, List.count_append, List.count_singleton]
        rw [if_neg (by simp; omega)]; rfl
      · rw [List.getElem?_eq_none (by rw [cntR_len]; omega), List.getElem?_eq_none (by rw [cntR_len]; omega)]
theorem inc_ge {l : List Nat} (h : l.Pairwise (· < ·)) : ∀ (k n : Nat), l[k]? = some n → k ≤ n
  | 0, n, _ => Nat.zero_le _
  | k + 1, n, hn => by
    obtain ⟨h2, e2⟩ := List.getElem?_eq_some_iff.1 hn
    have ih := inc_ge h k l[k] (List.getElem?_eq_getElem (by omega))
    have := List.pairwise_iff_getElem.1 h k (k + 1) (by omega) h2 (by omega)
    omega
set_option maxHeartbeats 1000000 in
theorem parseWithin_ok {s : List UInt8} {H : DH} : WC cfg 3 [.str s] H fun v H' => v = .bool true := by
  refine WC_of (show Has cfg 3 196 [.tmp 2] _ from ⟨by kernel_rfl, Tryd.f3, Tryd.func3, rfl, rfl, rfl, by kernel_rfl⟩) (by simp) ?_
  simp -dsimp (disch := first | omega | (refine DrawYes.mk ?_; decide +kernel) | fail) only [go_sem, ↓reduceIte, reduceCtorEq, Nat.reduceEqDiff, Nat.reduceAdd, Nat.reduceLeDiff, Int.reduceLE, Int.reduceLT, Int.reduceBEq, Int.reduceBNe, Int.reduceEq, Nat.reduceBEq, Int.reduceToNat, Nat.reduceLT, Nat.reduceGT, Nat.reduceSub, Nat.reduceMul, Int.reduceAdd, Int.reduceSub, Int.reduceNeg, Int.reduceGE, Int.reduceGT]
  refine call pshown_ok ?_
  rintro _ H1 ⟨rfl, hE⟩
  simp -dsimp (disch := first | omega | (refine DrawYes.mk ?_; decide +kernel) | fail) only [go_sem, ↓reduceIte, reduceCtorEq, Nat.reduceEqDiff, Nat.reduceAdd, Nat.reduceLeDiff, Int.reduceLE, Int.reduceLT, Int.reduceBEq, Int.reduceBNe, Int.reduceEq, Nat.reduceBEq, Int.reduceToNat, Nat.reduceLT, Nat.reduceGT, Nat.reduceSub, Nat.reduceMul, Int.reduceAdd, Int.reduceSub, Int.reduceNeg, Int.reduceGE, Int.reduceGT, psh_eq]
  refine call (parse_ok (by simp; omega)) ?_
  rintro _ H2 ⟨hE2, stmv, topv, rfl, hP⟩
  obtain ⟨o1, o2, o3⟩ := hP.two
  have o4 := hP.tops
  by_cases he : (parseAll (s.take 2100)).e = 0
  · have h1 := parse_within he
    generalize parseAll (s.take 2100) = r at *
    obtain ⟨md, R, top, at_, e⟩ := r
    dsimp only at *
    subst he
    simp -dsimp (disch := first | omega | (refine DrawYes.mk ?_; decide +kernel) | fail) only [go_sem, ↓reduceIte, reduceCtorEq, Nat.reduceEqDiff, Nat.reduceAdd, Nat.reduceLeDiff, Int.reduceLE, Int.reduceLT, Int.reduceBEq, Int.reduceBNe, Int.reduceEq, Nat.reduceBEq, Int.reduceToNat, Nat.reduceLT, Nat.reduceGT, Nat.reduceSub, Nat.reduceMul, Int.reduceAdd, Int.reduceSub, Int.reduceNeg, Int.reduceGE, Int.reduceGT, o1, o2, o3]
    refine mk_sl und_24 size_3 bytes_3 zero_3 rfl (by decide) rfl (by omega) (by omega) (by omega) (by omega) ?_
    have y1 : ¬ H2.next = H2.next + 1 := by omega
    have c1 : (topv.cells.length = 1 ∧ topv.cells.all DV.one = true) = True := by
      obtain ⟨_, ⟨rfl, _⟩ | ⟨_, _, rfl⟩⟩ := hP <;> simp [DV.cells, DV.one]
    have y2 : ¬ H2.next = H2.next + 1 + 1 := by omega
    have y3 : ¬ H2.next = H2.next + 1 + 1 + 1 := by omega
    simp -dsimp (disch := first | omega | (refine DrawYes.mk ?_; decide +kernel) | fail) only [go_sem, ↓reduceIte, reduceCtorEq, Nat.reduceEqDiff, Nat.reduceAdd, Nat.reduceLeDiff, Int.reduceLE, Int.reduceLT, Int.reduceBEq, Int.reduceBNe, Int.reduceEq, Nat.reduceBEq, Int.reduceToNat, Nat.reduceLT, Nat.reduceGT, Nat.reduceSub, Nat.reduceMul, Int.reduceAdd, Int.reduceSub, Int.reduceNeg, Int.reduceGE, Int.reduceGT, o1, o2, o3, y1, c1, y2, y3]
    obtain ⟨hW, hm1, hm3, hN⟩ := h1
    obtain ⟨⟨es, hes, hst⟩, htop⟩ := hP
    generalize hP : H2.next = P at *
    refine Y_loop (α := Nat × List DV) (fun k σ H => k.1 ≤ R.length ∧ All2 IntsV (top :: allL (R.take k.1)) k.2 ∧ σ 3 = .bool true ∧ σ 4 = .ptr P 0 ∧ σ 7 = .hs (P + 1) 1 0 R.length ∧ σ 10 = .int .i64 k.1 ∧ P + 2 ≤ H.next ∧ H.m P = some (.cells 26 [.int .i64 md, stmv, topv]) ∧ H.m (P + 1) = some (.row 3 (flat (List.replicate R.length (.int .i64 0)))) ∧ IsSl (P + 2) H 24 1 (σ 8) k.2 ∧ IsSl (P + 2) H 3 1 (σ 9) ((ownL R.length k.1).map intV)) (fun k => R.length - k.1) (0, [topv]) ?_ ?_
    · simp -dsimp (disch := first | omega | (refine DrawYes.mk ?_; decide +kernel) | fail) only [go_sem, ↓reduceIte, reduceCtorEq, Nat.reduceEqDiff, Nat.reduceAdd, Nat.reduceLeDiff, Int.reduceLE, Int.reduceLT, Int.reduceBEq, Int.reduceBNe, Int.reduceEq, Nat.reduceBEq, Int.reduceToNat, Nat.reduceLT, Nat.reduceGT, Nat.reduceSub, Nat.reduceMul, Int.reduceAdd, Int.reduceSub, Int.reduceNeg, Int.reduceGE, Int.reduceGT]
      subst hP
      have q1 : ¬ H2.next + 1 = H2.next := by omega
      have q2 : ¬ H2.next + 1 = H2.next + 2 := by omega
      have q3 : ¬ H2.next + 1 + 1 = H2.next + 1 + 1 + 1 := by omega
      refine ⟨Nat.zero_le _, .cons htop .nil, by omega, by rw [if_neg y3, if_neg y2, if_neg y1], by simp, ?_, ?_⟩
      · exact .inr ⟨_, _, 1, rfl, by simp [DH.new, DH.set], rfl, by omega, by simp [DH.new, DH.set], by simp⟩
      · exact .inr ⟨_, _, 1, rfl, by simp [DH.new, DH.set], rfl, by omega, by simp [DH.new, DH.set], by simp [ownL]⟩
    rintro ⟨k, rv⟩ σ H3 ⟨hk, hrv, h3, h4, h7, h10, hPn, hp, hb, hr, ho⟩
    dsimp only at hk hrv h10 hr ho
    by_cases hlt : k < R.length
    · have i0 : (k : Int) < R.length := by omega
      obtain ⟨x, hx⟩ : ∃ x, R[k]? = some x := ⟨_, List.getElem?_eq_getElem hlt⟩
      obtain ⟨d, hd, vl, vm, rfl, hvl, hvm⟩ := hst.get hx
      have hel := hst.len
      rcases hes with ⟨rfl, rfl⟩ | ⟨id, off, rfl⟩
      · simp at hd
      have i1 : (k : Int) < es.length := by omega
      obtain ⟨u1, u2, u3⟩ := hvl.facts
      obtain ⟨w1, w2, w3⟩ := hvm.facts
      obtain ⟨f1, f2, f3, f4⟩ := hW.fin x (List.mem_of_getElem? hx)
      have g1 : ¬ (x.kind : Int) < 1 := by omega
      have g2 : ¬ 17 < (x.kind : Int) := by omega
      have hc : (((x.kind : Int) != 5) = false ∧ True ∧ True ∧ True) ∨ (((x.kind : Int) != 5) = true ∧ ((x.kind : Int) != 6) = false ∧ ¬ 0 < (x.m.length : Int) ∧ True) ∨ (((x.kind : Int) != 5) = true ∧ ((x.kind : Int) != 6) = true ∧ ¬ 0 < (x.m.length : Int) ∧ ¬ 0 < (x.l.length : Int)) := by
        by_cases k5 : x.kind = 5
        · exact .inl ⟨by simp; omega, trivial, trivial, trivial⟩
        · by_cases k6 : x.kind = 6
          · exact .inr (.inl ⟨by simp; omega, by simp; omega, by rw [f4 k5]; decide, trivial⟩)
          · exact .inr (.inr ⟨by simp; omega, by simp; omega, by rw [f4 k5]; decide, by rw [f3 k5 k6]; decide⟩)
      have hext : Ext H3 H3 := Ext.refl
      have hrl : rv.length = 1 + 2 * k := by
        have := hrv.len
        rw [List.length_cons, allL_len, List.length_take] at this
        omega
      rcases hc with ⟨j5, j6, jm, jl⟩ | ⟨j5, j6, jm, jl⟩ | ⟨j5, j6, jm, jl⟩
      all_goals
        simp -dsimp (disch := first | omega | (refine DrawYes.mk ?_; decide +kernel) | fail) only [go_sem, ↓reduceIte, reduceCtorEq, Nat.reduceEqDiff, Nat.reduceAdd, Nat.reduceLeDiff, Int.reduceLE, Int.reduceLT, Int.reduceBEq, Int.reduceBNe, Int.reduceEq, Nat.reduceBEq, Int.reduceToNat, Nat.reduceLT, Nat.reduceGT, Nat.reduceSub, Nat.reduceMul, Int.reduceAdd, Int.reduceSub, Int.reduceNeg, Int.reduceGE, Int.reduceGT, h3, h4, h7, h10, hp, i1, hd, j5, j6, jm, jl, u1, u2, u3, w1, w2, w3, g1, g2]
        refine ⟨by omega, ?_⟩
        refine app und_31 size_24 bytes_24 und_31 zero_24 rfl rfl (by decide) (hr.ext ((hext.new.set (Nat.le_refl _)).new)) rfl (by simp only [new_next, set_next]; omega) ?_ ?_ ?_
        · simp only [List.length_cons, List.length_nil]; omega
        · simp only [List.length_cons, List.length_nil]; omega
        intro v' H4 hr4 hs4
        have hx4 := (hext.new (o := .cells 33 [.int .i64 0, .str [], .str [], .str [], .int .i64 0, .int .i64 0, .nils, .nils])).set (o := .cells 33 [.int .i64 x.kind, .str x.s, .str x.t, .str x.u, .int .i64 x.n, .int .i64 x.at_, vl, vm]) (Nat.le_refl H3.next) |>.new (o := .tip 24 2 true)
        have ho4 := (ho.ext hx4).other hs4 (hr.ext hx4) (by decide)
        have hp4 := hs4.keep (hr.ext hx4) (Nat.lt_of_lt_of_le (by omega) hx4.le) (hx4.get (by omega) hp) (by simp)
        have hb4 := hs4.keep (hr.ext hx4) (Nat.lt_of_lt_of_le (by omega) hx4.le) (hx4.get (by omega) hb) (by simp)
        have hn4 : P + 2 ≤ H4.next := by have := hs4.le; have := hx4.le; omega
        simp -dsimp (disch := first | omega | (refine DrawYes.mk ?_; decide +kernel) | fail) only [go_sem, ↓reduceIte, reduceCtorEq, Nat.reduceEqDiff, Nat.reduceAdd, Nat.reduceLeDiff, Int.reduceLE, Int.reduceLT, Int.reduceBEq, Int.reduceBNe, Int.reduceEq, Nat.reduceBEq, Int.reduceToNat, Nat.reduceLT, Nat.reduceGT, Nat.reduceSub, Nat.reduceMul, Int.reduceAdd, Int.reduceSub, Int.reduceNeg, Int.reduceGE, Int.reduceGT, h3, h4, h7, h10]
        have hx5 := (Ext.refl (H := H4)).new (o := .tip 3 2 true)
        refine app und_24 size_3 bytes_3 und_24 zero_3 rfl rfl (by decide) (ho4.ext hx5) rfl (by simp only [new_next]; omega) (by simp only [List.length_map, ownL_len, List.length_cons, List.length_nil]; omega) (by simp only [List.length_map, ownL_len, List.length_cons, List.length_nil]; omega) ?_
        intro v5 H5 hr5 hs5
        have hr6 := (hr4.ext hx5).other hs5 (ho4.ext hx5) (by decide)
        have hp6 := hs5.keep (ho4.ext hx5) (Nat.lt_of_lt_of_le (by omega) hx5.le) (hx5.get (by omega) hp4) (by simp)
        have hb6 := hs5.keep (ho4.ext hx5) (Nat.lt_of_lt_of_le (by omega) hx5.le) (hx5.get (by omega) hb4) (by simp)
        have hn6 : P + 2 ≤ H5.next := by have := hs5.le; have := hx5.le; omega
        simp -dsimp (disch := first | omega | (refine DrawYes.mk ?_; decide +kernel) | fail) only [go_sem, ↓reduceIte, reduceCtorEq, Nat.reduceEqDiff, Nat.reduceAdd, Nat.reduceLeDiff, Int.reduceLE, Int.reduceLT, Int.reduceBEq, Int.reduceBNe, Int.reduceEq, Nat.reduceBEq, Int.reduceToNat, Nat.reduceLT, Nat.reduceGT, Nat.reduceSub, Nat.reduceMul, Int.reduceAdd, Int.reduceSub, Int.reduceNeg, Int.reduceGE, Int.reduceGT, h3, h4, h7, h10]
        exact ⟨(k + 1, rv ++ [vl, vm]), ⟨by omega, by rw [allL_take hx]; exact hrv.app (.cons hvl (.cons hvm .nil)), rfl, hn6, hp6, hb6, hr6, by rw [ownL_succ, List.map_append]; exact hr5⟩, by simp only; omega⟩
    have hkn : k = R.length := by omega
    subst hkn
    rw [List.take_length] at hrv
    have hel := hst.len
    have i0 : ¬ ((R.length : Nat) : Int) < R.length := by omega
    simp -dsimp (disch := first | omega | (refine DrawYes.mk ?_; decide +kernel) | fail) only [go_sem, ↓reduceIte, reduceCtorEq, Nat.reduceEqDiff, Nat.reduceAdd, Nat.reduceLeDiff, Int.reduceLE, Int.reduceLT, Int.reduceBEq, Int.reduceBNe, Int.reduceEq, Nat.reduceBEq, Int.reduceToNat, Nat.reduceLT, Nat.reduceGT, Nat.reduceSub, Nat.reduceMul, Int.reduceAdd, Int.reduceSub, Int.reduceNeg, Int.reduceGE, Int.reduceGT, h3, h4, h7, h10, hp, o3, i0]
    obtain ⟨i8, o8, e8⟩ : ∃ i8 o8, σ 8 = .sl i8 1 o8 rv := by
      rcases hr with ⟨_, h⟩ | ⟨i8, o8, k8, h, _⟩
      · subst h; cases hrv
      · exact ⟨i8, o8, h⟩
    obtain ⟨i9, o9, e9⟩ : ∃ i9 o9, σ 9 = .sl i9 1 o9 ((ownL R.length R.length).map intV) := by
      rcases ho with ⟨_, h⟩ | ⟨i9, o9, k9, h, _⟩
      · simp [ownL] at h
      · exact ⟨i9, o9, h⟩
    rw [cntR_nil] at hb
    have hLl : (top :: allL R).length = 1 + 2 * R.length := by rw [List.length_cons, allL_len]; omega
    have hrl := hrv.len
    rw [hLl] at hrl
    refine Y_loop (α := Nat) (fun i σ H => i ≤ 1 + 2 * R.length ∧ σ 3 = .bool true ∧ σ 4 = .ptr P 0 ∧ σ 7 = .hs (P + 1) 1 0 R.length ∧ σ 8 = .sl i8 1 o8 rv ∧ σ 9 = .sl i9 1 o9 ((ownL R.length R.length).map intV) ∧ σ 12 = .int .i64 i ∧ P + 2 ≤ H.next ∧ H.m P = some (.cells 26 [.int .i64 md, stmv, topv]) ∧ H.m (P + 1) = some (.row 3 (cntR R.length ((top :: allL R).take i).flatten))) (fun i => 1 + 2 * R.length - i) 0 ?_ ?_
    · simp -dsimp (disch := first | omega | (refine DrawYes.mk ?_; decide +kernel) | fail) only [go_sem, ↓reduceIte, reduceCtorEq, Nat.reduceEqDiff, Nat.reduceAdd, Nat.reduceLeDiff, Int.reduceLE, Int.reduceLT, Int.reduceBEq, Int.reduceBNe, Int.reduceEq, Nat.reduceBEq, Int.reduceToNat, Nat.reduceLT, Nat.reduceGT, Nat.reduceSub, Nat.reduceMul, Int.reduceAdd, Int.reduceSub, Int.reduceNeg, Int.reduceGE, Int.reduceGT, h3, h4, h7, e8, e9]
      exact ⟨by omega, hPn, hp, hb⟩
    clear h3 h4 h7 h10 hPn hp hb hr ho e8 e9 σ H3 hk hlt
    rintro i σ H3 ⟨hi, h3, h4, h7, e8, e9, h12, hPn, hp, hb⟩
    by_cases hlt : i < 1 + 2 * R.length
    · have i1 : (i : Int) < rv.length := by omega
      obtain ⟨l, hl⟩ : ∃ l, (top :: allL R)[i]? = some l := ⟨_, List.getElem?_eq_getElem (by omega)⟩
      obtain ⟨v, hv, hlv⟩ := hrv.get hl
      obtain ⟨ow, how, hlt1, hinc⟩ := wi_rows hW hl
      simp -dsimp (disch := first | omega | (refine DrawYes.mk ?_; decide +kernel) | fail) only [go_sem, ↓reduceIte, reduceCtorEq, Nat.reduceEqDiff, Nat.reduceAdd, Nat.reduceLeDiff, Int.reduceLE, Int.reduceLT, Int.reduceBEq, Int.reduceBNe, Int.reduceEq, Nat.reduceBEq, Int.reduceToNat, Nat.reduceLT, Nat.reduceGT, Nat.reduceSub, Nat.reduceMul, Int.reduceAdd, Int.reduceSub, Int.reduceNeg, Int.reduceGE, Int.reduceGT, h3, h4, h7, e8, e9, h12, i1]
      have hfl : ((top :: allL R).take (i + 1)).flatten = ((top :: allL R).take i).flatten ++ l := by rw [List.take_add_one, hl, List.flatten_append]; simp
      refine Y_loop (α := Nat) (fun k σ H => k ≤ l.length ∧ σ 3 = .bool true ∧ σ 4 = .ptr P 0 ∧ σ 7 = .hs (P + 1) 1 0 R.length ∧ σ 8 = .sl i8 1 o8 rv ∧ σ 9 = .sl i9 1 o9 ((ownL R.length R.length).map intV) ∧ σ 12 = .int .i64 i ∧ σ 13 = .int .i64 k ∧ P + 2 ≤ H.next ∧ H.m P = some (.cells 26 [.int .i64 md, stmv, topv]) ∧ H.m (P + 1) = some (.row 3 (cntR R.length (((top :: allL R).take i).flatten ++ l.take k)))) (fun k => l.length - k) 0 ?_ ?_
      · simp -dsimp (disch := first | omega | (refine DrawYes.mk ?_; decide +kernel) | fail) only [go_sem, ↓reduceIte, reduceCtorEq, Nat.reduceEqDiff, Nat.reduceAdd, Nat.reduceLeDiff, Int.reduceLE, Int.reduceLT, Int.reduceBEq, Int.reduceBNe, Int.reduceEq, Nat.reduceBEq, Int.reduceToNat, Nat.reduceLT, Nat.reduceGT, Nat.reduceSub, Nat.reduceMul, Int.reduceAdd, Int.reduceSub, Int.reduceNeg, Int.reduceGE, Int.reduceGT, h3, h4, h7, e8, e9, h12]
        exact ⟨by omega, hPn, hp, by simpa using hb⟩
      clear h3 h4 h7 h12 hPn hp hb e8 e9 σ H3
      rintro k σ H3 ⟨hk, h3, h4, h7, e8, e9, h12, h13, hPn, hp, hb⟩
      have hvl := hlv.facts.2.2
      by_cases hkl : k < l.length
      · have j1 : (k : Int) < l.length := by omega
        obtain ⟨n, hn⟩ : ∃ n, l[k]? = some n := ⟨_, List.getElem?_eq_getElem hkl⟩
        have hnm := List.mem_of_getElem? hn
        have hlt2 := hlt1 n hnm
        rcases hlv with ⟨rfl, rfl⟩ | ⟨idv, offv, rfl⟩
        · simp at hn
        have hn2 : (l.map intV)[k]? = some (.int .i64 n) := by rw [List.getElem?_map, hn]; rfl
        have how2 : ((ownL R.length R.length).map intV)[i]? = some (.int .i64 ow) := by rw [List.getElem?_map, how]; rfl
        have j2 : ¬ (n : Int) < 0 := by omega
        have j3 : ¬ (ow : Int) ≤ n := by omega
        have j4 : ¬ ((R.length : Nat) : Int) ≤ n := by omega
        have hbd : (cntR R.length (((top :: allL R).take i).flatten ++ l.take k)).drop n = .int .i64 ((((top :: allL R).take i).flatten ++ l.take k).count n) :: (cntR R.length (((top :: allL R).take i).flatten ++ l.take k)).drop (n + 1) := by
          rw [List.drop_eq_getElem_cons (by rw [cntR_len]; exact hlt2.2)]
          have := List.getElem?_eq_some_iff.1 (cntR_get (f := ((top :: allL R).take i).flatten ++ l.take k) hlt2.2)
          rw [this.2]
        have hpush := cntR_push (f := ((top :: allL R).take i).flatten ++ l.take k) hlt2.2
        have hlen := cntR_len (N := R.length) (f := ((top :: allL R).take i).flatten ++ l.take k)
        have hcb : (((top :: allL R).take i).flatten ++ l.take k).count n ≤ 1 := by
          have h1 : (((top :: allL R).take i).flatten ++ l.take k).Sublist (top :: allL R).flatten := by
            have e : (top :: allL R).flatten = ((top :: allL R).take (i + 1)).flatten ++ ((top :: allL R).drop (i + 1)).flatten := by rw [← List.flatten_append, List.take_append_drop]
            rw [e, hfl]
            exact ((List.Sublist.refl _).append (List.take_sublist _ _)).trans (List.sublist_append_left _ _)
          have h2 := h1.count_le n
          have h3 := hW.cnt n
          rw [if_pos hlt2.2] at h3
          have h4 : (top :: allL R).flatten.count n = top.count n + (allL R).flatten.count n := by rw [List.flatten_cons, List.count_append]
          omega
        have hk1 : ((top :: allL R).take i).flatten ++ l.take (k + 1) = ((top :: allL R).take i).flatten ++ l.take k ++ [n] := by
          rw [List.take_add_one, hn]; simp
        generalize ((top :: allL R).take i).flatten ++ l.take k = F at *
        cases k with
        | zero =>
          simp -dsimp (disch := first | omega | (refine DrawYes.mk ?_; decide +kernel) | fail) only [go_sem, ↓reduceIte, reduceCtorEq, Nat.reduceEqDiff, Nat.reduceAdd, Nat.reduceLeDiff, Int.reduceLE, Int.reduceLT, Int.reduceBEq, Int.reduceBNe, Int.reduceEq, Nat.reduceBEq, Int.reduceToNat, Nat.reduceLT, Nat.reduceGT, Nat.reduceSub, Nat.reduceMul, Int.reduceAdd, Int.reduceSub, Int.reduceNeg, Int.reduceGE, Int.reduceGT, h3, h4, h7, e8, e9, h12, h13, hvl, hv, hn2, how2, j1, j2, j3, j4, hb, hbd, Nat.mul_one, List.head?_cons, hlen, hpush]
          refine ⟨by omega, fun _ => ⟨by omega, by omega, by omega, by omega, by omega, by omega, by omega, 1, ⟨by omega, rfl, hPn, by rw [if_neg y1]; exact hp, by rw [← hk1]⟩, by omega⟩, fun h => absurd (by omega) h⟩
        | succ k =>
          obtain ⟨m, hm⟩ : ∃ m, l[k]? = some m := ⟨_, List.getElem?_eq_getElem (by omega)⟩
          have hm2 : (l.map intV)[k]? = some (.int .i64 m) := by rw [List.getElem?_map, hm]; rfl
          have hmn : m < n := by
            have h1 := List.getElem?_eq_some_iff.1 hm
            have h2 := List.getElem?_eq_some_iff.1 hn
            obtain ⟨h1, rfl⟩ := h1
            obtain ⟨h2, rfl⟩ := h2
            exact List.pairwise_iff_getElem.1 hinc k (k + 1) h1 h2 (by omega)
          have j5 : ¬ (n : Int) ≤ m := by omega
          have hkn := inc_ge hinc _ _ hn
          have j6 : 0 < ((k + 1 : Nat) : Int) := by omega
          have j7 : (((k + 1 : Nat) : Int) - 1).toNat = k := by omega
          simp -dsimp (disch := first | omega | (refine DrawYes.mk ?_; decide +kernel) | fail) only [go_sem, ↓reduceIte, reduceCtorEq, Nat.reduceEqDiff, Nat.reduceAdd, Nat.reduceLeDiff, Int.reduceLE, Int.reduceLT, Int.reduceBEq, Int.reduceBNe, Int.reduceEq, Nat.reduceBEq, Int.reduceToNat, Nat.reduceLT, Nat.reduceGT, Nat.reduceSub, Nat.reduceMul, Int.reduceAdd, Int.reduceSub, Int.reduceNeg, Int.reduceGE, Int.reduceGT, h3, h4, h7, e8, e9, h12, h13, hvl, hv, hn2, how2, j1, j2, j3, j4, hb, hbd, Nat.mul_one, List.head?_cons, hlen, hpush, hm2, j5, j6, j7]
          exact ⟨by omega, by omega, by omega, by omega, by omega, by omega, by omega, by omega, by omega, by omega, by omega, k + 2, ⟨by omega, by norm_cast, hPn, by rw [if_neg y1]; exact hp, by rw [← hk1]⟩, by omega⟩
      · have hkn : k = l.length := by omega
        subst hkn
        rw [List.take_length, ← hfl] at hb
        have j1 : ¬ ((l.length : Nat) : Int) < l.length := by omega
        simp -dsimp (disch := first | omega | (refine DrawYes.mk ?_; decide +kernel) | fail) only [go_sem, ↓reduceIte, reduceCtorEq, Nat.reduceEqDiff, Nat.reduceAdd, Nat.reduceLeDiff, Int.reduceLE, Int.reduceLT, Int.reduceBEq, Int.reduceBNe, Int.reduceEq, Nat.reduceBEq, Int.reduceToNat, Nat.reduceLT, Nat.reduceGT, Nat.reduceSub, Nat.reduceMul, Int.reduceAdd, Int.reduceSub, Int.reduceNeg, Int.reduceGE, Int.reduceGT, h3, h4, h7, e8, e9, h12, h13, hvl, hv, j1, hlv.facts.2.1, List.head?_cons]
        exact ⟨by omega, i + 1, ⟨by omega, rfl, hPn, hp, hb⟩, by omega⟩
    · have hin : i = 1 + 2 * R.length := by omega
      have i1 : ¬ (i : Int) < rv.length := by omega
      have hall : (top :: allL R).take i = top :: allL R := List.take_of_length_le (by omega)
      rw [hall] at hb
      simp -dsimp (disch := first | omega | (refine DrawYes.mk ?_; decide +kernel) | fail) only [go_sem, ↓reduceIte, reduceCtorEq, Nat.reduceEqDiff, Nat.reduceAdd, Nat.reduceLeDiff, Int.reduceLE, Int.reduceLT, Int.reduceBEq, Int.reduceBNe, Int.reduceEq, Nat.reduceBEq, Int.reduceToNat, Nat.reduceLT, Nat.reduceGT, Nat.reduceSub, Nat.reduceMul, Int.reduceAdd, Int.reduceSub, Int.reduceNeg, Int.reduceGE, Int.reduceGT, h3, h4, h7, e8, e9, h12, i1]
      refine Y_loop (α := Nat) (fun k σ H => k ≤ R.length ∧ σ 3 = .bool true ∧ σ 4 = .ptr P 0 ∧ σ 7 = .hs (P + 1) 1 0 R.length ∧ σ 15 = .int .i64 k ∧ H.m P = some (.cells 26 [.int .i64 md, stmv, topv]) ∧ H.m (P + 1) = some (.row 3 (cntR R.length (top :: allL R).flatten))) (fun k => R.length - k) 0 ?_ ?_
      · simp -dsimp (disch := first | omega | (refine DrawYes.mk ?_; decide +kernel) | fail) only [go_sem, ↓reduceIte, reduceCtorEq, Nat.reduceEqDiff, Nat.reduceAdd, Nat.reduceLeDiff, Int.reduceLE, Int.reduceLT, Int.reduceBEq, Int.reduceBNe, Int.reduceEq, Nat.reduceBEq, Int.reduceToNat, Nat.reduceLT, Nat.reduceGT, Nat.reduceSub, Nat.reduceMul, Int.reduceAdd, Int.reduceSub, Int.reduceNeg, Int.reduceGE, Int.reduceGT, h3, h4, h7, e8, e9, h12]
        exact ⟨by omega, hp, hb⟩
      clear h3 h4 h7 h12 hPn hp hb e8 e9 σ H3
      rintro k σ H3 ⟨hk, h3, h4, h7, h15, hp, hb⟩
      by_cases hkl : k < R.length
      · have j1 : (k : Int) < R.length := by omega
        have hbd : (cntR R.length (top :: allL R).flatten).drop k = .int .i64 1 :: (cntR R.length (top :: allL R).flatten).drop (k + 1) := by
          rw [List.drop_eq_getElem_cons (by rw [cntR_len]; exact hkl)]
          have := List.getElem?_eq_some_iff.1 (cntR_get (f := (top :: allL R).flatten) hkl)
          rw [this.2]
          have h3 := hW.cnt k
          rw [if_pos hkl] at h3
          have h4 : (top :: allL R).flatten.count k = 1 := by
            rw [List.flatten_cons, List.count_append]
            simpa [allF] using h3
          rw [h4]; rfl
        simp -dsimp (disch := first | omega | (refine DrawYes.mk ?_; decide +kernel) | fail) only [go_sem, ↓reduceIte, reduceCtorEq, Nat.reduceEqDiff, Nat.reduceAdd, Nat.reduceLeDiff, Int.reduceLE, Int.reduceLT, Int.reduceBEq, Int.reduceBNe, Int.reduceEq, Nat.reduceBEq, Int.reduceToNat, Nat.reduceLT, Nat.reduceGT, Nat.reduceSub, Nat.reduceMul, Int.reduceAdd, Int.reduceSub, Int.reduceNeg, Int.reduceGE, Int.reduceGT, h3, h4, h7, h15, j1, hb, hbd, Nat.mul_one, List.head?_cons]
        exact ⟨by omega, k + 1, ⟨by omega, rfl, hp⟩, by omega⟩
      · have j1 : ¬ (k : Int) < R.length := by omega
        have m1 : 1 ≤ (md : Int) := by omega
        have m3 : (md : Int) ≤ 3 := by omega
        simp -dsimp (disch := first | omega | (refine DrawYes.mk ?_; decide +kernel) | fail) only [go_sem, ↓reduceIte, reduceCtorEq, Nat.reduceEqDiff, Nat.reduceAdd, Nat.reduceLeDiff, Int.reduceLE, Int.reduceLT, Int.reduceBEq, Int.reduceBNe, Int.reduceEq, Nat.reduceBEq, Int.reduceToNat, Nat.reduceLT, Nat.reduceGT, Nat.reduceSub, Nat.reduceMul, Int.reduceAdd, Int.reduceSub, Int.reduceNeg, Int.reduceGE, Int.reduceGT, h3, h4, h7, h15, j1, hp, m1, m3]
  · have h1 := parse_none he
    generalize parseAll (s.take 2100) = r at *
    obtain ⟨md, R, top, at_, e⟩ := r
    dsimp only at *
    obtain ⟨rfl, rfl, rfl⟩ := h1
    have he' : ((e : Int) == 0) = false := by simp; omega
    have he2 : ((e : Int) != 0) = true := by simp; omega
    simp -dsimp (disch := first | omega | (refine DrawYes.mk ?_; decide +kernel) | fail) only [go_sem, ↓reduceIte, reduceCtorEq, Nat.reduceEqDiff, Nat.reduceAdd, Nat.reduceLeDiff, Int.reduceLE, Int.reduceLT, Int.reduceBEq, Int.reduceBNe, Int.reduceEq, Nat.reduceBEq, Int.reduceToNat, Nat.reduceLT, Nat.reduceGT, Nat.reduceSub, Nat.reduceMul, Int.reduceAdd, Int.reduceSub, Int.reduceNeg, Int.reduceGE, Int.reduceGT, o1, o2, o3, o4, he', he2]
end Go.Proofs.YtcknfhhbijlobaaDoor.D
