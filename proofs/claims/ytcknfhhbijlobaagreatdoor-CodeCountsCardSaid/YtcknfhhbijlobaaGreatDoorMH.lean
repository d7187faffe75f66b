import Derived.Test.YtcknfhhbijlobaaGreatDoorPaV
import Derived.Test.YtcknfhhbijlobaaGreatDoorParF
import Derived.Test.YtcknfhhbijlobaaGreatDoorChN
import Derived.Test.YtcknfhhbijlobaaGreatDoorChS
import Derived.Test.YtcknfhhbijlobaaGreatDoorChT
import Derived.Test.YtcknfhhbijlobaaGreatDoorMD
import Derived.Maps.RangeRun
namespace Go.Proofs.YtcknfhhbijlobaaGreatDoor.D
open Go
set_option linter.unusedVariables false
set_option linter.unusedSimpArgs false
set_option maxRecDepth 100000
def labV (q : List UInt8 × Nat) : DV × DV := (.str q.1, .int .i64 q.2)
def goeV (q : Nat × List UInt8) : DV × DV := (.int .i64 q.1, .agg [.str q.2])
def RowV (lo : Nat) (H : DH) (v : DV) (ops : List Opr) : Prop :=
 (v = .nils ∧ ops = []) ∨ ∃ r, v = .hs r 6 0 ops.length ∧ H.m r = some (.row 57 (flat (ops.map oprV))) ∧ lo ≤ r ∧ r < H.next
structure Mk (lo : Nat) (H : DH) (p md : Nat) (stmv topv : DV) (lb gb : Nat) (ops : List Opr) (les : List (List UInt8 × Nat)) (ges : List (Nat × List UInt8)) : Prop where
 ob : ∃ lv, H.m p = some (.cells 101 [.int .i64 md, stmv, topv, lv, .mp lb, .mp gb]) ∧ RowV lo H lv ops
 lm : H.m lb = some (.map (les.map labV))
 gm : H.m gb = some (.map (ges.map goeV))
 ne : lb ≠ gb
 lt : lo ≤ p ∧ p < H.next ∧ lo ≤ lb ∧ lb < H.next ∧ lo ≤ gb ∧ gb < H.next
structure Fram (lo p : Nat) (H H' : DH) : Prop where
 le : H.next ≤ H'.next
 old : ∀ b, b < lo → H'.m b = H.m b
 keep : ∀ b T cs, b < H.next → H.m b = some (.cells T cs) → b ≠ p → H'.m b = some (.cells T cs)
theorem Fram.refl {lo p : Nat} {H : DH} : Fram lo p H H := ⟨Nat.le_refl _, fun _ _ => rfl, fun _ _ _ _ h _ => h⟩
theorem Fram.trans {lo p : Nat} {H1 H2 H3 : DH} (a : Fram lo p H1 H2) (b : Fram lo p H2 H3) : Fram lo p H1 H3 :=
 ⟨Nat.le_trans a.le b.le, fun i h => (b.old i h).trans (a.old i h), fun i T cs hl h hn => b.keep i T cs (Nat.lt_of_lt_of_le hl a.le) (a.keep i T cs hl h hn) hn⟩
theorem flat_ops (ops : List Opr) : (flat (ops.map oprV)).length = ops.length * 6 := by
 induction ops with
 | nil => rfl
 | cons o r ih => simp only [List.map_cons, flat, List.length_append, ih, oprV, DV.cells, List.length_cons, List.length_nil]; omega
theorem flat_app (a b : List DV) : flat (a ++ b) = flat a ++ flat b := by
 induction a with
 | nil => rfl
 | cons x r ih => simp [flat, ih]
theorem set_ne {H : DH} {b i : Nat} {o : DObj} (h : i ≠ b) : (H.set b o).m i = H.m i := if_neg h
theorem set_at {H : DH} {b : Nat} {o : DObj} : (H.set b o).m b = some o := if_pos rfl
theorem new_old {H : DH} {i : Nat} {o : DObj} (h : i < H.next) : (H.new o).m i = H.m i := if_neg (by omega)
theorem new_at {H : DH} {i : Nat} {o : DObj} (h : i = H.next) : (H.new o).m i = some o := if_pos h
theorem mov_old {H : DH} {b i : Nat} {o : DObj} (h : i < H.next) (h2 : i ≠ b) : (H.mov b o).m i = H.m i := by
 show (if i = H.next then some o else if i = b then none else H.m i) = _
 rw [if_neg (by omega), if_neg h2]
theorem mov_at {H : DH} {b i : Nat} {o : DObj} (h : i = H.next) : (H.mov b o).m i = some o := if_pos h
theorem mput_ok {lo : Nat} {H : DH} {p md lb gb : Nat} {stmv topv : DV} {ops : List Opr} {les : List (List UInt8 × Nat)} {ges : List (Nat × List UInt8)} {o : Opr} (h : Mk lo H p md stmv topv lb gb ops les ges) (hl : ops.length < 1000000) :
  WC cfg 67 [.ptr p 0, oprV o] H fun v H' => v = .int .i64 ops.length ∧ Mk lo H' p md stmv topv lb gb (ops ++ [o]) les ges ∧ Fram lo p H H' := by
 refine WC_of (show Has cfg 67 21 [.tmp 4] _ from ⟨by kernel_rfl, Tryz.f67, Tryz.func67, rfl, rfl, rfl, by kernel_rfl⟩) (by simp) ?_
 obtain ⟨⟨lv, hm, hr⟩, hlm, hgm, hne, ⟨t1, t2, t3, t4, t5, t6⟩⟩ := h
 have y0 : ¬ p = H.next := by omega
 have y1 : ¬ H.next = p := by omega
 have y2 : ¬ p = H.next + 1 := by omega
 have y3 : ¬ H.next = H.next + 1 := by omega
 have y4 : ¬ H.next + 1 = H.next := by omega
 have y7 : ¬ p = H.next + 1 + 1 := by omega
 have y8 : ¬ H.next + 1 + 1 = p := by omega
 have n1 : lb ≠ p := by rintro rfl; rw [hm] at hlm; cases hlm
 have n2 : gb ≠ p := by rintro rfl; rw [hm] at hgm; cases hgm
 rcases hr with ⟨rfl, rfl⟩ | ⟨r, rfl, hrm, hr1, hr2⟩
 ·simp -dsimp (disch := first | omega | (apply DrawYes.mk; decide +kernel)) only [go_sem, hm, y0, y1, y2, oprV]
  refine Y_float [(4, 7, 7)] (by decide +kernel) ?_
  simp -dsimp (disch := first | omega | (apply DrawYes.mk; decide +kernel)) only [go_sem, hm, y0, y1, y2, y3, y4]
  refine app_hn und_51 size_57 bytes_57 und_51 zero_57 rfl rfl (by decide) rfl (by simp) (by simp) (by simp) ?_
  simp -dsimp (disch := first | omega | (apply DrawYes.mk; decide +kernel)) only [go_sem, hm, y0, y1, y2, y3, y4, y7, y8]
  refine ⟨⟨⟨_, set_at, .inr ⟨H.next + 1 + 1, rfl, ?_, by omega, ?_⟩⟩, ?_, ?_, hne, ?_⟩, ?_, fun b hb => ?_, fun b T cs hlt hb hn => ?_⟩
  ·rw [set_ne y8, new_at (by simp only [new_next])]; rfl
  ·simp only [set_next, new_next]; omega
  ·rw [set_ne n1, new_old (by simp only [new_next]; omega), new_old (by simp only [new_next]; omega), new_old (by omega)]; exact hlm
  ·rw [set_ne n2, new_old (by simp only [new_next]; omega), new_old (by simp only [new_next]; omega), new_old (by omega)]; exact hgm
  ·simp only [set_next, new_next]; omega
  ·simp only [set_next, new_next]; omega
  ·rw [set_ne (by omega), new_old (by simp only [new_next]; omega), new_old (by simp only [new_next]; omega), new_old (by omega)]
  ·rw [set_ne hn, new_old (by simp only [new_next]; omega), new_old (by simp only [new_next]; omega), new_old (by omega)]; exact hb
 ·have y5 : ¬ r = H.next := by omega
  have y6 : ¬ r = H.next + 1 := by omega
  have n3 : ¬ p = r := by rintro rfl; rw [hm] at hrm; cases hrm
  have n4 : ¬ lb = r := by rintro rfl; rw [hlm] at hrm; cases hrm
  have n5 : ¬ gb = r := by rintro rfl; rw [hgm] at hrm; cases hrm
  simp -dsimp (disch := first | omega | (apply DrawYes.mk; decide +kernel)) only [go_sem, hm, y0, y1, y2, oprV]
  refine Y_float [(4, 7, 7)] (by decide +kernel) ?_
  simp -dsimp (disch := first | omega | (apply DrawYes.mk; decide +kernel)) only [go_sem, hm, y0, y1, y2, y3, y4]
  refine app_hs und_51 size_57 bytes_57 und_51 zero_57 rfl rfl (by decide) (cs := flat (ops.map oprV)) (by rw [new_old (by simp only [new_next]; omega), new_old (by omega)]; exact hrm) (by rw [flat_ops]; omega) rfl (by simp) (by simp; omega) (by simp; omega) ?_
  simp -dsimp (disch := first | omega | (apply DrawYes.mk; decide +kernel)) only [go_sem, hm, y0, y1, y2, y3, y4, y7, y8, n3]
  refine And.intro (by congr 1; omega) ?_
  have e1 : ops.length + 1 = (ops ++ [o]).length := by simp
  rw [e1]
  refine ⟨⟨⟨_, set_at, .inr ⟨H.next + 1 + 1, rfl, ?_, by omega, ?_⟩⟩, ?_, ?_, hne, ?_⟩, ?_, fun b hb => ?_, fun b T cs hlt hb hn => ?_⟩
  ·rw [set_ne y8, mov_at (by simp only [new_next]), List.map_append, flat_app, List.take_of_length_le (by rw [flat_ops]; omega)]; rfl
  ·simp only [set_next, new_next, mov_next]; omega
  ·rw [set_ne n1, mov_old (by simp only [new_next]; omega) n4, new_old (by simp only [new_next]; omega), new_old (by omega)]; exact hlm
  ·rw [set_ne n2, mov_old (by simp only [new_next]; omega) n5, new_old (by simp only [new_next]; omega), new_old (by omega)]; exact hgm
  ·simp only [set_next, new_next, mov_next]; omega
  ·simp only [set_next, new_next, mov_next]; omega
  ·rw [set_ne (by omega), mov_old (by simp only [new_next]; omega) (by omega), new_old (by simp only [new_next]; omega), new_old (by omega)]
  ·have hbr : b ≠ r := by rintro rfl; rw [hb] at hrm; cases hrm
   rw [set_ne hn, mov_old (by simp only [new_next]; omega) hbr, new_old (by simp only [new_next]; omega), new_old (by omega)]; exact hb
theorem flat_set (n : Nat) : ∀ (ops : List Opr) (k : Nat), k < ops.length →
  (flat (ops.map oprV)).take (k * 6 + 5) ++ [.int .i64 n] ++ (flat (ops.map oprV)).drop (k * 6 + 5 + 1) = flat ((ops.modify k fun o => { o with to := n }).map oprV)
 | [], k, h => by simp at h
 | o :: r, 0, h => by simp [flat, oprV, DV.cells]
 | o :: r, k + 1, h => by
  have ih := flat_set n r k (by simpa using h)
  rw [List.modify_succ_cons, List.map_cons, List.map_cons, flat, flat, ← ih]
  have e : (k + 1) * 6 + 5 = (k * 6 + 5) + 6 := by omega
  have hc : (oprV o).cells.length = 6 := rfl
  rw [e, List.take_append, List.drop_append, hc, List.take_of_length_le (by rw [hc]; omega), List.drop_eq_nil_of_le (by rw [hc]; omega)]
  simp
theorem mhere_ok {lo : Nat} {H : DH} {p md lb gb : Nat} {stmv topv : DV} {ops : List Opr} {les : List (List UInt8 × Nat)} {ges : List (Nat × List UInt8)} {k : Nat} (h : Mk lo H p md stmv topv lb gb ops les ges) (hk : k < ops.length) :
  WC cfg 123 [.ptr p 0, .int .i64 k] H fun v H' => Mk lo H' p md stmv topv lb gb (ops.modify k fun o => { o with to := ops.length }) les ges ∧ Fram lo p H H' := by
 refine WC_of (show Has cfg 123 16 [] _ from ⟨by kernel_rfl, Tryz.f123, Tryz.func123, rfl, rfl, rfl, by kernel_rfl⟩) (by simp) ?_
 obtain ⟨⟨lv, hm, hr⟩, hlm, hgm, hne, ⟨t1, t2, t3, t4, t5, t6⟩⟩ := h
 have n1 : lb ≠ p := by rintro rfl; rw [hm] at hlm; cases hlm
 have n2 : gb ≠ p := by rintro rfl; rw [hm] at hgm; cases hgm
 rcases hr with ⟨rfl, rfl⟩ | ⟨r, rfl, hrm, hr1, hr2⟩
 ·simp at hk
 have n3 : ¬ p = r := by rintro rfl; rw [hm] at hrm; cases hrm
 have n4 : ¬ lb = r := by rintro rfl; rw [hlm] at hrm; cases hrm
 have n5 : ¬ gb = r := by rintro rfl; rw [hgm] at hrm; cases hrm
 have i0 : (k : Int) < ops.length := by omega
 have i1 : (0 : Int) ≤ k := by omega
 simp -dsimp (disch := first | omega | (apply DrawYes.mk; decide +kernel)) only [go_sem, hm, hrm, i0, i1]
 refine ⟨by rw [flat_ops]; omega, ?_⟩
 rw [flat_set _ _ _ hk]
 refine ⟨⟨⟨.hs r 6 0 ops.length, by rw [set_ne n3]; exact hm, .inr ⟨r, by rw [List.length_modify], set_at, hr1, hr2⟩⟩, by rw [set_ne n4]; exact hlm, by rw [set_ne n5]; exact hgm, hne, t1, t2, t3, t4, t5, t6⟩, Nat.le_refl _, fun b hb => set_ne (by omega), fun b T cs hl hb hn => ?_⟩
 rw [set_ne]
 ·exact hb
 ·rintro rfl; rw [hb] at hrm; cases hrm
end Go.Proofs.YtcknfhhbijlobaaGreatDoor.D
namespace Go.Proofs.YtcknfhhbijlobaaGreatDoor.D
open Go
set_option linter.unusedVariables false
set_option linter.unusedSimpArgs false
set_option maxRecDepth 100000
def goesR : List Raw → Nat → List (Nat × List UInt8)
 | [], _ => []
 | r :: rs, p => (match r.lab with | some x => [(p, x)] | none => []) ++ goesR rs (p + 1)
theorem goesR_app : ∀ (a b : List Raw) (p : Nat), goesR (a ++ b) p = goesR a p ++ goesR b (p + a.length)
 | [], b, p => by simp [goesR]
 | r :: a, b, p => by
  rw [List.cons_append, goesR, goesR, goesR_app a b (p + 1), List.append_assoc, List.length_cons]
  congr 3; omega
theorem goesR_lt : ∀ (a : List Raw) (p : Nat), ∀ q ∈ goesR a p, p ≤ q.1 ∧ q.1 < p + a.length
 | [], p => by simp [goesR]
 | r :: a, p => by
  intro q hq
  rw [goesR, List.mem_append] at hq
  rcases hq with hq | hq
  ·cases hl : r.lab with
   | none => rw [hl] at hq; cases hq
   | some x => rw [hl] at hq; simp at hq; subst hq; simp
  ·obtain ⟨h1, h2⟩ := goesR_lt a (p + 1) q hq
   simp only [List.length_cons]; omega
theorem ins_goe {i : Nat} {x : List UInt8} : ∀ {ges : List (Nat × List UInt8)}, (∀ q ∈ ges, q.1 < i) → insD (.int .i64) (.int .i64 i) (.agg [.str x]) (ges.map goeV) = some ((ges ++ [(i, x)]).map goeV)
 | [], _ => rfl
 | q :: r, h => by
  have h1 : q.1 < i := h q (by simp)
  have ih := ins_goe (i := i) (x := x) (ges := r) fun q' hq => h q' (by simp [hq])
  have h2 : ((i : Int) == q.1) = false := by simp; omega
  simp only [List.map_cons, List.cons_append, goeV, insD, sameD, if_true, h2] at ih ⊢
  rw [ih]
theorem ins_lab {i : Nat} {x : List UInt8} : ∀ {les : List (List UInt8 × Nat)}, (∀ q ∈ les, q.1 ≠ x) → insD .string (.str x) (.int .i64 i) (les.map labV) = some ((les ++ [(x, i)]).map labV)
 | [], _ => rfl
 | q :: r, h => by
  have h1 : q.1 ≠ x := h q (by simp)
  have ih := ins_lab (i := i) (x := x) (les := r) fun q' hq => h q' (by simp [hq])
  have h2 : (x == q.1) = false := by simp; exact fun e => h1 e.symm
  simp only [List.map_cons, List.cons_append, labV, insD, sameD, h2] at ih ⊢
  rw [ih]
structure Adds (lo : Nat) (H : DH) (p md : Nat) (stmv topv : DV) (lb gb : Nat) (ops : List Opr) (les : List (List UInt8 × Nat)) (ges : List (Nat × List UInt8)) (raws : List Raw) (labs : List (List UInt8 × Nat)) (H' : DH) : Prop where
 st : Mk lo H' p md stmv topv lb gb (ops ++ raws.map (·.o)) (les ++ labs) (ges ++ goesR raws ops.length)
 fr : Fram lo p H H'
structure May (ops : List Opr) (les : List (List UInt8 × Nat)) (ges : List (Nat × List UInt8)) (raws : List Raw) (labs : List (List UInt8 × Nat)) : Prop where
 len : ops.length + raws.length < 1000000
 nd : ((les ++ labs).map (·.1)).Nodup
 lt : ∀ q ∈ ges, q.1 < ops.length
theorem May.left {ops : List Opr} {les labs labs' : List (List UInt8 × Nat)} {ges : List (Nat × List UInt8)} {raws raws' : List Raw} (h : May ops les ges (raws ++ raws') (labs ++ labs')) : May ops les ges raws labs := by
 obtain ⟨h1, h2, h3⟩ := h
 refine ⟨by simp at h1; omega, ?_, h3⟩
 rw [← List.append_assoc, List.map_append] at h2
 exact (List.nodup_append.1 h2).1
theorem May.right {ops : List Opr} {les labs labs' : List (List UInt8 × Nat)} {ges : List (Nat × List UInt8)} {raws raws' : List Raw} (h : May ops les ges (raws ++ raws') (labs ++ labs')) : May (ops ++ raws.map (·.o)) (les ++ labs) (ges ++ goesR raws ops.length) raws' labs' := by
 obtain ⟨h1, h2, h3⟩ := h
 refine ⟨by simp at h1 ⊢; omega, by rw [List.append_assoc]; exact h2, fun q hq => ?_⟩
 rw [List.mem_append] at hq
 rcases hq with hq | hq
 ·have := h3 q hq; simp; omega
 ·have := (goesR_lt _ _ q hq).2; simpa using this
theorem Adds.app {lo : Nat} {H H1 H2 : DH} {p md : Nat} {stmv topv : DV} {lb gb : Nat} {ops : List Opr} {les : List (List UInt8 × Nat)} {ges : List (Nat × List UInt8)} {r1 r2 : List Raw} {l1 l2 : List (List UInt8 × Nat)}
  (a : Adds lo H p md stmv topv lb gb ops les ges r1 l1 H1) (b : Adds lo H1 p md stmv topv lb gb (ops ++ r1.map (·.o)) (les ++ l1) (ges ++ goesR r1 ops.length) r2 l2 H2) :
  Adds lo H p md stmv topv lb gb ops les ges (r1 ++ r2) (l1 ++ l2) H2 := by
 refine ⟨?_, a.fr.trans b.fr⟩
 have := b.st
 rw [List.map_append, goesR_app]
 simpa [List.append_assoc] using this
def StmtOk (R : List Stm) (f : Nat) : Prop := ∀ {lo : Nat} {H : DH} {p md lb gb : Nat} {stmv topv : DV} {ops : List Opr} {les : List (List UInt8 × Nat)} {ges : List (Nat × List UInt8)} {s : Stm} {d : DV}, Mk lo H p md stmv topv lb gb ops les ges → StmV s d → fineS s → (∀ c ∈ s.l ++ s.m, c < f ∧ c < R.length) → (∃ es, ((stmv = .nils ∧ es = []) ∨ ∃ id off, stmv = .sl id 8 off es) ∧ All2 StmV R es) →
 s.s.length < 1000000 ∧ s.l.length < 1000000 ∧ s.m.length < 1000000 → May ops les ges (rawS (rawL R f) s ops.length) (labS (rawL R f) (labL R f) s ops.length) →
 WC cfg 99 [.ptr p 0, d] H fun v H' => Adds lo H p md stmv topv lb gb ops les ges (rawS (rawL R f) s ops.length) (labS (rawL R f) (labL R f) s ops.length) H'
def WithOk (R : List Stm) (f : Nat) : Prop := ∀ {lo : Nat} {H : DH} {p md lb gb : Nat} {stmv topv : DV} {ops : List Opr} {les : List (List UInt8 × Nat)} {ges : List (Nat × List UInt8)} {l : List Nat} {lv : DV}, Mk lo H p md stmv topv lb gb ops les ges → IntsV l lv → l.length < 1000000 → (∀ c ∈ l, c < f ∧ c < R.length) → (∃ es, ((stmv = .nils ∧ es = []) ∨ ∃ id off, stmv = .sl id 8 off es) ∧ All2 StmV R es) →
 May ops les ges (rawL R f l ops.length) (labL R f l ops.length) →
 WC cfg 66 [.ptr p 0, lv] H fun v H' => Adds lo H p md stmv topv lb gb ops les ges (rawL R f l ops.length) (labL R f l ops.length) H'
theorem rowR_app (one : Nat → Nat → List Raw) : ∀ (a b : List Nat) (p : Nat), rowR one (a ++ b) p = rowR one a p ++ rowR one b (p + (rowR one a p).length)
 | [], b, p => by simp [rowR]
 | n :: a, b, p => by
  rw [List.cons_append, rowR, rowR, rowR_app one a b, List.append_assoc, List.length_append, Nat.add_assoc]
theorem rowB_app (one : Nat → Nat → List Raw) (lab : Nat → Nat → List (List UInt8 × Nat)) : ∀ (a b : List Nat) (p : Nat), rowB one lab (a ++ b) p = rowB one lab a p ++ rowB one lab b (p + (rowR one a p).length)
 | [], b, p => by simp [rowB, rowR]
 | n :: a, b, p => by
  rw [List.cons_append, rowB, rowB, rowB_app one lab a b, List.append_assoc, rowR, List.length_append, Nat.add_assoc]
theorem rawL_step {R : List Stm} {f : Nat} {l : List Nat} {k n p : Nat} (h : l[k]? = some n) : rawL R f (l.take (k + 1)) p = rawL R f (l.take k) p ++ rawN R f n (p + (rawL R f (l.take k) p).length) := by
 unfold rawL
 rw [List.take_add_one, h, rowR_app]
 simp [rowR]
theorem labL_step {R : List Stm} {f : Nat} {l : List Nat} {k n p : Nat} (h : l[k]? = some n) : labL R f (l.take (k + 1)) p = labL R f (l.take k) p ++ labN R f n (p + (rawL R f (l.take k) p).length) := by
 unfold labL rawL
 rw [List.take_add_one, h, rowB_app]
 simp [rowB]
theorem Adds.nil {lo : Nat} {H : DH} {p md : Nat} {stmv topv : DV} {lb gb : Nat} {ops : List Opr} {les : List (List UInt8 × Nat)} {ges : List (Nat × List UInt8)} (h : Mk lo H p md stmv topv lb gb ops les ges) : Adds lo H p md stmv topv lb gb ops les ges [] [] H :=
 ⟨by simpa [goesR] using h, .refl⟩
theorem May.take {R : List Stm} {f : Nat} {ops : List Opr} {les : List (List UInt8 × Nat)} {ges : List (Nat × List UInt8)} {l : List Nat} (h : May ops les ges (rawL R f l ops.length) (labL R f l ops.length)) (k : Nat) :
  May ops les ges (rawL R f (l.take k) ops.length) (labL R f (l.take k) ops.length) := by
 have e1 : rawL R f l ops.length = rawL R f (l.take k) ops.length ++ rawL R f (l.drop k) (ops.length + (rawL R f (l.take k) ops.length).length) := by
  unfold rawL; rw [← rowR_app, List.take_append_drop]
 have e2 : labL R f l ops.length = labL R f (l.take k) ops.length ++ labL R f (l.drop k) (ops.length + (rawL R f (l.take k) ops.length).length) := by
  unfold labL rawL; rw [← rowB_app, List.take_append_drop]
 rw [e1, e2] at h
 exact h.left
theorem with_ok {R : List Stm} (hfin : ∀ s ∈ R, fineS s ∧ s.s.length < 1000000 ∧ s.l.length < 1000000 ∧ s.m.length < 1000000) (hown : ∀ (i : Nat) (s : Stm), R[i]? = some s → ∀ n ∈ s.l ++ s.m, n < i) {f : Nat} (hst : ∀ g, f = g + 1 → StmtOk R g) : WithOk R f := by
 intro lo H p md lb gb stmv topv ops les ges l lv hm hl hl6 hc hs hmay
 refine WC_of (show Has cfg 66 23 [] _ from ⟨by kernel_rfl, Tryz.f66, Tryz.func66, rfl, rfl, rfl, by kernel_rfl⟩) (by simp) ?_
 obtain ⟨e1, e2, e3⟩ := hl.facts
 simp -dsimp (disch := first | omega | (apply DrawYes.mk; decide +kernel)) only [go_sem, e3]
 refine Y_loop (α := Nat) (fun k σ H' => k ≤ l.length ∧ Adds lo H p md stmv topv lb gb ops les ges (rawL R f (l.take k) ops.length) (labL R f (l.take k) ops.length) H' ∧ σ 0 = .ptr p 0 ∧ σ 6 = lv ∧ σ 7 = .int .i64 l.length ∧ σ 8 = .int .i64 k) (fun k => l.length - k) 0 ?_ ?_
 ·simp -dsimp (disch := first | omega | (apply DrawYes.mk; decide +kernel)) only [go_sem]
  exact ⟨Nat.zero_le _, Adds.nil hm⟩
 rintro k σ H2 ⟨hk, ha, s0, s6, s7, s8⟩
 by_cases hlt : k < l.length
 ·have i0 : (k : Int) < l.length := by omega
  have hg : l[k]? = some l[k] := List.getElem?_eq_getElem hlt
  have hin : l[k] ∈ l := List.getElem_mem _
  generalize l[k] = n at hg hin
  obtain ⟨hn1, hn2⟩ := hc n hin
  obtain ⟨g, rfl⟩ : ∃ g, f = g + 1 := ⟨f - 1, by omega⟩
  rcases hl with ⟨rfl, rfl⟩ | ⟨id, off, rfl⟩
  ·simp at hlt
  have hgv : (l.map intV)[k]? = some (.int .i64 n) := by rw [List.getElem?_map, hg]; rfl
  obtain ⟨es, hes, hall⟩ := hs
  have hRn : R[n]? = some R[n] := List.getElem?_eq_getElem hn2
  obtain ⟨d, hgd, hd⟩ := hall.get hRn
  have hd0 := hd
  obtain ⟨vl, vm, hdd, _, _⟩ := hd
  have hfs := hfin _ (List.getElem_mem hn2)
  have hch := hown n _ hRn
  rcases hes with ⟨rfl, rfl⟩ | ⟨sid, soff, rfl⟩
  ·simp at hgd
  obtain ⟨lv', hob, _⟩ := ha.st.ob
  simp -dsimp (disch := first | omega | (apply DrawYes.mk; decide +kernel)) only [go_sem, s0, s6, s7, s8, i0, hgv, hob, hgd, hdd]
  have hmk := hmay.take (k + 1)
  rw [rawL_step hg, labL_step hg] at hmk
  have hmr := hmk.right
  have hlen : (ops ++ (rawL R (g + 1) (l.take k) ops.length).map (·.o)).length = ops.length + (rawL R (g + 1) (l.take k) ops.length).length := by simp
  have q1 : rawN R (g + 1) n (ops.length + (rawL R (g + 1) (l.take k) ops.length).length) = rawS (rawL R g) R[n] (ops ++ (rawL R (g + 1) (l.take k) ops.length).map (·.o)).length := by
   rw [hlen, rawN]; simp only [hRn]; rfl
  have q2 : labN R (g + 1) n (ops.length + (rawL R (g + 1) (l.take k) ops.length).length) = labS (rawL R g) (labL R g) R[n] (ops ++ (rawL R (g + 1) (l.take k) ops.length).map (·.o)).length := by
   rw [hlen, labN]; simp only [hRn]; rfl
  rw [q1, q2] at hmr
  refine ⟨by omega, by omega, ?_⟩
  refine call (hst g rfl ha.st (hdd ▸ hd0) hfs.1 (fun c hcc => ⟨by have := hch c hcc; omega, by have := hch c hcc; omega⟩) ⟨es, .inr ⟨sid, soff, rfl⟩, hall⟩ hfs.2 hmr) ?_
  intro v H3 hA
  simp -dsimp (disch := first | omega | (apply DrawYes.mk; decide +kernel)) only [go_sem, s0, s6, s7, s8, i0]
  refine ⟨k + 1, ⟨by omega, ?_, by congr 1⟩, by omega⟩
  rw [rawL_step hg, labL_step hg, q1, q2]
  exact ha.app hA
 ·have hkk : k = l.length := by omega
  have i0 : ¬ (k : Int) < l.length := by omega
  subst hkk
  simp -dsimp (disch := first | omega | (apply DrawYes.mk; decide +kernel)) only [go_sem, s0, s6, s7, s8, i0]
  rw [List.take_length] at ha
  exact ha
theorem Mk.setG {lo : Nat} {H : DH} {p md : Nat} {stmv topv : DV} {lb gb : Nat} {ops : List Opr} {les : List (List UInt8 × Nat)} {ges ges' : List (Nat × List UInt8)} (h : Mk lo H p md stmv topv lb gb ops les ges) :
  Mk lo (H.set gb (.map (ges'.map goeV))) p md stmv topv lb gb ops les ges' ∧ Fram lo p H (H.set gb (.map (ges'.map goeV))) := by
 obtain ⟨⟨lv, hob, hrow⟩, hlm, hgm, hne, ⟨t1, t2, t3, t4, t5, t6⟩⟩ := h
 refine ⟨⟨⟨lv, by rw [set_ne (by rintro rfl; rw [hob] at hgm; cases hgm)]; exact hob, ?_⟩, by rw [set_ne hne]; exact hlm, set_at, hne, t1, t2, t3, t4, t5, t6⟩, Nat.le_refl _, fun b hb => set_ne (by omega), fun b T cs hl hb hn => ?_⟩
 ·rcases hrow with h | ⟨r, h1, h2, h3, h4⟩
  ·exact .inl h
  ·exact .inr ⟨r, h1, by rw [set_ne (by rintro rfl; rw [h2] at hgm; cases hgm)]; exact h2, h3, h4⟩
 ·rw [set_ne (by rintro rfl; rw [hb] at hgm; cases hgm)]; exact hb
theorem Mk.setL {lo : Nat} {H : DH} {p md : Nat} {stmv topv : DV} {lb gb : Nat} {ops : List Opr} {les les' : List (List UInt8 × Nat)} {ges : List (Nat × List UInt8)} (h : Mk lo H p md stmv topv lb gb ops les ges) :
  Mk lo (H.set lb (.map (les'.map labV))) p md stmv topv lb gb ops les' ges ∧ Fram lo p H (H.set lb (.map (les'.map labV))) := by
 obtain ⟨⟨lv, hob, hrow⟩, hlm, hgm, hne, ⟨t1, t2, t3, t4, t5, t6⟩⟩ := h
 refine ⟨⟨⟨lv, by rw [set_ne (by rintro rfl; rw [hob] at hlm; cases hlm)]; exact hob, ?_⟩, set_at, by rw [set_ne (fun h => hne h.symm)]; exact hgm, hne, t1, t2, t3, t4, t5, t6⟩, Nat.le_refl _, fun b hb => set_ne (by omega), fun b T cs hl hb hn => ?_⟩
 ·rcases hrow with h | ⟨r, h1, h2, h3, h4⟩
  ·exact .inl h
  ·exact .inr ⟨r, h1, by rw [set_ne (by rintro rfl; rw [h2] at hlm; cases hlm)]; exact h2, h3, h4⟩
 ·rw [set_ne (by rintro rfl; rw [hb] at hlm; cases hlm)]; exact hb
theorem nd_ne {les : List (List UInt8 × Nat)} {x : List UInt8} {i : Nat} (h : ((les ++ [(x, i)]).map (·.1)).Nodup) : ∀ q ∈ les, q.1 ≠ x := by
 intro q hq e
 rw [List.map_append, List.nodup_append] at h
 exact h.2.2 q.1 (List.mem_map.2 ⟨q, hq, rfl⟩) x (by simp) e
theorem mod_mid (g : Opr → Opr) (o : Opr) (r : List Opr) : ∀ ops : List Opr, (ops ++ o :: r).modify ops.length g = ops ++ g o :: r
 | [] => by simp
 | x :: l => by simp [mod_mid g o r l]
theorem mod_at {g : Opr → Opr} {o : Opr} {r ops : List Opr} {k : Nat} (h : k = ops.length) : (ops ++ o :: r).modify k g = ops ++ g o :: r := by subst h; exact mod_mid g o r ops
theorem shift_mid (ops r1 r2 : List Opr) (o o2 : Opr) : ops ++ o :: (r1 ++ [o2]) ++ r2 = (ops ++ o :: r1) ++ o2 :: r2 := by simp
theorem stmt_ok {R : List Stm} {f : Nat} (hw : WithOk R f) : StmtOk R f := by
 intro lo H p md lb gb stmv topv ops les ges s d hm hd hf hc hs hlen hmay
 refine WC_of (show Has cfg 99 110 [] _ from ⟨by kernel_rfl, Tryz.f99, Tryz.func99, rfl, rfl, rfl, by kernel_rfl⟩) (by simp) ?_
 obtain ⟨vl, vm, rfl, hvl, hvm⟩ := hd
 obtain ⟨l1, l2, l3⟩ := hlen
 obtain ⟨f1, f2, f3, f4⟩ := hf
 obtain ⟨⟨lv, hob, hrow⟩, hlm, hgm, hne, ⟨t1, t2, t3, t4, t5, t6⟩⟩ := id hm
 have y0 : ¬ p = H.next := by omega
 have y1 : ¬ H.next = p := by omega
 have hm1 : ∀ o, Mk lo (H.new o) p md stmv topv lb gb ops les ges := fun o => by
  refine ⟨⟨lv, by rw [new_old t2]; exact hob, ?_⟩, by rw [new_old t4]; exact hlm, by rw [new_old t6]; exact hgm, hne, t1, ?_, t3, ?_, t5, ?_⟩
  ·rcases hrow with h | ⟨r, h1, h2, h3, h4⟩
   ·exact .inl h
   ·exact .inr ⟨r, h1, by rw [new_old h4]; exact h2, h3, by simp only [new_next]; omega⟩
  all_goals simp only [new_next]; omega
 have hF : ∀ o H', Fram lo p (H.new o) H' → Fram lo p H H' := fun o H' h => ⟨by have := h.le; simp only [new_next] at this; omega, fun b hb => (h.old b hb).trans (new_old (by omega)), fun b T cs hl hb hn => h.keep b T cs (by simp only [new_next]; omega) (by rw [new_old hl]; exact hb) hn⟩
 obtain ⟨v1, v2, v3⟩ := hvl.facts
 obtain ⟨w1, w2, w3⟩ := hvm.facts
 have hlv : ∀ H, lenD cfg.T H 51 lv = some (.int .i64 ops.length) := fun H => by
  rcases hrow with ⟨rfl, rfl⟩ | ⟨r, rfl, _⟩
  ·simp [lenD, und_51]
  ·simp [lenD, und_51]
 by_cases k13 : s.kind = 13
 ·have b0 : ((s.kind : Int) == 13) = true := by simp; omega
  have r1 : ∀ sub, rawS sub s ops.length = [] := fun sub => by simp [rawS, k13]
  have r2 : ∀ sub lab, labS sub lab s ops.length = [(s.s, ops.length)] := fun sub lab => by simp [labS, k13]
  rw [r1, r2] at hmay ⊢
  simp -dsimp (disch := first | omega | (apply DrawYes.mk; decide +kernel)) only [go_sem, b0, hob, y0, y1, v1, v2, w1, w2, hlv]
  refine up und_98 und_9 (hm1 _).lm rfl (ins_lab (nd_ne hmay.nd)) ?_
  simp -dsimp (disch := first | omega | (apply DrawYes.mk; decide +kernel)) only [go_sem]
  obtain ⟨q1, q2⟩ := (hm1 (.cells 40 [.int .i64 s.kind, .str s.s, .str s.t, .str s.u, .int .i64 s.n, .int .i64 s.at_, vl, vm])).setL (les' := les ++ [(s.s, ops.length)])
  exact ⟨by simpa [goesR] using q1, hF _ _ q2⟩
 have b13 : ((s.kind : Int) == 13) = false := by simp; omega
 by_cases k14 : s.kind = 14
 ·have b0 : ((s.kind : Int) == 14) = true := by simp; omega
  simp -dsimp (disch := first | omega | (apply DrawYes.mk; decide +kernel)) only [go_sem, b13, b0, hob, y0, y1, v1, v2, w1, w2]
  refine Y_float [(3, 7, 10), (8, 0, 6)] (by decide +kernel) ?_
  simp -dsimp (disch := first | omega | (apply DrawYes.mk; decide +kernel)) only [go_sem, b13, b0, hob, y0, y1, v1, v2, w1, w2]
  refine call (mput_ok (o := ⟨18, [], [], [], 0, 0⟩) (hm1 _) (by have := hmay.len; omega)) ?_
  rintro _ H3 ⟨rfl, hM3, hF3⟩
  have hq3 := hF3.keep H.next _ _ (Nat.lt_succ_self _) (new_at rfl) y1
  obtain ⟨⟨lv3, hob3, _⟩, _⟩ := id hM3
  simp -dsimp (disch := first | omega | (apply DrawYes.mk; decide +kernel)) only [go_sem, b13, b0, hob, hob3, hq3, y0, y1, v1, v2, w1, w2]
  have r1 : ∀ sub, rawS sub s ops.length = [⟨⟨18, [], [], [], 0, 0⟩, some s.s⟩] := fun sub => by simp [rawS, k14]
  have r2 : ∀ sub lab, labS sub lab s ops.length = [] := fun sub lab => by simp [labS, k14]
  rw [r1, r2] at hmay ⊢
  refine up und_99 und_3 hM3.gm rfl (ins_goe hmay.lt) ?_
  simp -dsimp (disch := first | omega | (apply DrawYes.mk; decide +kernel)) only [go_sem, b13, b0, hob, hob3, hq3, y0, y1, v1, v2, w1, w2]
  obtain ⟨q1, q2⟩ := hM3.setG (ges' := ges ++ [(ops.length, s.s)])
  exact ⟨by simpa [goesR] using q1, (hF _ _ hF3).trans q2⟩
 have b14 : ((s.kind : Int) == 14) = false := by simp; omega
 by_cases k15 : s.kind = 15
 ·have b0 : ((s.kind : Int) == 15) = true := by simp; omega
  simp -dsimp (disch := first | omega | (apply DrawYes.mk; decide +kernel)) only [go_sem, b13, b14, b0, hob, y0, y1, v1, v2, w1, w2]
  refine Y_float [(3, 9, 12), (10, 0, 8)] (by decide +kernel) ?_
  simp -dsimp (disch := first | omega | (apply DrawYes.mk; decide +kernel)) only [go_sem, b13, b14, b0, hob, y0, y1, v1, v2, w1, w2]
  refine call (mput_ok (o := ⟨s.kind, [], [], [], 0, 0⟩) (hm1 _) (by have := hmay.len; omega)) ?_
  rintro _ H3 ⟨rfl, hM3, hF3⟩
  have hq3 := hF3.keep H.next _ _ (Nat.lt_succ_self _) (new_at rfl) y1
  obtain ⟨⟨lv3, hob3, _⟩, _⟩ := id hM3
  simp -dsimp (disch := first | omega | (apply DrawYes.mk; decide +kernel)) only [go_sem, b13, b14, b0, hob, hob3, hq3, y0, y1, v1, v2, w1, w2]
  have r1 : ∀ sub, rawS sub s ops.length = [⟨⟨s.kind, [], [], [], 0, 0⟩, some s.s⟩] := fun sub => by simp [rawS, k15]
  have r2 : ∀ sub lab, labS sub lab s ops.length = [] := fun sub lab => by simp [labS, k15]
  rw [r1, r2] at hmay ⊢
  refine up und_99 und_3 hM3.gm rfl (ins_goe hmay.lt) ?_
  simp -dsimp (disch := first | omega | (apply DrawYes.mk; decide +kernel)) only [go_sem, b13, b14, b0, hob, hob3, hq3, y0, y1, v1, v2, w1, w2]
  obtain ⟨q1, q2⟩ := hM3.setG (ges' := ges ++ [(ops.length, s.s)])
  exact ⟨by simpa [goesR] using q1, (hF _ _ hF3).trans q2⟩
 have b15 : ((s.kind : Int) == 15) = false := by simp; omega
 by_cases k6 : s.kind = 6
 ·have b0 : ((s.kind : Int) == 6) = true := by simp; omega
  have r1 : ∀ sub, rawS sub s ops.length = ⟨⟨6, [], [], [], s.n, ops.length + 1 + (sub s.l (ops.length + 1)).length⟩, none⟩ :: sub s.l (ops.length + 1) := fun sub => by simp [rawS, k6]
  have r2 : ∀ sub lab, labS sub lab s ops.length = lab s.l (ops.length + 1) := fun sub lab => by simp [labS, k6]
  rw [r1, r2] at hmay ⊢
  have hlen1 : ∀ o, (ops ++ [o]).length = ops.length + 1 := fun o => by simp
  have hmay1 : ∀ o, May (ops ++ [o]) les ges (rawL R f s.l (ops ++ [o]).length) (labL R f s.l (ops ++ [o]).length) := fun o => by
   rw [hlen1]
   exact ⟨by have := hmay.len; simp at this ⊢; omega, hmay.nd, fun q hq => by have := hmay.lt q hq; simp; omega⟩
  simp -dsimp (disch := first | omega | (apply DrawYes.mk; decide +kernel)) only [go_sem, b13, b14, b15, b0, hob, y0, y1, v1, v2, w1, w2]
  refine call (mput_ok (o := ⟨s.kind, [], [], [], s.n, 0⟩) (hm1 _) (by have := hmay.len; omega)) ?_
  rintro _ H3 ⟨rfl, hM3, hF3⟩
  have hq3 := hF3.keep H.next _ _ (Nat.lt_succ_self _) (new_at rfl) y1
  simp -dsimp (disch := first | omega | (apply DrawYes.mk; decide +kernel)) only [go_sem, b13, b14, b15, b0, hq3, y0, y1, v1, v2, w1, w2]
  refine call (hw hM3 hvl l2 (fun c hcc => hc c (by simp [hcc])) hs (hmay1 _)) ?_
  intro v H4 hA
  simp -dsimp (disch := first | omega | (apply DrawYes.mk; decide +kernel)) only [go_sem]
  refine call (mhere_ok hA.st (by simp)) ?_
  rintro _ H5 ⟨hM5, hF5⟩
  simp -dsimp (disch := first | omega | (apply DrawYes.mk; decide +kernel)) only [go_sem]
  refine ⟨?_, (hF _ _ hF3).trans (hA.fr.trans hF5)⟩
  rw [hlen1] at hM5
  rw [List.append_assoc, List.singleton_append, mod_mid] at hM5
  simpa [goesR, k6, Nat.add_assoc, Nat.add_comm, Nat.add_left_comm] using hM5
 have b6 : ((s.kind : Int) == 6) = false := by simp; omega
 by_cases k5 : s.kind = 5
 ·have b0 : ((s.kind : Int) == 5) = true := by simp; omega
  have hlen1 : ∀ o, (ops ++ [o]).length = ops.length + 1 := fun o => by simp
  by_cases hm0 : s.m = []
  ·have r1 : ∀ sub, rawS sub s ops.length = ⟨⟨5, s.s, s.t, [], 0, ops.length + 1 + (sub s.l (ops.length + 1)).length⟩, none⟩ :: sub s.l (ops.length + 1) := fun sub => by simp [rawS, k5, hm0]
   have r2 : ∀ sub lab, labS sub lab s ops.length = lab s.l (ops.length + 1) := fun sub lab => by simp [labS, k5, hm0]
   rw [r1, r2] at hmay ⊢
   have hmay1 : ∀ o, May (ops ++ [o]) les ges (rawL R f s.l (ops ++ [o]).length) (labL R f s.l (ops ++ [o]).length) := fun o => by
    rw [hlen1]
    exact ⟨by have := hmay.len; simp at this ⊢; omega, hmay.nd, fun q hq => by have := hmay.lt q hq; simp; omega⟩
   simp -dsimp (disch := first | omega | (apply DrawYes.mk; decide +kernel)) only [go_sem, b13, b14, b15, b6, b0, hob, y0, y1, v1, v2, w1, w2]
   refine call (mput_ok (o := ⟨s.kind, s.s, s.t, [], 0, 0⟩) (hm1 _) (by have := hmay.len; omega)) ?_
   rintro _ H3 ⟨rfl, hM3, hF3⟩
   have hq3 := hF3.keep H.next _ _ (Nat.lt_succ_self _) (new_at rfl) y1
   simp -dsimp (disch := first | omega | (apply DrawYes.mk; decide +kernel)) only [go_sem, b13, b14, b15, b6, b0, hq3, y0, y1, v1, v2, w1, w2]
   refine call (hw hM3 hvl l2 (fun c hcc => hc c (by simp [hcc])) hs (hmay1 _)) ?_
   intro v H4 hA
   have hq4 := hA.fr.keep H.next _ _ (by have := hF3.le; simp only [new_next] at this; omega) hq3 y1
   have i0 : ((s.m.length : Int) > 0) = False := by simp [hm0]
   simp -dsimp (disch := first | omega | (apply DrawYes.mk; decide +kernel)) only [go_sem, hq4, w3, i0]
   refine call (mhere_ok hA.st (by simp)) ?_
   rintro _ H5 ⟨hM5, hF5⟩
   simp -dsimp (disch := first | omega | (apply DrawYes.mk; decide +kernel)) only [go_sem]
   refine ⟨?_, (hF _ _ hF3).trans (hA.fr.trans hF5)⟩
   rw [hlen1] at hM5
   rw [List.append_assoc, List.singleton_append, mod_mid] at hM5
   simpa [goesR, k5, Nat.add_assoc, Nat.add_comm, Nat.add_left_comm] using hM5
  ·have r1 : ∀ sub, rawS sub s ops.length = ⟨⟨5, s.s, s.t, [], 0, ops.length + 2 + (sub s.l (ops.length + 1)).length⟩, none⟩ :: (sub s.l (ops.length + 1) ++
     ⟨⟨18, [], [], [], 0, ops.length + 2 + (sub s.l (ops.length + 1)).length + (sub s.m (ops.length + 2 + (sub s.l (ops.length + 1)).length)).length⟩, none⟩ :: sub s.m (ops.length + 2 + (sub s.l (ops.length + 1)).length)) := fun sub => by simp [rawS, k5, hm0]
   have r2 : ∀ sub lab, labS sub lab s ops.length = lab s.l (ops.length + 1) ++ lab s.m (ops.length + 2 + (sub s.l (ops.length + 1)).length) := fun sub lab => by simp [labS, k5, hm0]
   rw [r1, r2] at hmay ⊢
   have hmay1 : ∀ o, May (ops ++ [o]) les ges (rawL R f s.l (ops ++ [o]).length) (labL R f s.l (ops ++ [o]).length) := fun o => by
    rw [hlen1]
    refine ⟨by have := hmay.len; simp at this ⊢; omega, ?_, fun q hq => by have := hmay.lt q hq; simp; omega⟩
    have := hmay.nd
    rw [← List.append_assoc, List.map_append] at this
    exact (List.nodup_append.1 this).1
   simp -dsimp (disch := first | omega | (apply DrawYes.mk; decide +kernel)) only [go_sem, b13, b14, b15, b6, b0, hob, y0, y1, v1, v2, w1, w2]
   refine call (mput_ok (o := ⟨s.kind, s.s, s.t, [], 0, 0⟩) (hm1 _) (by have := hmay.len; omega)) ?_
   rintro _ H3 ⟨rfl, hM3, hF3⟩
   have hq3 := hF3.keep H.next _ _ (Nat.lt_succ_self _) (new_at rfl) y1
   simp -dsimp (disch := first | omega | (apply DrawYes.mk; decide +kernel)) only [go_sem, b13, b14, b15, b6, b0, hq3, y0, y1, v1, v2, w1, w2]
   refine call (hw hM3 hvl l2 (fun c hcc => hc c (by simp [hcc])) hs (hmay1 _)) ?_
   intro v H4 hA
   have hle3 := hF3.le
   simp only [new_next] at hle3
   have hle4 := hA.fr.le
   have hq4 := hA.fr.keep H.next _ _ (by omega) hq3 y1
   have hmp : 0 < s.m.length := List.length_pos_iff.2 hm0
   have i0 : ((s.m.length : Int) > 0) = True := by simp; omega
   simp -dsimp (disch := first | omega | (apply DrawYes.mk; decide +kernel)) only [go_sem, hq4, w3, i0]
   rw [hlen1] at hA
   generalize hraw1 : rawL R f s.l (ops.length + 1) = raws1 at hA hmay ⊢
   generalize hlab1 : labL R f s.l (ops.length + 1) = labs1 at hA hmay ⊢
   have hx := hmay.len
   simp at hx
   refine call (mput_ok (o := ⟨18, [], [], [], 0, 0⟩) hA.st (by simp; omega)) ?_
   rintro _ H5 ⟨rfl, hM5, hF5⟩
   have hle5 := hF5.le
   have hq5 := hF5.keep H.next _ _ (by omega) hq4 y1
   simp -dsimp (disch := first | omega | (apply DrawYes.mk; decide +kernel)) only [go_sem]
   refine call (mhere_ok (k := ops.length) hM5 (by simp)) ?_
   rintro _ H6 ⟨hM6, hF6⟩
   have hle6 := hF6.le
   have hq6 := hF6.keep H.next _ _ (by omega) hq5 y1
   rw [List.append_assoc, List.append_assoc, List.singleton_append, mod_mid, hlen1] at hM6
   have hlenX : ∀ o o2 : Opr, (ops ++ o :: (raws1.map (·.o) ++ [o2])).length = ops.length + 2 + raws1.length := fun o o2 => by simp; omega
   simp -dsimp (disch := first | omega | (apply DrawYes.mk; decide +kernel)) only [go_sem, hq6, w1, w2]
   have hmay2 : ∀ o o2 : Opr, May (ops ++ o :: (raws1.map (·.o) ++ [o2])) (les ++ labs1) (ges ++ goesR raws1 (ops.length + 1)) (rawL R f s.m (ops ++ o :: (raws1.map (·.o) ++ [o2])).length) (labL R f s.m (ops ++ o :: (raws1.map (·.o) ++ [o2])).length) := fun o o2 => by
    rw [hlenX]
    refine ⟨by rw [hlenX]; omega, by have := hmay.nd; rwa [← List.append_assoc] at this, fun q hq => ?_⟩
    rw [hlenX]
    rw [List.mem_append] at hq
    rcases hq with hq | hq
    ·have := hmay.lt q hq; omega
    ·have := (goesR_lt _ _ q hq).2; omega
   refine call (hw hM6 hvm l3 (fun c hcc => hc c (by simp [hcc])) hs (hmay2 _ _)) ?_
   intro v H7 hB
   rw [hlenX] at hB
   simp -dsimp (disch := first | omega | (apply DrawYes.mk; decide +kernel)) only [go_sem]
   generalize hraw2 : rawL R f s.m (ops.length + 2 + raws1.length) = raws2 at hB hmay ⊢
   generalize hlab2 : labL R f s.m (ops.length + 2 + raws1.length) = labs2 at hB hmay ⊢
   obtain ⟨hBs, hBf⟩ := hB
   rw [hlenX] at hBs
   refine call (mhere_ok hBs (by simp)) ?_
   rintro _ H8 ⟨hM8, hF8⟩
   simp -dsimp (disch := first | omega | (apply DrawYes.mk; decide +kernel)) only [go_sem]
   refine ⟨?_, (hF _ _ hF3).trans (hA.fr.trans (hF5.trans (hF6.trans (hBf.trans hF8))))⟩
   rw [shift_mid, mod_at (by simp)] at hM8
   rw [k5] at hM8
   simp only [List.length_append, List.length_cons, List.length_map, List.length_nil] at hM8
   rw [hraw2, hlab2] at hM8
   have e1 : ops.length + (raws1.length + 1) + (raws2.length + 1) = ops.length + 2 + raws1.length + raws2.length := by omega
   have e2 : ops.length + 2 + raws1.length = ops.length + 1 + raws1.length + 1 := by omega
   rw [e1] at hM8
   rw [goesR, goesR_app, goesR]
   simp only [List.map_cons, List.map_append, List.nil_append, ← e2, ← List.append_assoc, List.append_nil, List.cons_append] at hM8 ⊢
   rw [List.append_assoc, List.cons_append] at hM8
   exact hM8
 have b5 : ((s.kind : Int) == 5) = false := by simp; omega
 simp -dsimp (disch := first | omega | (apply DrawYes.mk; decide +kernel)) only [go_sem, b13, b14, b15, b6, b5, hob, y0, y1, v1, v2, w1, w2]
 refine call (mput_ok (o := ⟨s.kind, s.s, s.t, s.u, s.n, 0⟩) (hm1 _) (by have := hmay.len; omega)) ?_
 rintro _ H3 ⟨rfl, hM3, hF3⟩
 simp -dsimp (disch := first | omega | (apply DrawYes.mk; decide +kernel)) only [go_sem]
 have r1 : ∀ sub, rawS sub s ops.length = [⟨⟨s.kind, s.s, s.t, s.u, s.n, 0⟩, none⟩] := fun sub => by simp [rawS, k5, k6, k13, k14, k15]
 have r2 : ∀ sub lab, labS sub lab s ops.length = [] := fun sub lab => by simp [labS, k5, k6, k13]
 rw [r1, r2]
 exact ⟨by simpa [goesR] using hM3, hF _ _ hF3⟩
theorem walk_ok {R : List Stm} (hfin : ∀ s ∈ R, fineS s ∧ s.s.length < 1000000 ∧ s.l.length < 1000000 ∧ s.m.length < 1000000) (hown : ∀ (i : Nat) (s : Stm), R[i]? = some s → ∀ n ∈ s.l ++ s.m, n < i) : ∀ f, WithOk R f
 | 0 => with_ok hfin hown fun g h => by cases h
 | f + 1 => with_ok hfin hown fun g h => by
  obtain rfl : f = g := by omega
  exact stmt_ok (walk_ok hfin hown f)
end Go.Proofs.YtcknfhhbijlobaaGreatDoor.D
namespace Go.Proofs.YtcknfhhbijlobaaGreatDoor.D
open Go
set_option linter.unusedVariables false
set_option linter.unusedSimpArgs false
theorem own_sub {G : Ghost} {H H' : DH} (hm : ∀ b o, H'.m b = some o → H.m b = some o) {b B : Nat} (h : ownR G H' b = some B) : ownR G H b = some B := by
 unfold ownR at h ⊢
 cases hb : H'.m b with
 | none => rw [hb] at h; cases h
 | some o => rw [hb] at h; rw [hm b o hb]; exact h
theorem Rel.sub {G : Ghost} {H H' : DH} {w : World} (r : Rel G H w) (hn : H.next ≤ H'.next) (hm : ∀ b o, H'.m b = some o → H.m b = some o) : Rel G H' w where
 wf b hb := by
  obtain ⟨h1, h2⟩ := r.wf b (Nat.le_trans hn hb)
  refine ⟨?_, h2⟩
  cases hh : H'.m b with
  | none => rfl
  | some o => rw [hm b o hh] at h1; cases h1
 im := r.im
 cells b T cs h := r.cells b T cs (hm _ _ h)
 rows b T cs h := r.rows b T cs (hm _ _ h)
 tips b T n cl h := r.tips b T n cl (hm _ _ h)
 iters b s pos h := r.iters b s pos (hm _ _ h)
 maps b es h := r.maps b es (hm _ _ h)
 inj b b' B h h' := r.inj b b' B (own_sub hm h) (own_sub hm h')
 z := by
  refine ⟨Nat.lt_of_lt_of_le r.z.1 hn, ?_⟩
  cases hh : H'.m 0 with
  | none => rfl
  | some o => have := hm 0 o hh; rw [r.z.2] at this; cases this
theorem Step.sub {G0 G : Ghost} {H0 H H' : DH} {w0 w : World} (st : Step G0 H0 w0 G H w) (hn : H.next ≤ H'.next) (hm : ∀ b o, H'.m b = some o → H.m b = some o) : Step G0 H0 w0 G H' w :=
 ⟨st.le, st.rel.sub hn hm, st.os, st.tape, st.output, st.size, st.blk, fun b B h => st.own b B (own_sub hm h), st.imf⟩
theorem Step.nick {G0 G : Ghost} {H0 H : DH} {w0 w : World} (st : Step G0 H0 w0 G H w) (B : Nat) : Step G0 H0 w0 (G.give H.next B) { H with next := H.next + 1 } w ∧ G.le (G.give H.next B) := by
 have r := st.rel
 have hnx := r.wf H.next (Nat.le_refl _)
 have hle : G.le (G.give H.next B) := by
  refine ⟨fun _ _ _ h => h, fun b y h => ?_, fun _ _ _ h => h⟩
  show (if b = H.next then some (B, 0) else G.ρ b) = some y
  rw [if_neg]
  ·exact h
  ·intro e; subst e; rw [hnx.2.1] at h; cases h
 have hne : ∀ {b : Nat} {o : DObj}, H.m b = some o → b ≠ H.next := by
  rintro b o h rfl; rw [hnx.1] at h; cases h
 have hρ : ∀ {b : Nat}, b ≠ H.next → (G.give H.next B).ρ b = G.ρ b := fun h => if_neg h
 have hown : ∀ b, ownR (G.give H.next B) { H with next := H.next + 1 } b = ownR G H b := by
  intro b
  unfold ownR
  cases hb : H.m b with
  | none => rfl
  | some o => cases o <;> simp [Ghost.give, hne hb]
 refine ⟨⟨st.le.trans hle, ⟨?_, r.im, ?_, ?_, ?_, ?_, ?_, fun b b' B' h h' => ?_, ⟨Nat.succ_pos _, r.z.2⟩⟩, st.os, st.tape, st.output, st.size, st.blk, fun b B' h => st.own b B' (by rwa [hown] at h), st.imf⟩, hle⟩
 ·intro b hb
  have hb' : H.next + 1 ≤ b := hb
  have := r.wf b (by omega)
  exact ⟨this.1, by rw [hρ (by omega)]; exact this.2.1, this.2.2⟩
 ·intro b T cs h B' s hp
  rw [hρ (hne h)] at hp
  obtain ⟨⟨pre, vs, post, T', fr, h1, h2, h3, h4⟩, h5⟩ := r.cells b T cs h B' s hp
  exact ⟨⟨pre, vs, post, T', fr, h1, h2, h3.mono hle, h4⟩, h5⟩
 ·intro b T cs h B' s hp
  rw [hρ (hne h)] at hp
  obtain ⟨⟨p, pc, c, fr, vs, h0, h1, h2, h3, h4, h5⟩, h6⟩ := r.rows b T cs h B' s hp
  exact ⟨⟨p, pc, c, fr, vs, h0, h1, h2, h3, h4.mono hle, h5⟩, h6⟩
 ·intro b T n cl h
  exact r.tips b T n cl h
 ·intro b s pos h B' x hp
  rw [hρ (hne h)] at hp
  exact r.iters b s pos h B' x hp
 ·intro b es h B' x hp
  rw [hρ (hne h)] at hp
  obtain ⟨h1, ⟨ms, clk, h2, h3, h4, h5⟩, h6⟩ := r.maps b es h B' x hp
  exact ⟨h1, ⟨ms, clk, h2, h3.mono hle, h4.mono hle, h5⟩, h6⟩
 ·rw [hown] at h h'
  exact r.inj b b' B' h h'
theorem Step.poke {G0 G : Ghost} {H0 H : DH} {w0 w : World} (st : Step G0 H0 w0 G H w) {B : Nat} {o0 o : Obj} (h0 : w0.heap.size ≤ B) (hB : w.heap[B]? = some o0) (hc : ∀ c T fr, o0 ≠ .cells c T fr) (hun : ∀ b, ownR G H b ≠ some B) : Step G0 H0 w0 G H (putBlk w B o) := by
 have r := st.rel
 have k : ∀ {B' : Nat}, B' ≠ B → (putBlk w B o).heap[B']? = w.heap[B']? := fun h => putBlk_ne h
 refine ⟨st.le, ⟨r.wf, ?_, ?_, ?_, ?_, ?_, ?_, r.inj, r.z⟩, st.os, st.tape, st.output, by simpa [putBlk] using st.size, fun B' hB' hn => ?_, st.own, st.imf⟩
 ·intro B' q v h
  obtain ⟨c, T, fr, h1, h2⟩ := r.im B' q v h
  refine ⟨c, T, fr, ?_, h2⟩
  rw [k (by rintro rfl; rw [hB] at h1; exact hc _ _ _ (Option.some.inj h1))]
  exact h1
 ·intro b T cs h B' s hp
  obtain ⟨⟨pre, vs, post, T', fr, h1, h2⟩, h3⟩ := r.cells b T cs h B' s hp
  exact ⟨⟨pre, vs, post, T', fr, by rw [k (by rintro rfl; exact hun b (by simp [ownR, h, hp]))]; exact h1, h2⟩, h3⟩
 ·intro b T cs h B' s hp
  obtain ⟨⟨p, pc, c, fr, vs, g0, h1, h2⟩, h3⟩ := r.rows b T cs h B' s hp
  exact ⟨⟨p, pc, c, fr, vs, g0, by rw [k (by rintro rfl; exact hun b (by simp [ownR, h, hp]))]; exact h1, h2⟩, h3⟩
 ·intro b T n cl h
  obtain ⟨g0, g9⟩ := r.tips b T n cl h
  refine ⟨g0, fun B' p pc hp => ?_⟩
  obtain ⟨⟨c, T', fr, h1, h2⟩, h3⟩ := g9 B' p pc hp
  exact ⟨⟨c, T', fr, by rw [k (by rintro rfl; exact hun b (by simp [ownR, h, hp]))]; exact h1, h2⟩, h3⟩
 ·intro b s pos h B' x hp
  obtain ⟨h1, h2, h3⟩ := r.iters b s pos h B' x hp
  exact ⟨h1, by rw [k (by rintro rfl; exact hun b (by simp [ownR, h, hp]))]; exact h2, h3⟩
 ·intro b es h B' x hp
  obtain ⟨h1, ⟨ms, clk, h2, h3⟩, h4⟩ := r.maps b es h B' x hp
  exact ⟨h1, ⟨ms, clk, by rw [k (by rintro rfl; exact hun b (by simp [ownR, h, hp]))]; exact h2, h3⟩, h4⟩
 ·rw [k (by omega)]
  exact st.blk B' hB' hn
structure Lone (G : Ghost) (H : DH) (w : World) (B : Nat) (o : Obj) : Prop where
 at_ : w.heap[B]? = some o
 un : ∀ b, ownR G H b ≠ some B
theorem Lone.step {G G' : Ghost} {H H' : DH} {w w' : World} {B : Nat} {o : Obj} (l : Lone G H w B o) (st : Step G H w G' H' w') : Lone G' H' w' B o := by
 have hlt := (Array.getElem?_eq_some_iff.1 l.at_).1
 refine ⟨(st.blk B hlt l.un).trans l.at_, fun b h => ?_⟩
 rcases st.own b B h with ⟨b', h'⟩ | h'
 ·exact l.un b' h'
 ·omega
theorem Lone.poke {G : Ghost} {H : DH} {w : World} {B B' : Nat} {o o' : Obj} (l : Lone G H w B o) (hne : B ≠ B') : Lone G H (putBlk w B' o') B o := ⟨by rw [putBlk_ne hne]; exact l.at_, l.un⟩
theorem Lone.poked {G : Ghost} {H : DH} {w : World} {B : Nat} {o o' : Obj} (l : Lone G H w B o) : Lone G H (putBlk w B o') B o' := ⟨putBlk_at l.at_, l.un⟩
theorem Lone.drew {G : Ghost} {H : DH} {w : World} {B : Nat} {o : Obj} (l : Lone G H w B o) : Lone G H w.drew B o := ⟨l.at_, l.un⟩
theorem Lone.sub {G : Ghost} {H H' : DH} {w : World} {B : Nat} {o : Obj} (l : Lone G H w B o) (hm : ∀ b o, H'.m b = some o → H.m b = some o) : Lone G H' w B o := ⟨l.at_, fun b h => l.un b (own_sub hm h)⟩
theorem Lone.nick {G : Ghost} {H : DH} {w : World} {B B' : Nat} {o : Obj} (r : Rel G H w) (l : Lone G H w B o) : Lone (G.give H.next B') { H with next := H.next + 1 } w B o := by
 refine ⟨l.at_, fun b h => l.un b ?_⟩
 have hnx := r.wf H.next (Nat.le_refl _)
 unfold ownR at h ⊢
 cases hb : H.m b with
 | none => simp [hb] at h
 | some o =>
  have hne : b ≠ H.next := by rintro rfl; rw [hnx.1] at hb; cases hb
  cases o <;> simpa [hb, Ghost.give, hne] using h
theorem Step.last {G0 G : Ghost} {H0 H : DH} {w0 w : World} (st : Step G0 H0 w0 G H w) (x : ∀ i, i < H0.next → H.m i = H0.m i) (hn : H0.next ≤ H.next) {b : Nat} {T : TypeId} {cs : List DV} {B s : Nat} (hb : H0.next ≤ b) (hm : H.m b = some (.row T cs)) (hρ : G.ρ b = some (B, s)) :
  ∃ G' vs, Step G0 H0 w0 G' ⟨H.next, fun i => if i < H0.next then H0.m i else none⟩ w ∧ VL G' cs vs ∧ (∀ (i : Nat) (v : Value), vs[i]? = some v → G'.im B (s + i) = some v) := by
 have r := st.rel
 obtain ⟨⟨p, pc, c, fr, vs, h0, h1, h2, h3, h4, h5, h6⟩, him⟩ := r.rows b T cs hm B s hρ
 have hown : ownR G H b = some B := by simp [ownR, hm, hρ]
 let H' : DH := ⟨H.next, fun i => if i < H0.next then H0.m i else none⟩
 have hm' : ∀ i o, H'.m i = some o → i < H0.next ∧ H.m i = some o := by
  intro i o h
  simp only [H'] at h
  split at h
  ·rename_i hi; exact ⟨hi, by rw [x i hi]; exact h⟩
  ·cases h
 have st' : Step G0 H0 w0 G H' w := st.sub (Nat.le_refl _) fun i o h => (hm' i o h).2
 have r' := st'.rel
 let G' : Ghost := { G with im := fun B' o => if B' = B ∧ s ≤ o then vs[o - s]? else G.im B' o }
 have hle : G.le G' := by
  refine ⟨fun B' o v h => ?_, fun _ _ h => h, fun _ _ _ h => h⟩
  show (if B' = B ∧ s ≤ o then vs[o - s]? else G.im B' o) = some v
  rw [if_neg]
  ·exact h
  ·rintro ⟨rfl, _⟩; rw [him o] at h; cases h
 have hno : ∀ b' B', ownR G H' b' = some B' → B' ≠ B := by
  rintro b' B' h rfl
  have e := r.inj b' b _ (own_sub (fun i o h => (hm' i o h).2) h) hown
  subst e
  unfold ownR at h
  cases hh : H'.m b' with
  | none => rw [hh] at h; cases h
  | some o => have := (hm' _ _ hh).1; omega
 have himo : ∀ {B' : Nat}, B' ≠ B → ∀ q, G'.im B' q = G.im B' q := fun h q => if_neg fun e => h e.1
 refine ⟨G', vs, ⟨st.le.trans hle, ⟨r'.wf, ?_, ?_, ?_, ?_, ?_, ?_, r'.inj, r'.z⟩, st.os, st.tape, st.output, st.size, st.blk, st'.own, fun B' hB' hu q => ?_⟩, h4.mono hle, fun i v h => ?_⟩
 ·intro B' q v h
  by_cases hB : B' = B ∧ s ≤ q
  ·obtain ⟨rfl, hq⟩ := hB
   have hv : vs[q - s]? = some v := by simpa [G', hq] using h
   refine ⟨c, T, fr, h1, ?_⟩
   have := h5 _ _ hv
   rwa [show s + (q - s) = q by omega] at this
  ·have : G'.im B' q = G.im B' q := if_neg hB
   rw [this] at h
   exact r.im B' q v h
 ·intro b' T' cs' h B' s' hp
  have hB := hno b' B' (by have hp' : G.ρ b' = some (B', s') := hp; simp only [ownR]; rw [h]; simp [hp'])
  obtain ⟨⟨pre, vs', post, T2, fr', g1, g2, g3, g4⟩, g5⟩ := r'.cells b' T' cs' h B' s' hp
  exact ⟨⟨pre, vs', post, T2, fr', g1, g2, g3.mono hle, g4⟩, fun q => by rw [himo hB]; exact g5 q⟩
 ·intro b' T' cs' h B' s' hp
  have hB := hno b' B' (by have hp' : G.ρ b' = some (B', s') := hp; simp only [ownR]; rw [h]; simp [hp'])
  obtain ⟨⟨p', pc', c', fr', vs', g0, g1, g2, g3, g4, g5⟩, g6⟩ := r'.rows b' T' cs' h B' s' hp
  exact ⟨⟨p', pc', c', fr', vs', g0, g1, g2, g3, g4.mono hle, g5⟩, fun q => by rw [himo hB]; exact g6 q⟩
 ·intro b' T' n cl h
  obtain ⟨g0, g9⟩ := r'.tips b' T' n cl h
  refine ⟨g0, fun B' p' pc' hp => ?_⟩
  have hB := hno b' B' (by have hp' : G.place b' n = some (B', p', pc') := hp; simp only [ownR]; rw [h]; simp [hp'])
  obtain ⟨g1, g3⟩ := g9 B' p' pc' hp
  exact ⟨g1, fun q hq => by rw [himo hB]; exact g3 q hq⟩
 ·intro b' s' pos h B' y hp
  have hB := hno b' B' (by have hp' : G.ρ b' = some (B', y) := hp; simp only [ownR]; rw [h]; simp [hp'])
  obtain ⟨g1, g2, g3⟩ := r'.iters b' s' pos h B' y hp
  exact ⟨g1, g2, fun q => by rw [himo hB]; exact g3 q⟩
 ·intro b' es h B' y hp
  have hB := hno b' B' (by have hp' : G.ρ b' = some (B', y) := hp; simp only [ownR]; rw [h]; simp [hp'])
  obtain ⟨g1, ⟨ms, clk, g2, g3, g4, g5⟩, g6⟩ := r'.maps b' es h B' y hp
  exact ⟨g1, ⟨ms, clk, g2, g3.mono hle, g4.mono hle, g5⟩, fun q => by rw [himo hB]; exact g6 q⟩
 ·have hB : B' ≠ B := by
   rintro rfl
   rcases st.own b _ hown with ⟨b', h⟩ | h
   ·exact hu b' h
   ·omega
  rw [himo hB]
  exact st.imf B' hB' hu q
 ·show (if B = B ∧ s ≤ s + i then vs[s + i - s]? else G.im B (s + i)) = some v
  rw [if_pos ⟨rfl, by omega⟩, show s + i - s = i by omega]
  exact h
theorem code_wp {C : Cfg} (TO : TabOk C.P C.T) (XO : ExtOk C.P C.ext) (NO : NameOk C.P) (DO : DrawOk C.P C.T C.draw) {c : Code} {σ : Nat → DV} {H : DH} {K : Out → (Nat → DV) → DH → Prop} (h : W C c σ H K) {N : Nat} (hb : bnd N c = true) :
  ∃ o σ' H', K o σ' H' ∧ ∀ G w a, Rel G H w → SlotsOk G σ a → a.defers = [] → a.tmps.size = N → c.wp C.P (Post G H w N o σ' H') a w := by
 obtain ⟨o, s, v, h1, h2⟩ := h
 obtain ⟨n, hn⟩ := (run_iff C).1 h1
 exact ⟨o, s.1, s.2, h2, fun G w a r hs hd hsz => (sound TO XO NO DO n).code c σ H o s.1 s.2 v hn G w a N r hs hd hsz hb⟩
theorem evalOps_then {P : Program} {T : Tab} (TO : TabOk P T) {E : Orc} (EO : OrcOk P E) {ops : Array Oper} {N : Nat} (hN : ∀ (j : Nat) (p : Oper) t, ops[j]? = some p → p.dst = some t → t < N) {Q : Exit → Act → World → Prop} {l2 : List Oper} :
  ∀ (l : List Oper) (σ : Nat → DV) (H : DH) (σ' : Nat → DV) (H' : DH), (∀ o ∈ l, ∀ t, o.dst = some t → t < N) → evalOps T E ops l (σ, H) = some (σ', H') → ∀ (G : Ghost) (w : World) (a : Act), Rel G H w → SlotsOk G σ a → a.defers = [] → a.tmps.size = N →
   (∀ a' w' G', SlotsOk G' σ' a' → a'.defers = [] → a'.tmps.size = N → Step G H w G' H' w' → wpList P ops Q l2 a' w') → wpList P ops Q (l ++ l2) a w
 | [], σ, H, σ', H', hl, h, G, w, a, r, hs, hd, hn, hQ => by
  simp only [evalOps, Option.some.injEq, Prod.mk.injEq] at h
  obtain ⟨rfl, rfl⟩ := h
  exact hQ a w G hs hd hn (.refl r)
 | o :: l, σ, H, σ', H', hl, h, G, w, a, r, hs, hd, hn, hQ => by
  simp only [evalOps] at h
  have hlt : ∀ t, o.dst = some t → t < a.tmps.size := fun t ht => hn ▸ hl o (by simp) t ht
  rw [List.cons_append]
  unfold wpList
  split at h
  ·rename_i hw
   rw [wanted_ok hs hw (hn ▸ hN)]
   rw [if_pos rfl]
   split at h
   ·rename_i v H1 he
    refine .inl ?_
    unfold Oper.wp
    refine upon_ok (op_ok TO EO r hs he) fun v' w' G' hv hst => ?_
    refine evalOps_then TO EO hN l _ H1 σ' H' (fun o' ho' => hl o' (by simp [ho'])) h G' w' _ hst.rel (put_ok (hs.mono hst.le) hv hlt) (by rw [put_defers]; exact hd) (by rw [put_size]; exact hn) ?_
    exact fun a' w'' G'' h1 h2 h3 h4 => hQ a' w'' G'' h1 h2 h3 (hst.trans h4)
   ·cases h
  ·rename_i hw
   rw [wanted_ok hs hw (hn ▸ hN)]
   rw [if_neg (by simp)]
   exact evalOps_then TO EO hN l _ H σ' H' (fun o' ho' => hl o' (by simp [ho'])) h G w _ r (put_ok hs (V_undef G) hlt) (by rw [put_defers]; exact hd) (by rw [put_size]; exact hn) hQ
  ·cases h
theorem wp_hand {P : Program} {ops : Array Oper} {Q : Exit → Act → World → Prop} {o : Oper} {rest : List Oper} {a : Act} {w w' : World} {v : Value} (hg : o.guard = none) (hr : (execOp a.eval o).run P w = .ok (.value v) w')
  (k : wpList P ops Q rest (a.put o.dst v) w') : wpList P ops Q (o :: rest) a w := by
 unfold wpList
 rw [if_pos (by simp [Region.wanted, hg])]
 refine .inl ?_
 unfold Oper.wp
 rw [hr]
 exact k
theorem callF_orc {C : Cfg} (TO : TabOk C.P C.T) (XO : ExtOk C.P C.ext) (NO : NameOk C.P) (DO : DrawOk C.P C.T C.draw) : OrcOk C.P (callF C) := by
 intro f args H d H' h G w vs r hv
 obtain ⟨n, hn⟩ := (callF_iff C).1 h
 exact orc_ok XO NO (sound TO XO NO DO n) f args H d H' hn G w vs r hv
theorem ops_wp {C : Cfg} (TO : TabOk C.P C.T) (XO : ExtOk C.P C.ext) (NO : NameOk C.P) (DO : DrawOk C.P C.T C.draw) {ops : Array Oper} {l : List Oper} {σ : Nat → DV} {H : DH} {K : (Nat → DV) → DH → Prop} (h : WO C ops l σ H K) {N : Nat}
  (hN : ∀ (j : Nat) (p : Oper) t, ops[j]? = some p → p.dst = some t → t < N) (hl : ∀ o ∈ l, ∀ t, o.dst = some t → t < N) :
  ∃ σ' H', K σ' H' ∧ ∀ (Q : Exit → Act → World → Prop) (l2 : List Oper) G w a, Rel G H w → SlotsOk G σ a → a.defers = [] → a.tmps.size = N →
   (∀ a' w' G', SlotsOk G' σ' a' → a'.defers = [] → a'.tmps.size = N → Step G H w G' H' w' → wpList C.P ops Q l2 a' w') → wpList C.P ops Q (l ++ l2) a w := by
 obtain ⟨s, h1, h2⟩ := h
 exact ⟨s.1, s.2, h2, fun Q l2 G w a r hs hd hsz k => evalOps_then TO (callF_orc TO XO NO DO) hN l σ H s.1 s.2 hl h1 G w a r hs hd hsz k⟩
end Go.Proofs.YtcknfhhbijlobaaGreatDoor.D
namespace Go.Proofs.YtcknfhhbijlobaaGreatDoor.D
open Go
set_option linter.unusedVariables false
set_option linter.unusedSimpArgs false
set_option maxRecDepth 100000
def curL (labs : List (List UInt8 × Nat)) (dn : Nat → Bool) : List Raw → Nat → List Opr
 | [], _ => []
 | r :: rs, i => (if dn i then fixR labs r else r.o) :: curL labs dn rs (i + 1)
theorem curL_none {labs : List (List UInt8 × Nat)} : ∀ (rs : List Raw) (i : Nat), curL labs (fun _ => false) rs i = rs.map (·.o)
 | [], _ => rfl
 | r :: rs, i => by simp [curL, curL_none rs]
theorem curL_all {labs : List (List UInt8 × Nat)} {dn : Nat → Bool} : ∀ (rs : List Raw) (i : Nat), (∀ q ∈ goesR rs i, dn q.1 = true) → curL labs dn rs i = rs.map (fixR labs)
 | [], _, _ => rfl
 | r :: rs, i, h => by
  rw [curL, curL_all rs (i + 1) fun q hq => h q (by rw [goesR]; exact List.mem_append_right _ hq), List.map_cons]
  congr 1
  cases hl : r.lab with
  | none => simp [fixR, hl]
  | some x => rw [if_pos (h (i, x) (by rw [goesR, hl]; simp))]
theorem curL_len {labs : List (List UInt8 × Nat)} {dn : Nat → Bool} : ∀ (rs : List Raw) (i : Nat), (curL labs dn rs i).length = rs.length
 | [], _ => rfl
 | r :: rs, i => by simp [curL, curL_len rs]
theorem curL_congr {labs : List (List UInt8 × Nat)} {dn dn' : Nat → Bool} : ∀ (rs : List Raw) (i : Nat), (∀ j, i ≤ j → dn j = dn' j) → curL labs dn rs i = curL labs dn' rs i
 | [], _, _ => rfl
 | r :: rs, i, h => by rw [curL, curL, h i (Nat.le_refl _), curL_congr rs (i + 1) fun j hj => h j (by omega)]
theorem curL_set {labs : List (List UInt8 × Nat)} {dn : Nat → Bool} {k : Nat} {x : List UInt8} : ∀ (rs : List Raw) (i : Nat), (k, x) ∈ goesR rs i →
  curL labs (fun j => j == k || dn j) rs i = (curL labs dn rs i).modify (k - i) (fun o => { o with to := (toOf labs x).getD 0 })
 | [], _, h => by simp [goesR] at h
 | r :: rs, i, h => by
  rw [goesR, List.mem_append] at h
  rcases h with h | h
  ·cases hl : r.lab with
   | none => rw [hl] at h; cases h
   | some y =>
    rw [hl] at h
    simp at h
    obtain ⟨rfl, rfl⟩ := h
    rw [curL, curL, curL_congr (dn := fun j => j == k || dn j) (dn' := dn) rs (k + 1) fun j hj => by
     have : (j == k) = false := by simp; omega
     simp [this]]
    simp only [beq_self_eq_true, Bool.true_or, if_true, Nat.sub_self]
    rw [List.modify_zero_cons]
    congr 1
    unfold fixR
    rw [hl]
    cases dn k <;> simp
  ·have hk := goesR_lt rs (i + 1) _ h
   simp only at hk
   have e : k - i = (k - (i + 1)) + 1 := by omega
   have hn : (i == k) = false := by simp; omega
   rw [curL, curL, curL_set rs (i + 1) h, e, List.modify_succ_cons, hn]
   rfl
theorem goes_sorted : ∀ (rs : List Raw) (i : Nat), (goesR rs i).Pairwise fun a b => a.1 < b.1
 | [], _ => by simp [goesR]
 | r :: rs, i => by
  rw [goesR, List.pairwise_append]
  refine ⟨by cases r.lab <;> simp, goes_sorted rs (i + 1), ?_⟩
  intro a ha b hb
  have := (goesR_lt rs (i + 1) b hb).1
  cases hl : r.lab with
  | none => rw [hl] at ha; cases ha
  | some x => rw [hl] at ha; simp at ha; subst ha; simp only; omega
theorem goes_ne {rs : List Raw} {i j j' : Nat} {q q' : Nat × List UInt8} (h : (goesR rs i)[j]? = some q) (h' : (goesR rs i)[j']? = some q') (hj : j ≠ j') : q.1 ≠ q'.1 := by
 have hp := List.pairwise_iff_getElem.1 (goes_sorted rs i)
 obtain ⟨l1, e1⟩ := List.getElem?_eq_some_iff.1 h
 obtain ⟨l2, e2⟩ := List.getElem?_eq_some_iff.1 h'
 rcases Nat.lt_or_gt_of_ne hj with hlt | hlt
 ·have := hp j j' l1 l2 hlt; rw [e1, e2] at this; omega
 ·have := hp j' j l2 l1 hlt; rw [e1, e2] at this; omega
theorem find_lab {x : List UInt8} : ∀ (labs : List (List UInt8 × Nat)), findD .string (.str x) (labs.map labV) = some ((toOf labs x).map fun n => .int .i64 n)
 | [] => rfl
 | q :: r => by
  have ih := find_lab (x := x) r
  unfold toOf at ih ⊢
  rw [List.map_cons, List.find?_cons]
  simp only [labV, findD, sameD]
  by_cases h : q.1 = x
  ·subst h; simp
  ·have h1 : (x == q.1) = false := by simp; exact fun e => h e.symm
   have h2 : (q.1 == x) = false := by simp [h]
   simp only [h1, h2]
   exact ih
theorem code_n {c : Code} {σ : Nat → DV} {H : DH} {n : Pt} {N : Nat} (h : Y cfg c σ H n (fun _ _ _ => False) (fun _ _ _ => False) (fun _ _ => False) (.mk _)) (hb : bnd N c = true) :
  ∃ σ' H', n σ' H' ∧ ∀ G w a, Rel G H w → SlotsOk G σ a → a.defers = [] → a.tmps.size = N → c.wp cfg.P (Post G H w N .norm σ' H') a w := by
 unfold Y at h
 rw [W_lite] at h
 obtain ⟨o, σ', H', hk, hw⟩ := code_wp tab_ok ext_ok name_ok draws_ok h hb
 cases o with
 | norm => exact ⟨σ', H', hk, hw⟩
 | _ => exact hk.elim
theorem callFunc_enter {P : Program} (NO : NameOk P) {f : FuncId} {fn : Func} {c : Code} (hf : P.funcs[f]? = some fn) (hb : fn.body = some c) (vs : Array Value) (w : World) : (callFunc f vs).run P w = .ok (.enter f vs) w := by
 have hname := NO f fn hf
 simp only [callFunc, Sem.run_bind, run_program, Result.andThen_ok, hf, hname, hb, Bool.false_eq_true, if_false, Option.isNone_some, Sem.run_pure]
structure LI (H0 : DH) (G0 : Ghost) (w0 : World) (N p md : Nat) (stmv topv : DV) (lb gb r : Nat) (raws : List Raw) (labs : List (List UInt8 × Nat)) (it Bit Bg clk nx : Nat) (ms : Array MapEntry) (seen : Array Nat) (a : Act) (w : World) : Prop where
 ex : ∃ (G : Ghost) (H : DH) (σ : Nat → DV) (last : Nat) (dn : Nat → Bool), Step G0 H0 w0 G H w ∧ SlotsOk G σ a ∧ σ 3 = .ptr p 0 ∧ σ 22 = .ptr it 0 ∧ G.ρ it = some (Bit, 0) ∧
  H.m p = some (.cells 101 [.int .i64 md, stmv, topv, .hs r 6 0 raws.length, .mp lb, .mp gb]) ∧ H.m lb = some (.map (labs.map labV)) ∧ H.m r = some (.row 57 (flat ((curL labs dn raws 0).map oprV))) ∧
  Lone G H w Bit (.mapIter (some Bg) clk seen last) ∧ clk ≤ last ∧ Lone G H w Bg (.map ms clk) ∧ H.next = nx + seen.size ∧ (∀ b, b < H0.next → H.m b = H0.m b) ∧
  VL G ((goesR raws 0).map fun q => .int .i64 q.1) (ms.toList.map (·.key)) ∧ VL G ((goesR raws 0).map fun q => .agg [.str q.2]) (ms.toList.map (·.val)) ∧
  (∀ (j : Nat) (q : Nat × List UInt8) (e : MapEntry), (goesR raws 0)[j]? = some q → ms.toList[j]? = some e → dn q.1 = seen.contains e.born) ∧ p < H.next ∧ lb < H.next ∧ r < H.next ∧ H0.next ≤ p ∧ H0.next ≤ lb ∧ H0.next ≤ r
 df : a.defers = []
 sz : a.tmps.size = N
 nd : seen.toList.Nodup
 sub : ∀ b ∈ seen.toList, ∃ e ∈ ms.toList, e.born = b
noncomputable def seqA : Code → Code
 | .seq a _ => a
 | _ => .skip
noncomputable def seqB : Code → Code
 | .seq _ b => b
 | _ => .skip
noncomputable def blkC : Code → Code
 | .block _ c => c
 | _ => .skip
noncomputable def lopC : Code → Code
 | .loop c => c
 | _ => .skip
noncomputable def regO : Code → Array Oper
 | .region _ o _ => o
 | _ => #[]
noncomputable def nthO (l : List Oper) (i : Nat) : Oper := l.getD i { dst := none, op := .move (.tmp 0), type := 0, pos := "", after := #[], guard := none }
noncomputable def ofC : Code := Tryz.f38.body.getD .skip
noncomputable def ofR0 : Code := seqA ofC
noncomputable def ofR1 : Code := seqA (seqB ofC)
noncomputable def ofR2 : Code := seqA (seqB (seqB ofC))
noncomputable def ofR3 : Code := seqA (seqB (seqB (seqB ofC)))
noncomputable def ofL : Code := seqA (seqB (seqB (seqB (seqB ofC))))
noncomputable def ofR4 : Code := seqA ofL
noncomputable def ofB : Code := lopC (blkC (seqB ofL))
noncomputable def ofR5 : Code := seqA ofB
noncomputable def ofR6 : Code := seqA (blkC (seqB (seqB ofB)))
noncomputable def ofR7 : Code := seqB (blkC (seqB (seqB ofB)))
noncomputable def ofR8 : Code := seqB (seqB (seqB (seqB (seqB ofC))))
theorem of_body : Tryz.f38.body = some (.seq ofR0 (.seq ofR1 (.seq ofR2 (.seq ofR3 (.seq (.seq ofR4 (.block 0 (.loop ofB))) ofR8))))) := rfl
theorem of_B : ofB = .seq ofR5 (.seq (.cond (.tmp 24) .skip (.exit 0)) (.block 1 (.seq ofR6 ofR7))) := rfl
theorem of_4 : ofR4 = .region 4 (regO ofR4) false := rfl
theorem of_5 : ofR5 = .region 5 (regO ofR5) false := rfl
theorem of_6 : ofR6 = .region 6 (regO ofR6) false := rfl
theorem of_4l : (regO ofR4).toList = (regO ofR4).toList.take 4 ++ [nthO (regO ofR4).toList 4] := rfl
theorem of_5l : (regO ofR5).toList = nthO (regO ofR5).toList 0 :: [nthO (regO ofR5).toList 1] := rfl
theorem of_6l : (regO ofR6).toList = nthO (regO ofR6).toList 0 :: (regO ofR6).toList.drop 1 := rfl
theorem of_r7 {σ : Sg} {H : DH} {p md lb gb r it k : Nat} {stmv topv : DV} {x : List UInt8} {labs : List (List UInt8 × Nat)} {cur : List Opr} (s3 : σ 3 = .ptr p 0) (s4 : σ 4 = .int .i64 k) (s5 : σ 5 = .ptr it 0) (hp : H.m p = some (.cells 101 [.int .i64 md, stmv, topv, .hs r 6 0 cur.length, .mp lb, .mp gb])) (hl : H.m lb = some (.map (labs.map labV))) (hr : H.m r = some (.row 57 (flat (cur.map oprV))))
  (hi : H.m it = some (.cells 105 [.str x])) (hk : k < cur.length) :
  Y cfg ofR7 σ H (fun σ' H' => σ' 3 = σ 3 ∧ σ' 22 = σ 22 ∧ H' = H.set r (.row 57 (flat ((cur.modify k fun o => { o with to := (toOf labs x).getD 0 }).map oprV)))) (fun _ _ _ => False) (fun _ _ _ => False) (fun _ _ => False) (.mk _) := by
 simp only [ofR7, ofB, ofL, ofC, Tryz.f38, seqA, seqB, blkC, lopC, Option.getD_some]
 have i0 : (k : Int) < cur.length := by omega
 have i1 : (0 : Int) ≤ k := by omega
 simp -dsimp (disch := first | omega | (apply DrawYes.mk; decide +kernel)) only [go_sem, s3, s4, s5, hp, hl, hr, hi, i0, i1]
 refine lk und_98 und_9 zero_3 hl rfl (find_lab labs) ?_
 have e : gotD (.int .i64 0) false ((toOf labs x).map fun (n : Nat) => DV.int .i64 (n : Int)) = .int .i64 ((toOf labs x).getD 0 : Nat) := by cases toOf labs x <;> rfl
 rw [e]
 simp -dsimp (disch := first | omega | (apply DrawYes.mk; decide +kernel)) only [go_sem, s3, s4, s5, hp, hl, hr, hi, i0, i1]
 refine ⟨by rw [flat_ops]; omega, ?_⟩
 rw [flat_set _ _ _ hk]
theorem of_r6 {σ : Sg} {H : DH} {k : Nat} {x : List UInt8} (s25 : σ 25 = .tup [.int .i64 k, .agg [.str x]]) :
  WO cfg (regO ofR6) ((regO ofR6).toList.drop 1) σ H (fun σ' H' => σ' 3 = σ 3 ∧ σ' 22 = σ 22 ∧ σ' 4 = .int .i64 k ∧ σ' 5 = .ptr H.next 0 ∧ H' = (H.new (.cells 105 [.str []])).set H.next (.cells 105 [.str x])) := by
 simp only [ofR6, ofB, ofL, ofC, Tryz.f38, seqA, seqB, blkC, lopC, Option.getD_some, regO, List.drop_succ_cons, List.drop_zero]
 simp -dsimp (disch := first | omega | (apply DrawYes.mk; decide +kernel)) only [go_sem, s25]
theorem of_r5 {σ : Sg} {H : DH} {vs : List DV} {t : DV} (s23 : σ 23 = .tup (t :: vs)) :
  WO cfg (regO ofR5) [nthO (regO ofR5).toList 1] σ H (fun σ' H' => σ' 3 = σ 3 ∧ σ' 22 = σ 22 ∧ σ' 24 = t ∧ H' = H) := by
 simp only [ofR5, ofB, ofL, ofC, Tryz.f38, seqA, seqB, blkC, lopC, Option.getD_some, regO, nthO, List.getD_cons_succ, List.getD_cons_zero]
 simp -dsimp (disch := first | omega | (apply DrawYes.mk; decide +kernel)) only [go_sem, s23]
 done
theorem of_r4 {σ : Sg} {H : DH} {p md lb gb : Nat} {stmv topv lv : DV} (s3 : σ 3 = .ptr p 0) (hp : H.m p = some (.cells 101 [.int .i64 md, stmv, topv, lv, .mp lb, .mp gb])) :
  WO cfg (regO ofR4) ((regO ofR4).toList.take 4) σ H (fun σ' H' => σ' 3 = .ptr p 0 ∧ σ' 21 = .mp gb ∧ H' = H) := by
 simp only [ofR4, ofL, ofC, Tryz.f38, seqA, seqB, blkC, lopC, Option.getD_some, regO, List.take_succ_cons, List.take_zero]
 simp -dsimp (disch := first | omega | (apply DrawYes.mk; decide +kernel)) only [go_sem, s3, hp]
 done
theorem of_r8 {σ : Sg} {H : DH} {p md lb gb : Nat} {stmv topv lv : DV} (s3 : σ 3 = .ptr p 0) (hp : H.m p = some (.cells 101 [.int .i64 md, stmv, topv, lv, .mp lb, .mp gb])) :
  Y cfg ofR8 σ H (fun _ _ => False) (fun _ _ _ => False) (fun _ _ _ => False) (fun σ' H' => σ' 2 = lv ∧ H' = H) (.mk _) := by
 simp only [ofR8, ofC, Tryz.f38, seqA, seqB, Option.getD_some]
 simp -dsimp (disch := first | omega | (apply DrawYes.mk; decide +kernel)) only [go_sem, s3, hp]
 done
theorem of_r0 {H : DH} {md : Nat} {stmv topv : DV} {R : List Stm} {top : List Nat} (hP : PrgV R top stmv topv) :
  Y cfg ofR0 (frame0 [.agg [.int .i64 md, stmv, topv]]) H (fun σ' H' => σ' 1 = .ptr H.next 0 ∧ H' = H.new (.cells 27 [.int .i64 md, stmv, topv])) (fun _ _ _ => False) (fun _ _ _ => False) (fun _ _ => False) (.mk _) := by
 simp only [ofR0, ofC, Tryz.f38, seqA, seqB, Option.getD_some]
 obtain ⟨a1, a2, a3⟩ := hP.two
 simp -dsimp (disch := first | omega | (apply DrawYes.mk; decide +kernel)) only [go_sem, a1, a2]
 done
theorem of_r1 {σ : Sg} {H : DH} {md q : Nat} {stmv topv : DV} {R : List Stm} {top : List Nat} (hP : PrgV R top stmv topv) (s1 : σ 1 = .ptr q 0) (hm : H.m q = some (.cells 27 [.int .i64 md, stmv, topv])) :
  Y cfg ofR1 σ H (fun σ' H' => σ' 1 = .ptr q 0 ∧ σ' 3 = .ptr (H.next + 2) 0 ∧ H' = ((H.new (.map [])).new (.map [])).new (.cells 101 [.int .i64 md, stmv, topv, .nils, .mp H.next, .mp (H.next + 1)])) (fun _ _ _ => False) (fun _ _ _ => False) (fun _ _ => False) (.mk _) := by
 simp only [ofR1, ofC, Tryz.f38, seqA, seqB, Option.getD_some]
 obtain ⟨a1, a2, a3⟩ := hP.two
 simp -dsimp (disch := first | omega | (apply DrawYes.mk; decide +kernel)) only [go_sem, a1, a2, s1, hm, mm_none]
 done
end Go.Proofs.YtcknfhhbijlobaaGreatDoor.D
namespace Go.Proofs.YtcknfhhbijlobaaGreatDoor.D
open Go
open Go.ChangeMaps (setBlock)
set_option linter.unusedVariables false
set_option linter.unusedSimpArgs false
set_option maxRecDepth 100000
theorem upd_same {σ : Sg} {d : Nat} {v : DV} : upd σ d v d = v := if_pos rfl
theorem upd_ne {σ : Sg} {d i : Nat} {v : DV} (h : i ≠ d) : upd σ d v i = σ i := if_neg h
theorem V_ptr0 {G : Ghost} {it B : Nat} {v : Value} (h : V G (.ptr it 0) v) (hρ : G.ρ it = some (B, 0)) : v = .pointer (some ⟨B, 0, none⟩) := by
 cases h with
 | ptr h1 => rw [hρ] at h1; cases h1; rfl
theorem r5_dst : ∀ (j : Nat) (p : Oper) t, (regO ofR5)[j]? = some p → p.dst = some t → t < 46 := fun j p t h1 h2 => (bnd_region (N := 46) (id := 5) (ops := regO ofR5) (b := false) (by rfl)).1 j p t h1 h2
theorem r5_dst2 : ∀ o ∈ [nthO (regO ofR5).toList 1], ∀ t, o.dst = some t → t < 46 := fun o ho => (bnd_region (N := 46) (id := 5) (ops := regO ofR5) (b := false) (by rfl)).2 o (by rw [of_5l]; exact List.mem_cons_of_mem _ ho)
theorem r6_dst : ∀ (j : Nat) (p : Oper) t, (regO ofR6)[j]? = some p → p.dst = some t → t < 46 := fun j p t h1 h2 => (bnd_region (N := 46) (id := 6) (ops := regO ofR6) (b := false) (by rfl)).1 j p t h1 h2
theorem r6_dst2 : ∀ o ∈ (regO ofR6).toList.drop 1, ∀ t, o.dst = some t → t < 46 := fun o ho => (bnd_region (N := 46) (id := 6) (ops := regO ofR6) (b := false) (by rfl)).2 o (List.mem_of_mem_drop ho)
theorem r4_dst : ∀ (j : Nat) (p : Oper) t, (regO ofR4)[j]? = some p → p.dst = some t → t < 46 := fun j p t h1 h2 => (bnd_region (N := 46) (id := 4) (ops := regO ofR4) (b := false) (by rfl)).1 j p t h1 h2
theorem r4_dst2 : ∀ o ∈ (regO ofR4).toList.take 4, ∀ t, o.dst = some t → t < 46 := fun o ho => (bnd_region (N := 46) (id := 4) (ops := regO ofR4) (b := false) (by rfl)).2 o (List.mem_of_mem_take ho)
theorem seen_push {seen : Array Nat} {b c : Nat} : (seen.push b).contains c = (c == b || seen.contains c) := by
 rw [Bool.eq_iff_iff]
 simp [Array.contains_iff_mem]
 exact Or.comm
theorem nodup_le : ∀ {l m : List Nat}, l.Nodup → (∀ x ∈ l, x ∈ m) → l.length ≤ m.length
 | [], _, _, _ => Nat.zero_le _
 | x :: l, m, h, hs => by
  have hx := hs x (by simp)
  rw [List.nodup_cons] at h
  have := nodup_le (m := m.erase x) h.2 fun y hy => (List.mem_erase_of_ne (by rintro rfl; exact h.1 hy)).2 (hs y (by simp [hy]))
  rw [List.length_erase_of_mem hx] at this
  have := List.length_pos_of_mem hx
  simp only [List.length_cons]
  omega
section
variable {H0 : DH} {G0 : Ghost} {w0 : World} {p md lb gb r it Bit Bg clk nx : Nat} {stmv topv : DV} {raws : List Raw} {labs : List (List UInt8 × Nat)} {ms : Array MapEntry}
theorem of_round (hborn : Born ms clk) (hBB : Bit ≠ Bg) (hw0 : w0.heap.size ≤ Bit) {Q : Exit → Act → World → Prop} {seen : Array Nat} {a : Act} {w : World}
  (h : LI H0 G0 w0 46 p md stmv topv lb gb r raws labs it Bit Bg clk nx ms seen a w)
  (hq : ∀ a w, LI H0 G0 w0 46 p md stmv topv lb gb r raws labs it Bit Bg clk nx ms seen a w → (∀ e ∈ ms.toList, seen.contains e.born = true) → Q (.exit 0) a w)
  (ih : ∀ b a w, LI H0 G0 w0 46 p md stmv topv lb gb r raws labs it Bit Bg clk nx ms (seen.push b) a w → lpWp cfg.P ofB Q a w) :
  ofB.wp cfg.P (Exit.then (lpWp cfg.P ofB Q) Q) a w := by
 obtain ⟨⟨G, H, σ, last, dn, st, hs, s3, s22, hit, hp, hl, hr, hB, hlast, hM, hnx, hold, hk, hv, hdn, lt1, lt2, lt3, lo1, lo2, lo3⟩, hdf, hsz, hnd, hsub⟩ := h
 rw [of_B]
 refine wp_seq ?_
 rw [of_5]
 refine wp_region_list ?_
 rw [of_5l]
 have e22 : a.eval (.tmp 22) = .pointer (some ⟨Bit, 0, none⟩) := by
  have := hs 22
  rw [s22] at this
  exact V_ptr0 this hit
 have hex : execOp a.eval (nthO (regO ofR5).toList 0) = (do let v ← Instr.next (a.eval (.tmp 22)) false 0; pure (Next.value v)) := rfl
 have hbs : ∀ x ∈ ms.toList, x.born < clk := hborn.2
 rcases run_next_at (P := cfg.P) w 0 Bit Bg clk last seen ms clk hB.at_ hM.at_ hbs hlast with ⟨h0, hrun⟩ | ⟨e, he, w1, hw1, hrun⟩
 ·
  have hall : ∀ e ∈ ms.toList, seen.contains e.born = true := by
   intro e he
   cases hc : seen.contains e.born with
   | true => rfl
   | false =>
    have hmem : e ∈ leftOf ms seen := by
     unfold leftOf
     rw [Array.mem_filter]
     exact ⟨by simpa using he, by rw [hc]; rfl⟩
    have := Array.size_pos_of_mem hmem
    omega
  refine wp_hand (v := .tuple #[.bool false]) (w' := w) rfl (by rw [hex, Sem.run_bind, e22, hrun]; rfl) ?_
  have hs1 : SlotsOk G (upd σ 23 (.tup [.bool false])) (a.put (some 23) (.tuple #[.bool false])) := put_ok (dst := some 23) (dv := .tup [.bool false]) hs (V.tup (vs := [.bool false]) rfl (VL.cons (.bool false) (.nil _)).2) fun t ht => by cases ht; rw [hsz]; decide
  obtain ⟨σ', H', ⟨q3, q22, q24, rfl⟩, hgo⟩ := ops_wp tab_ok ext_ok name_ok draws_ok (of_r5 (σ := upd σ 23 (.tup [.bool false])) (H := H) (t := .bool false) (vs := []) upd_same) (N := 46) r5_dst r5_dst2
  have := hgo (Exit.then ((Code.seq (.cond (.tmp 24) .skip (.exit 0)) (.block 1 (.seq ofR6 ofR7))).wp cfg.P (Exit.then (lpWp cfg.P ofB Q) Q)) (Exit.then (lpWp cfg.P ofB Q) Q)) [] G w (a.put (some 23) (.tuple #[.bool false])) st.rel hs1 (by rw [put_defers]; exact hdf) (by rw [put_size]; exact hsz) ?_
  ·exact this
  intro a' w' G' t1 t2 t3 t4
  refine wp_seq (wp_cond_false ?_ (wp_exit ?_))
  ·have := t1 24
   rw [q24] at this
   show a'.tmps.getD 24 undef = _
   generalize a'.tmps.getD 24 undef = u at this
   cases this; rfl
  ·refine hq a' w' ⟨⟨G', H', σ', last, dn, st.trans t4, t1, ?_, ?_, t4.le.ρ _ _ hit, hp, hl, hr, hB.step t4, hlast, hM.step t4, hnx, hold, hk.mono t4.le, hv.mono t4.le, hdn, lt1, lt2, lt3, lo1, lo2, lo3⟩, t2, t3, hnd, hsub⟩ hall
   ·rw [q3, upd_ne (by omega)]; exact s3
   ·rw [q22, upd_ne (by omega)]; exact s22
 ·
  have heL := he
  unfold leftOf at heL
  rw [Array.mem_toList_iff, Array.mem_filter] at heL
  obtain ⟨hem, hes⟩ := heL
  have hem' : e ∈ ms.toList := by simpa using hem
  have hes' : seen.contains e.born = false := by simpa using hes
  obtain ⟨j, hj⟩ := List.getElem?_of_mem hem'
  have hlen : (goesR raws 0).length = ms.toList.length := by have := hk.1; simpa using this
  have hjl : j < (goesR raws 0).length := by rw [hlen]; exact (List.getElem?_eq_some_iff.1 hj).1
  have hgj : (goesR raws 0)[j]? = some (goesR raws 0)[j] := List.getElem?_eq_getElem hjl
  generalize (goesR raws 0)[j] = q at hgj
  have hVk : V G (.int .i64 q.1) e.key := hk.2 j _ _ (by rw [List.getElem?_map, hgj]; rfl) (by rw [List.getElem?_map, hj]; rfl)
  have hVv : V G (.agg [.str q.2]) e.val := hv.2 j _ _ (by rw [List.getElem?_map, hgj]; rfl) (by rw [List.getElem?_map, hj]; rfl)
  have hqm : q ∈ goesR raws 0 := List.mem_of_getElem? hgj
  have hql : q.1 < raws.length := by have := (goesR_lt raws 0 q hqm).2; omega
  obtain ⟨st1, hB1, hM1⟩ : Step G0 H0 w0 G H w1 ∧ Lone G H w1 Bit (.mapIter (some Bg) clk seen last) ∧ Lone G H w1 Bg (.map ms clk) := by
   rcases hw1 with rfl | rfl
   ·exact ⟨st, hB, hM⟩
   ·exact ⟨st.trans (Step.drew st.rel), hB.drew, hM.drew⟩
  refine wp_hand (v := .tuple #[.bool true, e.key, e.val]) (w' := putBlk w1 Bit (.mapIter (some Bg) clk (seen.push e.born) clk)) rfl (by rw [hex, Sem.run_bind, e22, hrun]; rfl) ?_
  have st2 : Step G0 H0 w0 G H (putBlk w1 Bit (.mapIter (some Bg) clk (seen.push e.born) clk)) := st1.poke hw0 hB1.at_ (by simp) hB1.un
  have hB2 : Lone G H (putBlk w1 Bit (.mapIter (some Bg) clk (seen.push e.born) clk)) Bit (.mapIter (some Bg) clk (seen.push e.born) clk) := hB1.poked
  have hM2 : Lone G H (putBlk w1 Bit (.mapIter (some Bg) clk (seen.push e.born) clk)) Bg (.map ms clk) := hM1.poke fun h => hBB h.symm
  generalize putBlk w1 Bit (.mapIter (some Bg) clk (seen.push e.born) clk) = w2 at st2 hB2 hM2 ⊢
  have hs1 : SlotsOk G (upd σ 23 (.tup [.bool true, .int .i64 q.1, .agg [.str q.2]])) (a.put (some 23) (.tuple #[.bool true, e.key, e.val])) := put_ok (dst := some 23) (dv := .tup [.bool true, .int .i64 q.1, .agg [.str q.2]]) hs (V.tup (vs := [.bool true, e.key, e.val]) rfl (VL.cons (.bool true) (.cons hVk (.cons hVv (.nil _)))).2) fun t ht => by cases ht; rw [hsz]; decide
  obtain ⟨σ', H', ⟨q3, q22, q24, rfl⟩, hgo⟩ := ops_wp tab_ok ext_ok name_ok draws_ok (of_r5 (σ := upd σ 23 (.tup [.bool true, .int .i64 q.1, .agg [.str q.2]])) (H := H) (t := .bool true) (vs := [.int .i64 q.1, .agg [.str q.2]]) upd_same) (N := 46) r5_dst r5_dst2
  have := hgo (Exit.then ((Code.seq (.cond (.tmp 24) .skip (.exit 0)) (.block 1 (.seq ofR6 ofR7))).wp cfg.P (Exit.then (lpWp cfg.P ofB Q) Q)) (Exit.then (lpWp cfg.P ofB Q) Q)) [] G w2 (a.put (some 23) (.tuple #[.bool true, e.key, e.val])) st2.rel hs1 (by rw [put_defers]; exact hdf) (by rw [put_size]; exact hsz) ?_
  ·exact this
  intro a' w' G' t1 t2 t3 t4
  have c24 : a'.eval (.tmp 24) = .bool true := by
   have := t1 24
   rw [q24] at this
   show a'.tmps.getD 24 undef = _
   generalize a'.tmps.getD 24 undef = u at this
   cases this; rfl
  refine wp_seq (wp_cond_true c24 (wp_skip ?_))
  refine wp_block ?_
  refine wp_seq ?_
  rw [of_6]
  refine wp_region_list ?_
  rw [of_6l]
  have e22' : a'.eval (.tmp 22) = .pointer (some ⟨Bit, 0, none⟩) := by
   have := t1 22
   rw [q22, upd_ne (by omega), s22] at this
   exact V_ptr0 this (t4.le.ρ _ _ hit)
  have hex6 : execOp a'.eval (nthO (regO ofR6).toList 0) = (do let v ← Instr.entry (a'.eval (.tmp 22)); pure (Next.value v)) := rfl
  have hB3 := hB2.step t4
  have hM3 := hM2.step t4
  have hrun6 := run_entry_at (P := cfg.P) w' Bit Bg clk seen ms clk e hB3.at_ hM3.at_ hem' hborn.1
  refine wp_hand (v := .tuple #[e.key, e.val]) (w' := w') rfl (by rw [hex6, Sem.run_bind, e22', hrun6]; rfl) ?_
  have hs3 : SlotsOk G' (upd σ' 25 (.tup [.int .i64 q.1, .agg [.str q.2]])) (a'.put (some 25) (.tuple #[e.key, e.val])) := put_ok (dst := some 25) (dv := .tup [.int .i64 q.1, .agg [.str q.2]]) t1 (V.tup (vs := [e.key, e.val]) rfl (VL.cons (hVk.mono t4.le) (.cons (hVv.mono t4.le) (.nil _))).2) fun t ht => by cases ht; rw [t3]; decide
  obtain ⟨σ6, H6, ⟨x3, x22, x4, x5, rfl⟩, hgo6⟩ := ops_wp tab_ok ext_ok name_ok draws_ok (of_r6 (σ := upd σ' 25 (.tup [.int .i64 q.1, .agg [.str q.2]])) (H := H') (k := q.1) (x := q.2) upd_same) (N := 46) r6_dst r6_dst2
  have := hgo6 (Exit.then (ofR7.wp cfg.P (Exit.inBlock 1 (Exit.then (lpWp cfg.P ofB Q) Q))) (Exit.inBlock 1 (Exit.then (lpWp cfg.P ofB Q) Q))) [] G' w' (a'.put (some 25) (.tuple #[e.key, e.val])) t4.rel hs3 (by rw [put_defers]; exact t2) (by rw [put_size]; exact t3) ?_
  ·rw [List.append_nil] at this; exact this
  intro a6 w6 G6 u1 u2 u3 u4
  have hcl : (curL labs dn raws 0).length = raws.length := curL_len raws 0
  have np : p ≠ H'.next := by omega
  have nl : lb ≠ H'.next := by omega
  have nr : r ≠ H'.next := by omega
  have npr : p ≠ r := by rintro rfl; rw [hp] at hr; cases hr
  have nlr : lb ≠ r := by rintro rfl; rw [hl] at hr; cases hr
  obtain ⟨σ7, H7, ⟨y3, y22, rfl⟩, hw7⟩ := code_n (N := 46) (of_r7 (σ := σ6) (H := (H'.new (.cells 105 [.str []])).set H'.next (.cells 105 [.str q.2])) (it := H'.next) (k := q.1) (x := q.2) (p := p) (md := md) (lb := lb) (gb := gb) (r := r) (stmv := stmv) (topv := topv) (labs := labs) (cur := curL labs dn raws 0)
   (by rw [x3, upd_ne (by omega), q3, upd_ne (by omega)]; exact s3) x4 x5 (by rw [set_ne np, new_old lt1, hcl]; exact hp) (by rw [set_ne nl, new_old lt2]; exact hl) (by rw [set_ne nr, new_old lt3]; exact hr) set_at (by rw [hcl]; exact hql)) (by rfl)
  refine wp_mono (hw7 G6 w6 a6 u4.rel u1 u2 u3) fun ex a7 w7 hpost => ?_
  obtain ⟨rfl, G7, k1, k2, k3, k4⟩ := hpost
  have stA := (st2.trans t4).trans (u4.trans k4)
  have leA := t4.le.trans (u4.le.trans k4.le)
  refine ih e.born a7 w7 ⟨⟨G7, _, σ7, clk, fun i => i == q.1 || dn i, stA, k1, ?_, ?_, leA.ρ _ _ hit, ?_, ?_, ?_, (hB3.step u4).step k4, Nat.le_refl _, (hM3.step u4).step k4, ?_, ?_, hk.mono leA, hv.mono leA, ?_, ?_, ?_, ?_, lo1, lo2, lo3⟩, k2, k3, ?_, ?_⟩
  ·rw [y3, x3, upd_ne (by omega), q3, upd_ne (by omega)]; exact s3
  ·rw [y22, x22, upd_ne (by omega), q22, upd_ne (by omega)]; exact s22
  ·rw [set_ne npr, set_ne np, new_old lt1]; exact hp
  ·rw [set_ne nlr, set_ne nl, new_old lt2]; exact hl
  ·rw [set_at, curL_set (x := q.2) raws 0 (by exact hqm)]; rfl
  ·simp only [set_next, new_next, Array.size_push]; omega
  ·intro b hb
   rw [set_ne (by omega), set_ne (by omega), new_old (by omega)]
   exact hold b hb
  ·intro j' q' e' h1 h2
   rw [seen_push]
   by_cases hjj : j' = j
   ·subst hjj
    rw [hgj] at h1; cases h1
    rw [hj] at h2; cases h2
    simp
   ·have n1 := goes_ne h1 hgj hjj
    have n2 : e'.born ≠ e.born := by
     intro hee
     have hnb := hborn.1
     have g1 : (ms.toList.map (·.born))[j']? = some e'.born := by rw [List.getElem?_map, h2]; rfl
     have g2 : (ms.toList.map (·.born))[j]? = some e.born := by rw [List.getElem?_map, hj]; rfl
     obtain ⟨l1, z1⟩ := List.getElem?_eq_some_iff.1 g1
     obtain ⟨l2, z2⟩ := List.getElem?_eq_some_iff.1 g2
     have hpw := List.pairwise_iff_getElem.1 hnb
     rcases Nat.lt_or_gt_of_ne hjj with hlt | hlt
     ·exact hpw j' j l1 l2 hlt (by rw [z1, z2, hee])
     ·exact hpw j j' l2 l1 hlt (by rw [z1, z2, hee])
    have b1 : (q'.1 == q.1) = false := by simp [n1]
    have b2 : (e'.born == e.born) = false := by simp [n2]
    show (q'.1 == q.1 || dn q'.1) = _
    rw [b1, b2, Bool.false_or, Bool.false_or]
    exact hdn j' q' e' h1 h2
  ·simp only [set_next, new_next]; omega
  ·simp only [set_next, new_next]; omega
  ·simp only [set_next, new_next]; omega
  ·rw [Array.toList_push, List.nodup_append]
   refine ⟨hnd, by simp, ?_⟩
   intro b hb c hc
   simp at hc
   subst hc
   rintro rfl
   have : seen.contains e.born = true := by simpa [Array.contains_iff_mem] using hb
   rw [this] at hes'; cases hes'
  ·intro b hb
   rw [Array.toList_push, List.mem_append] at hb
   rcases hb with hb | hb
   ·exact hsub b hb
   ·simp at hb; subst hb; exact ⟨e, hem', rfl⟩
theorem of_loop (hborn : Born ms clk) (hBB : Bit ≠ Bg) (hw0 : w0.heap.size ≤ Bit) {Q : Exit → Act → World → Prop}
  (hq : ∀ seen a w, LI H0 G0 w0 46 p md stmv topv lb gb r raws labs it Bit Bg clk nx ms seen a w → (∀ e ∈ ms.toList, seen.contains e.born = true) → Q (.exit 0) a w) :
  ∀ (n : Nat) (seen : Array Nat) (a : Act) (w : World), ms.size - seen.size = n → LI H0 G0 w0 46 p md stmv topv lb gb r raws labs it Bit Bg clk nx ms seen a w → lpWp cfg.P ofB Q a w := by
 intro n
 induction n using Nat.strongRecOn with
 | _ n ih =>
  intro seen a w hn h
  refine lp_ok (of_round hborn hBB hw0 h (hq seen) fun b a' w' h' => ih (ms.size - (seen.push b).size) ?_ (seen.push b) a' w' rfl h')
  have hsub : ∀ x ∈ (seen.push b).toList, x ∈ ms.toList.map (·.born) := fun x hx => by
   obtain ⟨e, he, rfl⟩ := h'.sub x hx
   exact List.mem_map.2 ⟨e, he, rfl⟩
  have hle := nodup_le h'.nd hsub
  simp at hle
  simp only [Array.size_push]
  omega
end
end Go.Proofs.YtcknfhhbijlobaaGreatDoor.D
namespace Go.Proofs.YtcknfhhbijlobaaGreatDoor.D
open Go
set_option linter.unusedVariables false
set_option linter.unusedSimpArgs false
set_option maxRecDepth 100000
structure OfC (R : List Stm) (top : List Nat) : Prop where
 fin : ∀ s ∈ R, fineS s ∧ s.s.length < 1000000 ∧ s.l.length < 1000000 ∧ s.m.length < 1000000
 own : ∀ (i : Nat) (s : Stm), R[i]? = some s → ∀ n ∈ s.l ++ s.m, n < i
 tp : ∀ c ∈ top, c < R.length
 tl : top.length < 1000000
 rl : (rawL R R.length top 0).length + 1 < 1000000
 nd : ((labL R R.length top 0).map (·.1)).Nodup
theorem of_r2 {σ : Sg} {H : DH} {md q p lb gb lo : Nat} {stmv topv : DV} {R : List Stm} {top : List Nat} (hP : PrgV R top stmv topv) (hC : OfC R top) (s1 : σ 1 = .ptr q 0) (s3 : σ 3 = .ptr p 0) (hm : H.m q = some (.cells 27 [.int .i64 md, stmv, topv])) (hM : Mk lo H p md stmv topv lb gb [] [] []) :
  Y cfg ofR2 σ H (fun σ' H' => σ' 3 = .ptr p 0 ∧ Adds lo H p md stmv topv lb gb [] [] [] (rawL R R.length top 0) (labL R R.length top 0) H') (fun _ _ _ => False) (fun _ _ _ => False) (fun _ _ => False) (.mk _) := by
 simp only [ofR2, ofC, Tryz.f38, seqA, seqB, Option.getD_some]
 simp -dsimp (disch := first | omega | (apply DrawYes.mk; decide +kernel)) only [go_sem, s1, s3, hm]
 refine call (walk_ok hC.fin hC.own R.length hM hP.2 hC.tl (fun c hc => ⟨hC.tp c hc, hC.tp c hc⟩) hP.1 ⟨by have := hC.rl; simp; omega, by simpa using hC.nd, by simp⟩) ?_
 intro v H' hA
 simp -dsimp (disch := first | omega | (apply DrawYes.mk; decide +kernel)) only [go_sem, s3]
 exact hA
theorem of_r3 {σ : Sg} {H : DH} {md p lb gb lo : Nat} {stmv topv : DV} {ops : List Opr} {les : List (List UInt8 × Nat)} {ges : List (Nat × List UInt8)} (s3 : σ 3 = .ptr p 0) (hM : Mk lo H p md stmv topv lb gb ops les ges) (hl : ops.length < 1000000) :
  Y cfg ofR3 σ H (fun σ' H' => σ' 3 = .ptr p 0 ∧ Mk lo H' p md stmv topv lb gb (ops ++ [endO]) les ges ∧ Fram lo p H H') (fun _ _ _ => False) (fun _ _ _ => False) (fun _ _ => False) (.mk _) := by
 simp only [ofR3, ofC, Tryz.f38, seqA, seqB, Option.getD_some]
 simp -dsimp (disch := first | omega | (apply DrawYes.mk; decide +kernel)) only [go_sem, s3]
 refine call (mput_ok (o := endO) hM hl) ?_
 rintro _ H' ⟨rfl, hM', hF'⟩
 simp -dsimp (disch := first | omega | (apply DrawYes.mk; decide +kernel)) only [go_sem, s3]
 exact ⟨hM', hF'⟩
theorem wp_seq_n {N : Nat} {c X : Code} {G : Ghost} {H H' : DH} {w : World} {a : Act} {σ' : Nat → DV} {Q : Exit → Act → World → Prop} (h : c.wp cfg.P (Post G H w N .norm σ' H') a w)
  (k : ∀ a' w' G', SlotsOk G' σ' a' → a'.defers = [] → a'.tmps.size = N → Step G H w G' H' w' → X.wp cfg.P Q a' w') : (Code.seq c X).wp cfg.P Q a w :=
 wp_seq (wp_mono h fun e a' w' hp => by obtain ⟨rfl, G', h1, h2, h3, h4⟩ := hp; exact k a' w' G' h1 h2 h3 h4)
theorem of_pre {H : DH} {md : Nat} {stmv topv : DV} {R : List Stm} {top : List Nat} (hP : PrgV R top stmv topv) (hC : OfC R top) : ∃ σ4 H4 p lb gb, σ4 3 = .ptr p 0 ∧ Mk H.next H4 p md stmv topv lb gb ((rawL R R.length top 0).map (·.o) ++ [endO]) (labL R R.length top 0) (goesR (rawL R R.length top 0) 0) ∧ (∀ b, b < H.next → H4.m b = H.m b) ∧ H.next ≤ H4.next ∧
  ∀ (X : Code) (Q : Exit → Act → World → Prop) G w a, Rel G H w → SlotsOk G (frame0 [.agg [.int .i64 md, stmv, topv]]) a → a.defers = [] → a.tmps.size = 46 →
   (∀ a' w' G', SlotsOk G' σ4 a' → a'.defers = [] → a'.tmps.size = 46 → Step G H w G' H4 w' → X.wp cfg.P Q a' w') → (Code.seq ofR0 (.seq ofR1 (.seq ofR2 (.seq ofR3 X)))).wp cfg.P Q a w := by
 obtain ⟨σ1, H1, ⟨s1, rfl⟩, w1⟩ := code_n (N := 46) (of_r0 (H := H) (md := md) hP) (by rfl)
 obtain ⟨σ2, H2, ⟨s21, s23, rfl⟩, w2⟩ := code_n (N := 46) (of_r1 hP s1 (new_at rfl)) (by rfl)
 have hM : Mk H.next ((((H.new (.cells 27 [.int .i64 md, stmv, topv])).new (.map [])).new (.map [])).new (.cells 101 [.int .i64 md, stmv, topv, .nils, .mp (H.new (.cells 27 [.int .i64 md, stmv, topv])).next, .mp ((H.new (.cells 27 [.int .i64 md, stmv, topv])).next + 1)])) ((H.new (.cells 27 [.int .i64 md, stmv, topv])).next + 2) md stmv topv (H.new (.cells 27 [.int .i64 md, stmv, topv])).next ((H.new (.cells 27 [.int .i64 md, stmv, topv])).next + 1) [] [] [] := by
  refine ⟨⟨.nils, new_at rfl, .inl ⟨rfl, rfl⟩⟩, ?_, ?_, by omega, by simp only [new_next]; omega⟩
  ·rw [new_old (by simp only [new_next]; omega), new_old (by simp only [new_next]; omega), new_at rfl]; rfl
  ·rw [new_old (by simp only [new_next]; omega), new_at (by simp only [new_next])]; rfl
 have hold : ∀ b, b < H.next → ((((H.new (.cells 27 [.int .i64 md, stmv, topv])).new (.map [])).new (.map [])).new (.cells 101 [.int .i64 md, stmv, topv, .nils, .mp (H.new (.cells 27 [.int .i64 md, stmv, topv])).next, .mp ((H.new (.cells 27 [.int .i64 md, stmv, topv])).next + 1)])).m b = H.m b := fun b hb => by
  rw [new_old (by simp only [new_next]; omega), new_old (by simp only [new_next]; omega), new_old (by simp only [new_next]; omega), new_old hb]
 have hq : ((((H.new (.cells 27 [.int .i64 md, stmv, topv])).new (.map [])).new (.map [])).new (.cells 101 [.int .i64 md, stmv, topv, .nils, .mp (H.new (.cells 27 [.int .i64 md, stmv, topv])).next, .mp ((H.new (.cells 27 [.int .i64 md, stmv, topv])).next + 1)])).m H.next = some (.cells 27 [.int .i64 md, stmv, topv]) := by
  rw [new_old (by simp only [new_next]; omega), new_old (by simp only [new_next]; omega), new_old (by simp only [new_next]; omega), new_at rfl]
 have hnx : H.next + 4 = ((((H.new (.cells 27 [.int .i64 md, stmv, topv])).new (.map [])).new (.map [])).new (.cells 101 [.int .i64 md, stmv, topv, .nils, .mp (H.new (.cells 27 [.int .i64 md, stmv, topv])).next, .mp ((H.new (.cells 27 [.int .i64 md, stmv, topv])).next + 1)])).next := rfl
 obtain ⟨σ3, H3, ⟨s33, hA⟩, w3⟩ := code_n (N := 46) (of_r2 hP hC s21 s23 hq hM) (by rfl)
 obtain ⟨σ4, H4, ⟨s43, hM4, hF4⟩, w4⟩ := code_n (N := 46) (of_r3 s33 hA.st (by have := hC.rl; simp; omega)) (by rfl)
 refine ⟨σ4, H4, _, _, _, s43, by simpa using hM4, fun b hb => ?_, ?_, ?_⟩
 ·rw [hF4.old b hb, hA.fr.old b hb, hold b hb]
 ·have := hF4.le; have := hA.fr.le; omega
 ·intro X Q G w a r hs hd hz k
  refine wp_seq_n (w1 G w a r hs hd hz) fun a1 x1 G1 p1 p2 p3 p4 => ?_
  refine wp_seq_n (w2 G1 x1 a1 p4.rel p1 p2 p3) fun a2 x2 G2 q1 q2 q3 q4 => ?_
  refine wp_seq_n (w3 G2 x2 a2 q4.rel q1 q2 q3) fun a3 x3 G3 r1 r2 r3 r4 => ?_
  refine wp_seq_n (w4 G3 x3 a3 r4.rel r1 r2 r3) fun a4 x4 G4 t1 t2 t3 t4 => ?_
  exact k a4 x4 G4 t1 t2 t3 (((p4.trans q4).trans r4).trans t4)
theorem results_2 (tmps : Array Value) (w : World) : (results Tryz.f38 tmps).run cfg.P w = .ok (tmps.getD 2 undef) w := by
 have : (Tryz.f38).results = #[.tmp 2] := rfl
 unfold results
 rw [this]
 simp
theorem V_sl0 {G : Ghost} {ops : List Opr} {B s cap : Nat} {vs : List Value} (hv : VL G (flat (ops.map oprV)) vs) (hi : ∀ (i : Nat) (v : Value), vs[i]? = some v → G.im B (s + i) = some v) (hc : ops.length ≤ cap) :
  V G (.sl 0 6 0 (ops.map oprV)) (.slice (some ⟨B, s, none⟩) ops.length cap) := by
 refine V.sl (vs := vs) (by decide) (fun e he => ?_) ?_ hv.1 hi hv.2 (by simp) hc (.inr (.inl rfl))
 ·obtain ⟨o, _, rfl⟩ := List.mem_map.1 he; rfl
 ·induction ops with
  | nil => rfl
  | cons o r ih =>
   have : (flat (r.map oprV)).all DV.one = true := by
    clear ih hv hi hc
    induction r with
    | nil => rfl
    | cons o r ih => rw [List.map_cons, flat, List.all_append, ih]; rfl
   rw [List.map_cons, flat, List.all_append, this]; rfl
theorem of_good {H : DH} {md : Nat} {stmv topv : DV} {R : List Stm} {top : List Nat} (hP : PrgV R top stmv topv) (hC : OfC R top) :
  ∃ r : DV × DH, ofQ [.agg [.int .i64 md, stmv, topv]] r.1 ∧ Ext H r.2 ∧ ∀ G w vs, Rel G H w → VL G [.agg [.int .i64 md, stmv, topv]] vs → Good cfg.P G H w r.2 r.1 ((callFunc 38 vs.toArray).run cfg.P w) := by
 obtain ⟨σ4, H4, p, lb, gb, s43, hM, hold, hle, hgo⟩ := of_pre (H := H) (md := md) hP hC
 obtain ⟨⟨lv, hob, hrow⟩, hlm, hgm, hne, ⟨t1, t2, t3, t4, t5, t6⟩⟩ := hM
 generalize hraws : rawL R R.length top 0 ++ [⟨endO, none⟩] = raws
 have ho : (rawL R R.length top 0).map (·.o) ++ [endO] = raws.map (·.o) := by rw [← hraws]; simp
 have hg : goesR (rawL R R.length top 0) 0 = goesR raws 0 := by rw [← hraws, goesR_app]; simp [goesR]
 have hfix : opsP R top = raws.map (fixR (labL R R.length top 0)) := by rw [← hraws]; simp [opsP, fixR]
 rw [ho] at hrow
 rw [hg] at hgm
 generalize labL R R.length top 0 = labs at *
 have hpos : 0 < raws.length := by rw [← hraws]; simp
 rcases hrow with ⟨_, h0⟩ | ⟨r, rfl, hrm, hr1, hr2⟩
 ·rw [List.map_eq_nil_iff] at h0; rw [h0] at hpos; simp at hpos
 refine ⟨(.sl 0 6 0 ((opsP R top).map oprV), ⟨H4.next + 1 + (goesR raws 0).length, fun i => if i < H.next then H.m i else none⟩), ⟨R, top, md, stmv, topv, rfl, hP, rfl⟩, ⟨by show H.next ≤ H4.next + 1 + _; omega, fun b hb => if_pos hb⟩, ?_⟩
 intro G w vs hr hvs
 rw [callFunc_enter name_ok Tryz.func38 of_body]
 show Calls cfg.P 38 vs.toArray w _
 have hfr : SlotsOk G (frame0 [.agg [.int .i64 md, stmv, topv]]) { tmps := vs.toArray ++ Array.replicate (46 - vs.toArray.size) undef, defers := [] } := frame_ok hvs 46
 have hvl : vs.length = 1 := by have := hvs.1; simpa using this.symm
 refine calls_of_wp Tryz.func38 of_body ?_
 refine hgo _ _ G w _ hr hfr rfl (by simp; omega) fun a4 w4 G4 u1 u2 u3 st4 => ?_
 refine wp_seq (wp_seq ?_)
 rw [of_4]
 refine wp_region_list ?_
 rw [of_4l]
 obtain ⟨σ5, H5, ⟨q3, q21, rfl⟩, hgo4⟩ := ops_wp tab_ok ext_ok name_ok draws_ok (of_r4 (σ := σ4) (H := H4) s43 hob) (N := 46) r4_dst r4_dst2
 refine hgo4 _ _ G4 w4 a4 st4.rel u1 u2 u3 fun a5 w5 G5 v1 v2 v3 st5 => ?_
 have stA := st4.trans st5
 have h21 := v1 21
 rw [q21] at h21
 have e21 : a5.eval (.tmp 21) = a5.tmps.getD 21 undef := rfl
 generalize a5.tmps.getD 21 undef = mv at h21 e21
 cases h21 with
 | mp hρ =>
  rename_i Bg sg
  obtain ⟨rfl, ⟨ms, clk, g1, g2, g3, hborn⟩, g4⟩ := stA.rel.maps _ _ hgm _ _ hρ
  have hex : execOp a5.eval (nthO (regO ofR4).toList 4) = (do let v ← Instr.range 99 (a5.eval (.tmp 21)); pure (Next.value v)) := rfl
  have hrun : (Instr.range 99 (.map (some Bg))).run cfg.P w5 = .ok (.pointer (some ⟨w5.heap.size, 0, none⟩)) (w5.alloc (.mapIter (some Bg) clk #[] clk)) := by
   have hgo : (getObj Bg).run cfg.P w5 = .ok (.map ms clk) w5 := by simp [getObj, Sem.run, g1]
   have hu : cfg.P.underlying 99 = some (.map 3 105) := tab_ok.und _ _ und_99
   unfold Instr.range
   simp only [Sem.run_bind, run_underlying hu, Result.andThen_ok, hgo]
   simp
  refine wp_hand (v := .pointer (some ⟨w5.heap.size, 0, none⟩)) (w' := w5.alloc (.mapIter (some Bg) clk #[] clk)) rfl (by rw [hex, Sem.run_bind, e21, hrun]; rfl) ?_
  let Hk : DH := { H5 with m := fun i => if i = gb then none else H5.m i }
  have hsub : ∀ b o, Hk.m b = some o → H5.m b = some o := fun b o h => by
   simp only [Hk] at h
   split at h
   ·cases h
   ·exact h
  have stB : Step G H w G5 Hk w5 := stA.sub (Nat.le_refl _) hsub
  have hB0 : w.heap.size ≤ w5.heap.size := stA.size
  have stC : Step G H w G5 Hk (w5.alloc (.mapIter (some Bg) clk #[] clk)) := stB.trans (Step.alloc stB.rel _)
  have hlt : Bg < w5.heap.size := (Array.getElem?_eq_some_iff.1 g1).1
  have lM : Lone G5 Hk (w5.alloc (.mapIter (some Bg) clk #[] clk)) Bg (.map ms clk) := by
   refine ⟨by rw [heap_alloc_old _ _ hlt]; exact g1, fun b h => ?_⟩
   have e := stA.rel.inj b gb Bg (own_sub hsub h) (by simp [ownR, hgm, hρ])
   subst e
   simp [ownR, Hk] at h
  have lB : Lone G5 Hk (w5.alloc (.mapIter (some Bg) clk #[] clk)) w5.heap.size (.mapIter (some Bg) clk #[] clk) := by
   refine ⟨heap_alloc_new _ _, fun b h => ?_⟩
   have := stB.rel.own_lt h
   omega
  obtain ⟨stD, leD⟩ := stC.nick w5.heap.size
  have lM' := lM.nick (B' := w5.heap.size) stC.rel
  have lB' := lB.nick (B' := w5.heap.size) stC.rel
  have hgb : ∀ {b : Nat}, b ≠ gb → Hk.m b = H5.m b := fun h => if_neg h
  have nlr : p ≠ gb := by rintro rfl; rw [hob] at hgm; cases hgm
  have nrr : r ≠ gb := by rintro rfl; rw [hrm] at hgm; cases hgm
  rw [List.length_map] at hob
  have hput : SlotsOk (G5.give Hk.next w5.heap.size) (upd σ5 22 (.ptr H5.next 0)) (a5.put (some 22) (.pointer (some ⟨w5.heap.size, 0, none⟩))) := put_ok (dst := some 22) (dv := .ptr H5.next 0) (v1.mono leD) (V.ptr (s := 0) (by simp [Ghost.give, Hk])) fun t ht => by cases ht; rw [v3]; decide
  have hLI : LI H G w 46 p md stmv topv lb gb r raws labs H5.next w5.heap.size Bg clk (H5.next + 1) ms #[] (a5.put (some 22) (.pointer (some ⟨w5.heap.size, 0, none⟩))) (w5.alloc (.mapIter (some Bg) clk #[] clk)) := by
   refine ⟨⟨_, _, _, clk, fun _ => false, stD, hput, ?_, upd_same, by simp [Ghost.give, Hk], ?_, ?_, ?_, lB', Nat.le_refl _, lM', rfl, ?_, ?_, ?_, ?_, ?_, ?_, ?_, t1, t3, hr1⟩, by rw [put_defers]; exact v2, by rw [put_size]; exact v3, by simp, by simp⟩
   ·rw [upd_ne (by omega)]; exact q3
   ·show Hk.m p = _; rw [hgb nlr]; exact hob
   ·show Hk.m lb = _; rw [hgb hne]; exact hlm
   ·show Hk.m r = _; rw [hgb nrr, hrm, curL_none]
   ·intro b hb; show Hk.m b = _; rw [hgb (by omega)]; exact hold b hb
   ·have := g2.mono leD; rw [List.map_map] at this; exact this
   ·have := g3.mono leD; rw [List.map_map] at this; exact this
   ·intro j q e _ _; simp
   ·show p < H5.next + 1; omega
   ·show lb < H5.next + 1; omega
   ·show r < H5.next + 1; omega
  refine wp_block ?_
  refine wp_loop_lp (of_loop hborn (by omega) hB0 ?_ ms.size #[] _ _ (by simp) hLI)
  intro seen a w' hL hall
  show ofR8.wp cfg.P _ a w'
  obtain ⟨⟨G6, H6, σ6, last, dn, st6, hs6, s63, s622, hit, hp6, hl6, hr6, hB6, hlast, hM6, hnx, hold6, hk6, hv6, hdn, lt1, lt2, lt3, lo1, lo2, lo3⟩, hdf, hsz, hnd, hsb⟩ := hL
  have hlen : (goesR raws 0).length = ms.toList.length := by have := hk6.1; simpa using this
  have hcur : curL labs dn raws 0 = raws.map (fixR labs) := curL_all raws 0 fun q hq => by
   obtain ⟨j, hj⟩ := List.getElem?_of_mem hq
   have hjl : j < ms.toList.length := by rw [← hlen]; exact (List.getElem?_eq_some_iff.1 hj).1
   have hej := List.getElem?_eq_getElem hjl
   rw [hdn j q _ hj hej]
   exact hall _ (List.getElem_mem _)
  have hss : seen.size = (goesR raws 0).length := by
   have h1 := nodup_le (m := ms.toList.map (·.born)) hnd fun x hx => by
    obtain ⟨e, he, rfl⟩ := hsb x hx
    exact List.mem_map.2 ⟨e, he, rfl⟩
   have h2 := nodup_le (m := seen.toList) hborn.1 fun x hx => by
    obtain ⟨e, he, rfl⟩ := List.mem_map.1 hx
    have := hall e he
    simpa [Array.contains_iff_mem] using this
   rw [List.length_map] at h1 h2
   rw [hlen]
   simp at h1 h2 ⊢
   omega
  rw [hcur, ← hfix] at hr6
  have hy := of_r8 s63 hp6
  unfold Y at hy
  rw [W_lite] at hy
  obtain ⟨o, σ7, H7, hkk, hw8⟩ := code_wp tab_ok ext_ok name_ok draws_ok hy (N := 46) (by rfl)
  cases o with
  | ret =>
   obtain ⟨q2, rfl⟩ := hkk
   refine wp_mono (hw8 G6 w' a st6.rel hs6 hdf hsz) fun e a7 w7 hpost => ?_
   obtain ⟨rfl, G7, k1, k2, k3, k4⟩ := hpost
   have st7 := st6.trans k4
   have hv2 := k1 2
   rw [q2] at hv2
   have hres := results_2 a7.tmps w7
   generalize a7.tmps.getD 2 undef = res at hv2 hres
   cases hv2 with
   | hs hρr hcap hpl =>
    rename_i B s o cap
    have hlen2 : (opsP R top).length = raws.length := by rw [hfix, List.length_map]
    rcases hpl with h0 | ⟨rfl, _⟩
    ·omega
    obtain ⟨G8, vs8, st8, hv8, hi8⟩ := st7.last hold6 (by omega) lo3 hr6 hρr
    refine ⟨k2, _, hres, _, G8, rfl, ?_, ?_⟩
    ·rw [← hlen2] at hcap ⊢
     exact V_sl0 hv8 hi8 hcap
    ·have e : H7.next = H5.next + 1 + (goesR raws 0).length := by rw [hnx, hss]
     rw [e] at st8
     exact st8
  | _ => exact hkk.elim
theorem ints_inj {l l' : List Nat} {v : DV} (h : IntsV l v) (h' : IntsV l' v) : l = l' := by
 have key : ∀ {a b : List Nat}, a.map intV = b.map intV → a = b := by
  intro a
  induction a with
  | nil => intro b e; cases b with | nil => rfl | cons y b => simp at e
  | cons x a ih =>
   intro b e
   cases b with
   | nil => simp at e
   | cons y b =>
    simp only [List.map_cons, List.cons.injEq, intV, DV.int.injEq, true_and] at e
    rw [ih e.2, show x = y by omega]
 rcases h with ⟨rfl, rfl⟩ | ⟨id, off, rfl⟩
 ·rcases h' with ⟨_, h⟩ | ⟨_, _, h⟩
  ·exact h.symm
  ·cases h
 ·rcases h' with ⟨h, _⟩ | ⟨_, _, h⟩
  ·cases h
  ·simp only [DV.sl.injEq] at h; exact key h.2.2.2
theorem stm_inj {s s' : Stm} {d : DV} (h : StmV s d) (h' : StmV s' d) : s = s' := by
 obtain ⟨vl, vm, rfl, h1, h2⟩ := h
 obtain ⟨vl', vm', e, h3, h4⟩ := h'
 simp only [DV.agg.injEq, List.cons.injEq, DV.int.injEq, DV.str.injEq, true_and, and_true] at e
 obtain ⟨e1, e2, e3, e4, e5, e6, rfl, rfl⟩ := e
 have l1 := ints_inj h1 h3
 have l2 := ints_inj h2 h4
 cases s; cases s'
 simp only [Stm.mk.injEq] at *
 exact ⟨by omega, e2, e3, e4, by omega, by omega, l1, l2⟩
theorem all_inj : ∀ {R R' : List Stm} {es : List DV}, All2 StmV R es → All2 StmV R' es → R = R'
 | _, _, _, .nil, .nil => rfl
 | _, _, _, .cons h t, .cons h' t' => by rw [stm_inj h h', all_inj t t']
theorem prg_inj {R R' : List Stm} {top top' : List Nat} {stmv topv : DV} (h : PrgV R top stmv topv) (h' : PrgV R' top' stmv topv) : R = R' ∧ top = top' := by
 obtain ⟨⟨es, he, ha⟩, ht⟩ := h
 obtain ⟨⟨es', he', ha'⟩, ht'⟩ := h'
 refine ⟨?_, ints_inj ht ht'⟩
 have : es = es' := by
  rcases he with ⟨rfl, rfl⟩ | ⟨id, off, rfl⟩
  ·rcases he' with ⟨_, h⟩ | ⟨_, _, h⟩
   ·exact h.symm
   ·cases h
  ·rcases he' with ⟨h, _⟩ | ⟨_, _, h⟩
   ·cases h
   ·simp only [DV.sl.injEq] at h; exact h.2.2.2
 subst this
 exact all_inj ha ha'
theorem of_ok {H : DH} {md : Nat} {stmv topv : DV} {R : List Stm} {top : List Nat} (hP : PrgV R top stmv topv) (hC : OfC R top) :
  WC cfg 38 [.agg [.int .i64 md, stmv, topv]] H fun v H' => v = .sl 0 6 0 ((opsP R top).map oprV) ∧ Ext H H' := by
 have hx : cfg.ext 38 = some (pick Tryz.prog 38 ofQ) := by kernel_rfl
 refine (WC_ext hx).2 ?_
 obtain ⟨d, H', h1, ⟨R', top', md', stmv', topv', e, hP', rfl⟩, h3⟩ := pick_some (P := Tryz.prog) (f := 38) (Q := ofQ) (of_good (H := H) (md := md) hP hC)
 simp only [List.cons.injEq, DV.agg.injEq, and_true] at e
 obtain ⟨_, rfl, rfl⟩ := e
 obtain ⟨rfl, rfl⟩ := prg_inj hP hP'
 exact ⟨_, _, h1, rfl, h3⟩
end Go.Proofs.YtcknfhhbijlobaaGreatDoor.D
namespace Go.Proofs.YtcknfhhbijlobaaGreatDoor.D
open Go
set_option linter.unusedVariables false
set_option linter.unusedSimpArgs false
set_option maxRecDepth 100000
theorem sum_single (g : Nat → Nat) (x : Nat) : ∀ N, ((List.range N).map fun n => (if x == n then 1 else 0) * g n).sum = if x < N then g x else 0
 | 0 => rfl
 | N + 1 => by
  rw [List.range_succ, List.map_append, List.sum_append_nat, sum_single g x N]
  simp only [List.map_cons, List.map_nil, List.sum_cons, List.sum_nil, Nat.add_zero]
  by_cases h1 : x < N
  ·have : (x == N) = false := by simp; omega
   simp [h1, this, show x < N + 1 by omega]
  ·by_cases h2 : x = N
   ·subst h2; simp
   ·have : (x == N) = false := by simp [h2]
    simp [h1, this, show ¬ x < N + 1 by omega]
theorem sum_count (g : Nat → Nat) (N : Nat) : ∀ (l : List Nat), (∀ x ∈ l, x < N) → (l.map g).sum = ((List.range N).map fun n => l.count n * g n).sum
 | [], _ => by
  have : ∀ m : List Nat, (m.map fun n => ([] : List Nat).count n * g n).sum = 0 := fun m => by
   induction m with
   | nil => rfl
   | cons a m ih => rw [List.map_cons, List.sum_cons, ih]; simp
  rw [this]; rfl
 | x :: l, h => by
  have ih := sum_count g N l fun y hy => h y (by simp [hy])
  have hx := h x (by simp)
  have hs := sum_single g x N
  rw [if_pos hx] at hs
  rw [List.map_cons, List.sum_cons, ih, ← hs]
  have add : ∀ (m : List Nat) (a b : Nat → Nat), (m.map a).sum + (m.map b).sum = (m.map fun n => a n + b n).sum := fun m a b => by
   induction m with
   | nil => rfl
   | cons c m ih => simp only [List.map_cons, List.sum_cons, ← ih]; omega
  rw [add]
  congr 1
  apply List.map_congr_left
  intro n _
  rw [List.count_cons, ← Nat.add_mul]
  congr 1
  omega
def trS (W : Stm → Nat) (R : List Stm) : Nat → List Nat → Nat
 | 0, _ => 0
 | f + 1, l => (l.map fun n => match R[n]? with | none => 0 | some s => W s + trS W R f s.l + trS W R f s.m).sum
theorem trS_nil {W : Stm → Nat} {R : List Stm} : ∀ f, trS W R f [] = 0
 | 0 => rfl
 | f + 1 => rfl
theorem trS_fuel {W : Stm → Nat} {R : List Stm} (hown : ∀ (i : Nat) (s : Stm), R[i]? = some s → ∀ n ∈ s.l ++ s.m, n < i) : ∀ (f g : Nat) (l : List Nat), f ≤ g → (∀ n ∈ l, n < f) → trS W R f l = trS W R g l
 | 0, g, l, _, h => by
  cases l with
  | nil => rw [trS_nil, trS_nil]
  | cons x l => have := h x (by simp); omega
 | f + 1, 0, l, hfg, _ => by omega
 | f + 1, g + 1, l, hfg, h => by
  unfold trS
  congr 1
  apply List.map_congr_left
  intro n hn
  cases hR : R[n]? with
  | none => rfl
  | some s =>
   have hn1 := h n hn
   have ho := hown n s hR
   simp only
   rw [trS_fuel hown f g s.l (by omega) fun c hc => by have := ho c (by simp [hc]); omega, trS_fuel hown f g s.m (by omega) fun c hc => by have := ho c (by simp [hc]); omega]
theorem map_idx {R : List Stm} (F : Stm → Nat) : ((List.range R.length).map fun n => match R[n]? with | none => 0 | some s => F s).sum = (R.map F).sum := by
 have : (List.range R.length).map (fun n => match R[n]? with | none => 0 | some s => F s) = R.map F := by
  apply List.ext_getElem?
  intro i
  rw [List.getElem?_map, List.getElem?_map]
  by_cases h : i < R.length
  ·rw [List.getElem?_range h, List.getElem?_eq_getElem h]; simp [List.getElem?_eq_getElem h]
  ·rw [List.getElem?_eq_none (by simpa using h), List.getElem?_eq_none (by omega)]; rfl
 rw [this]
theorem sum_flat (g : Nat → Nat) : ∀ (R : List Stm), ((allL R).flatten.map g).sum = (R.map fun s => (s.l.map g).sum + (s.m.map g).sum).sum
 | [] => rfl
 | s :: R => by
  have ih := sum_flat g R
  simp only [allL, List.flatMap_cons, List.flatten_append, List.map_append, List.sum_append_nat, List.flatten_cons, List.flatten_nil, List.append_nil, List.map_cons, List.sum_cons] at ih ⊢
  rw [ih]
theorem trS_all {W : Stm → Nat} {R : List Stm} {top : List Nat} (hW : Wi R top [] []) : trS W R R.length top = (R.map W).sum := by
 have htop : ∀ x ∈ top, x < R.length := fun x hx => hW.lt (l := top) (by simp) hx
 have hfl : ∀ x ∈ (allL R).flatten, x < R.length := fun x hx => by
  obtain ⟨l, hl, hxl⟩ := List.mem_flatten.1 hx
  exact hW.lt (l := l) (by simp [hl]) hxl
 let T : Nat → Nat := fun n => match R[n]? with | none => 0 | some s => W s + trS W R R.length s.l + trS W R R.length s.m
 have hT : ∀ l : List Nat, (∀ x ∈ l, x < R.length) → trS W R R.length l = (l.map T).sum := fun l hl => by
  rw [trS_fuel hW.own R.length (R.length + 1) l (by omega) hl]; rfl
 have hs1 := sum_count T R.length top htop
 have hs2 := sum_count T R.length (allL R).flatten hfl
 have add : ∀ (m : List Nat) (a b : Nat → Nat), (m.map a).sum + (m.map b).sum = (m.map fun n => a n + b n).sum := fun m a b => by
  induction m with
  | nil => rfl
  | cons c m ih => simp only [List.map_cons, List.sum_cons, ← ih]; omega
 have hsum : (top.map T).sum + ((allL R).flatten.map T).sum = ((List.range R.length).map T).sum := by
  rw [hs1, hs2, add]
  congr 1
  apply List.map_congr_left
  intro n hn
  have hc := hW.cnt n
  rw [if_pos (by simpa using hn)] at hc
  simp [allF] at hc
  rw [← Nat.add_mul]
  rw [show List.count n top + List.count n (allL R).flatten = 1 by simpa using hc, Nat.one_mul]
 have hR : ((List.range R.length).map T).sum = (R.map fun s => W s + trS W R R.length s.l + trS W R R.length s.m).sum := map_idx _
 have hkid : ∀ s ∈ R, trS W R R.length s.l = (s.l.map T).sum ∧ trS W R R.length s.m = (s.m.map T).sum := fun s hs => by
  have h1 : s.l ∈ allL R := List.mem_flatMap.2 ⟨s, hs, by simp⟩
  have h2 : s.m ∈ allL R := List.mem_flatMap.2 ⟨s, hs, by simp⟩
  exact ⟨hT _ fun x hx => hW.lt (l := s.l) (by simp [h1]) hx, hT _ fun x hx => hW.lt (l := s.m) (by simp [h2]) hx⟩
 have hsplit : (R.map fun s => W s + trS W R R.length s.l + trS W R R.length s.m).sum = (R.map W).sum + ((allL R).flatten.map T).sum := by
  rw [sum_flat]
  have : ∀ (S : List Stm), (∀ s ∈ S, s ∈ R) → (S.map fun s => W s + trS W R R.length s.l + trS W R R.length s.m).sum = (S.map W).sum + (S.map fun s => (s.l.map T).sum + (s.m.map T).sum).sum := fun S => by
   induction S with
   | nil => intro _; rfl
   | cons s S ih =>
    intro h
    obtain ⟨k1, k2⟩ := hkid s (h s (by simp))
    simp only [List.map_cons, List.sum_cons, ih fun x hx => h x (by simp [hx]), k1, k2]
    omega
  exact this R fun _ h => h
 rw [hT top htop]
 omega
def ownN (P : Nat → Bool) (s : Stm) : Nat :=
 if s.kind = 13 then 0 else if s.kind = 14 then (if P 18 then 1 else 0) else if s.kind = 5 then (if P 5 then 1 else 0) + (if s.m = [] then 0 else if P 18 then 1 else 0) else if P s.kind then 1 else 0
theorem cnt_raw {R : List Stm} (hfin : ∀ s ∈ R, fineS s) (P : Nat → Bool) : ∀ (f : Nat) (l : List Nat) (p : Nat), (rawL R f l p).countP (fun r => P r.o.kind) = trS (ownN P) R f l
 | 0, l, p => by
  unfold rawL
  induction l generalizing p with
  | nil => rfl
  | cons n l ih => rw [rowR, List.countP_append, ih]; rfl
 | f + 1, l, p => by
  unfold trS
  induction l generalizing p with
  | nil => rfl
  | cons n l ih =>
   have hr : rawL R (f + 1) (n :: l) p = rawN R (f + 1) n p ++ rawL R (f + 1) l (p + (rawN R (f + 1) n p).length) := rfl
   rw [hr, List.countP_append, ih, List.map_cons, List.sum_cons]
   congr 1
   rw [rawN]
   cases hR : R[n]? with
   | none => rfl
   | some s =>
    obtain ⟨f1, f2, f3, f4⟩ := hfin s (List.mem_of_getElem? hR)
    have ihc := fun l p => cnt_raw hfin P f l p
    have hd : rowR (rawN R f) = rawL R f := rfl
    simp only [hd]
    by_cases k13 : s.kind = 13
    ·rw [f3 (by omega) (by omega), f4 (by omega), show ownN P s = 0 by simp [ownN, k13]]; simp [rawS, k13, trS_nil]
    by_cases k14 : s.kind = 14
    ·rw [f3 (by omega) (by omega), f4 (by omega), show ownN P s = (if P 18 then 1 else 0) by simp [ownN, k14]]; simp [rawS, k14, trS_nil, List.countP_cons]
    by_cases k5 : s.kind = 5
    ·rw [show ownN P s = (if P 5 then 1 else 0) + (if s.m = [] then 0 else if P 18 then 1 else 0) by simp [ownN, k5]]
     by_cases hm : s.m = []
     ·simp [rawS, k5, hm, trS_nil, List.countP_cons, ihc]; omega
     ·simp [rawS, k5, hm, List.countP_cons, List.countP_append, ihc]; omega
    rw [show ownN P s = (if P s.kind then 1 else 0) by simp [ownN, k13, k14, k5]]
    by_cases k15 : s.kind = 15
    ·rw [f3 (by omega) (by omega), f4 (by omega)]; simp [rawS, k15, trS_nil, List.countP_cons]
    by_cases k6 : s.kind = 6
    ·rw [f4 (by omega)]; simp [rawS, k6, trS_nil, List.countP_cons, ihc]; omega
    ·rw [f3 (by omega) (by omega), f4 (by omega)]; simp [rawS, k13, k14, k15, k6, k5, trS_nil, List.countP_cons]
def ownB (P : List UInt8 → Bool) (s : Stm) : Nat := if s.kind = 13 ∧ P s.s = true then 1 else 0
theorem cnt_lab {R : List Stm} (hfin : ∀ s ∈ R, fineS s) (P : List UInt8 → Bool) : ∀ (f : Nat) (l : List Nat) (p : Nat), (labL R f l p).countP (fun q => P q.1) = trS (ownB P) R f l
 | 0, l, p => by
  unfold labL
  induction l generalizing p with
  | nil => rfl
  | cons n l ih => rw [rowB, List.countP_append, ih]; rfl
 | f + 1, l, p => by
  unfold trS
  induction l generalizing p with
  | nil => rfl
  | cons n l ih =>
   have hr : labL R (f + 1) (n :: l) p = labN R (f + 1) n p ++ labL R (f + 1) l (p + (rawN R (f + 1) n p).length) := rfl
   rw [hr, List.countP_append, ih, List.map_cons, List.sum_cons]
   congr 1
   rw [labN]
   cases hR : R[n]? with
   | none => rfl
   | some s =>
    obtain ⟨f1, f2, f3, f4⟩ := hfin s (List.mem_of_getElem? hR)
    have ihc := fun l p => cnt_lab hfin P f l p
    have hd : rowB (rawN R f) (labN R f) = labL R f := rfl
    simp only [hd]
    by_cases k13 : s.kind = 13
    ·rw [f3 (by omega) (by omega), f4 (by omega), show ownB P s = (if P s.s then 1 else 0) by simp [ownB, k13]]; simp [labS, k13, trS_nil, List.countP_cons]
    rw [show ownB P s = 0 by simp [ownB, k13]]
    by_cases k6 : s.kind = 6
    ·rw [f4 (by omega)]; simp [labS, k6, trS_nil, ihc]
    by_cases k5 : s.kind = 5
    ·by_cases hm : s.m = []
     ·simp [labS, k5, hm, trS_nil, ihc]
     ·simp [labS, k5, hm, List.countP_append, ihc]
    ·rw [f3 (by omega) (by omega), f4 (by omega)]; simp [labS, k13, k6, k5, trS_nil]
theorem labels_nd {R : List Stm} (h : ∀ (i : Nat) (s : Stm), R[i]? = some s → s.kind = 13 → s.s ∉ labelsL (R.take i)) : (labelsL R).Nodup := by
 have : ∀ k, k ≤ R.length → (labelsL (R.take k)).Nodup := fun k => by
  induction k with
  | zero => intro _; simp [labelsL]
  | succ k ih =>
   intro hk
   have hg : R[k]? = some R[k] := List.getElem?_eq_getElem (by omega)
   rw [labels_take hg]
   by_cases h13 : R[k].kind = 13
   ·rw [if_pos h13, List.nodup_append]
    refine ⟨ih (by omega), by simp, ?_⟩
    intro a ha b hb
    simp at hb
    subst hb
    rintro rfl
    exact h k _ hg h13 ha
   ·rw [if_neg h13]; exact ih (by omega)
 have := this R.length (Nat.le_refl _)
 rwa [List.take_length] at this
theorem sum_lab (x : List UInt8) : ∀ R : List Stm, (R.map (ownB fun y => y == x)).sum = (labelsL R).count x
 | [] => rfl
 | s :: R => by
  have ih := sum_lab x R
  unfold labelsL at ih ⊢
  rw [List.map_cons, List.sum_cons, ih, List.filter_cons]
  by_cases h : s.kind = 13
  ·simp only [h, decide_true, if_true, List.map_cons, List.count_cons, ownB, true_and]; omega
  ·simp [h, ownB]
theorem sum_le {R : List Stm} {F : Stm → Nat} {c : Nat} (h : ∀ s, F s ≤ c) : (R.map F).sum ≤ c * R.length := by
 induction R with
 | nil => simp
 | cons s R ih => simp only [List.map_cons, List.sum_cons, List.length_cons]; have := h s; rw [Nat.mul_add]; omega
theorem raw_len {R : List Stm} {top : List Nat} (hW : Wi R top [] []) (p : Nat) : (rawL R R.length top p).length = (R.map (ownN fun _ => true)).sum := by
 have := cnt_raw hW.fin (fun _ => true) R.length top p
 rw [trS_all hW] at this
 rw [← this]; simp
theorem raw_le {R : List Stm} {top : List Nat} (hW : Wi R top [] []) (p : Nat) : (rawL R R.length top p).length ≤ 2 * R.length := by
 rw [raw_len hW]
 refine sum_le fun s => ?_
 unfold ownN
 repeat' split
 all_goals first | omega | simp_all
structure GoodP (md : Nat) (R : List Stm) (top : List Nat) : Prop where
 wi : Wi R top [] []
 mo : md = 1 ∨ md = 2 ∨ md = 3
 len : R.length ≤ 100
 chk : (checkP md R).2 = 0
 fine : FineR R
 tl : top.length ≤ 100
 ll : ∀ x ∈ R, x.l.length ≤ 100 ∧ x.m.length ≤ 100
theorem goodP_of {s : List UInt8} (he : (checkS s).e = 0) : GoodP (checkS s).mode (checkS s).R (checkS s).top := by
 have hfine := parse_fine s
 obtain ⟨n1, n2, n3⟩ := parse_lens s
 unfold checkS checkR at he ⊢
 by_cases h1 : (parseAll s).e ≠ 0
 ·rw [if_pos h1] at he; exact absurd he h1
 ·rw [if_neg h1] at he ⊢
  by_cases h2 : (checkP (parseAll s).mode (parseAll s).R).2 ≠ 0
  ·rw [if_pos h2] at he; exact absurd he h2
  ·rw [if_neg h2]
   obtain ⟨hW, hm1, hm2, h100⟩ := parse_within (s := s) (by simpa using h1)
   exact ⟨hW, by simp only; omega, h100, by simpa using h2, hfine, n2, n3⟩
theorem GoodP.ofC {md : Nat} {R : List Stm} {top : List Nat} (h : GoodP md R top) : OfC R top := by
 refine ⟨fun s hs => ⟨h.wi.fin s hs, ?_, ?_, ?_⟩, h.wi.own, fun c hc => h.wi.lt (l := top) (by simp) hc, by have := h.tl; omega, ?_, ?_⟩
 ·exact (h.fine.2 s hs).2.2.1
 ·have := (h.ll s hs).1; omega
 ·have := (h.ll s hs).2; omega
 ·have := raw_le h.wi 0; have := h.len; omega
 ·rw [List.nodup_iff_count]
  intro x
  have h1 := cnt_lab h.wi.fin (fun y => y == x) R.length top 0
  rw [trS_all h.wi, sum_lab] at h1
  have h2 : ((labL R R.length top 0).map (·.1)).count x = (labL R R.length top 0).countP fun q => q.1 == x := by
   rw [List.count, List.countP_map]; rfl
  rw [h2, h1]
  exact List.nodup_iff_count.1 (labels_nd fun i s hi hk => (names17_ok h.chk hi).once hk) x
end Go.Proofs.YtcknfhhbijlobaaGreatDoor.D
