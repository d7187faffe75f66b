import Derived.Test.YtcknfhhbijlobaaGreatDoorR15c
namespace Go.Proofs.YtcknfhhbijlobaaGreatDoor.D
open Go
set_option linter.unusedVariables false
set_option linter.unusedSimpArgs false
set_option maxRecDepth 100000
theorem Y_cut {C : Cfg} {c : Code} {σ : Sg} {H : DH} {n : Pt} {e g : Nat → Pt} {r : Pt} {p : Later (c, n, e, g, r)} (Q : Pt) (h : Y C c σ H Q e g r (.mk _)) (k : ∀ σ H, Q σ H → n σ H) : Y C c σ H n e g r p :=
 Y_mono h k (fun _ _ _ h => h) (fun _ _ _ h => h) (fun _ _ h => h)
structure RdS (lo : Nat) (H : DH) (p id off : Nat) (all : List Tok) (i : Nat) (R : List Stm) (rowv : DV) (e fr : Nat) : Prop where
 hp : p < H.next
 obj : H.m p = some (rdC id off all i rowv e fr)
 hlo : lo ≤ H.next
 row : ∃ es, IsSl lo H 40 8 rowv es ∧ All2 StmV R es
theorem RdS.tip {lo : Nat} {H : DH} {p id off : Nat} {all : List Tok} {i : Nat} {R : List Stm} {rowv : DV} {e fr : Nat} (h : RdS lo H p id off all i R rowv e fr) : ∀ x ∈ slid rowv, lo ≤ x ∧ x < H.next ∧ x ≠ p ∧ ∃ k, H.m x = some (.tip 40 k true) := by
 obtain ⟨es, hs, _⟩ := h.row
 intro x hx
 obtain ⟨h1, h2, k, h3⟩ := hs.tip x hx
 exact ⟨h1, h2, fun he => (by subst he; rw [h.obj] at h3; cases h3), k, h3⟩
theorem RdS.keep {lo : Nat} {H H' : DH} {p id off : Nat} {all : List Tok} {i i' : Nat} {R : List Stm} {rowv : DV} {e fr e' fr' : Nat} (h : RdS lo H p id off all i R rowv e fr) (x : Frm [p] H H') (hm : H'.m p = some (rdC id off all i' rowv e' fr')) : RdS lo H' p id off all i' R rowv e' fr' := by
 obtain ⟨es, hs, ha⟩ := h.row
 refine ⟨Nat.lt_of_lt_of_le h.hp x.le, hm, Nat.le_trans h.hlo x.le, es, hs.keep x.le (fun y hy => ?_), ha⟩
 obtain ⟨_, h2, h3, _⟩ := h.tip y hy
 exact x.same y h2 (by simpa using h3)
theorem Y_as {C : Cfg} {a b c : Code} {σ : Sg} {H : DH} {n : Pt} {e g : Nat → Pt} {r : Pt} {p : Later (Code.seq a (.seq b c), n, e, g, r)} (h : Y C (.seq (.seq a b) c) σ H n e g r (.mk _)) : Y C (.seq a (.seq b c)) σ H n e g r p := by
 rw [Y_seq] at h ⊢
 rw [Y_seq] at h
 exact Y_mono h (fun σ H h => by rw [Y_seq]; exact h) (fun _ _ _ h => h) (fun _ _ _ h => h) (fun _ _ h => h)
theorem WO_cut {C : Cfg} {ops : Array Oper} {l : List Oper} {σ : Sg} {H : DH} {n : Pt} (Q : Pt) (h : WO C ops l σ H Q) (k : ∀ σ H, Q σ H → n σ H) : WO C ops l σ H n := by
 obtain ⟨s, h1, h2⟩ := h
 exact ⟨s, h1, k _ _ h2⟩
def OnePost (lo : Nat) (H : DH) (p id off : Nat) (all : List Tok) (i : Nat) (R : List Stm) (rowv : DV) (fr deep : Nat) (k : Tok) (v : DV) (H' : DH) : Prop :=
 ∃ i' R' rowv' e' fr' n, RdS lo H' p id off all i' R' rowv' e' fr' ∧ Frm (p :: slid rowv) H H' ∧ (∀ x ∈ slid rowv', x ∈ slid rowv ∨ H.next ≤ x) ∧ R'.length + i ≤ R.length + i' ∧ v = intV n ∧
 ((e' ≠ 0 ∧ i' < all.length ∧ OneBad deep k (all.drop (i + 1)) R fr' e') ∨ (e' = 0 ∧ fr' = fr ∧ i < i' ∧ TokOk (all.drop i') ∧ ∃ R1 s, R' = R1 ++ [s] ∧ n = R1.length ∧ OneOk deep k (all.drop (i + 1)) R (all.drop i') R1 s))
def BlkPost (lo : Nat) (H : DH) (p id off : Nat) (all : List Tok) (i : Nat) (R : List Stm) (rowv : DV) (fr deep : Nat) (k : Tok) (v : DV) (H' : DH) : Prop :=
 ∃ i' R' rowv' e' fr' out, RdS lo H' p id off all i' R' rowv' e' fr' ∧ Frm (p :: slid rowv) H H' ∧ (∀ x ∈ slid rowv', x ∈ slid rowv ∨ H.next ≤ x) ∧ R'.length + i ≤ R.length + i' ∧ IsSn H.next H' 3 1 v (out.map intV) ∧
 ((e' ≠ 0 ∧ i' < all.length ∧ ((mustE [123] deep k ≠ 0 ∧ fr' = k.pos ∧ e' = mustE [123] deep k) ∨ (mustE [123] deep k = 0 ∧ BlkBad deep (all.drop (i + 1)) R fr' e'))) ∨
  (e' = 0 ∧ fr' = fr ∧ i < i' ∧ TokOk (all.drop i') ∧ mustE [123] deep k = 0 ∧ BlkOk deep (all.drop (i + 1)) R (all.drop i') R' out))
theorem Frm.wide {p : Nat} {l : List Nat} {A B : DH} (x : Frm [p] A B) : Frm (p :: l) A B := x.mono (by simp)
theorem FrmR_trans {p : Nat} {rowv rowv' : DV} {A B C : DH} (x : Frm (p :: slid rowv) A B) (hs : ∀ y ∈ slid rowv', y ∈ slid rowv ∨ A.next ≤ y) (y : Frm (p :: slid rowv') B C) : Frm (p :: slid rowv) A C := by
 refine ⟨Nat.le_trans x.le y.le, fun b hb hn => ?_⟩
 rw [y.same b (Nat.lt_of_lt_of_le hb x.le) (fun h => ?_), x.same b hb hn]
 rcases List.mem_cons.1 h with h | h
 ·exact hn (by simp [h])
 ·rcases hs b h with h | h
  ·exact hn (List.mem_cons_of_mem _ h)
  ·omega
theorem IsSn.frmR {lo lo' : Nat} {H H' : DH} {p id off : Nat} {all : List Tok} {i : Nat} {R : List Stm} {rowv : DV} {e fr ty sz : Nat} {v : DV} {es : List DV} (h : IsSn lo' H ty sz v es) (x : Frm (p :: slid rowv) H H') (hr : RdS lo H p id off all i R rowv e fr) (hne : ty ≠ 40) : IsSn lo' H' ty sz v es := by
 obtain ⟨oid, ooff, k, h1, h2, h3, h4, h5⟩ := h
 refine ⟨oid, ooff, k, h1, ?_, h3, h4, Nat.lt_of_lt_of_le h5 x.le⟩
 rw [x.same oid h5 (fun hc => ?_)]
 ·exact h2
 ·rcases List.mem_cons.1 hc with hc | hc
  ·subst hc; rw [hr.obj] at h2; cases h2
  ·obtain ⟨_, _, _, k2, hk2⟩ := hr.tip oid hc
   rw [hk2] at h2; cases h2; exact hne rfl
theorem RdS.app {lo lo' : Nat} {H H' : DH} {p id off : Nat} {all : List Tok} {i : Nat} {R : List Stm} {rowv : DV} {e fr ty sz : Nat} {v : DV} {es : List DV} (hr : RdS lo H p id off all i R rowv e fr) (h : Same v H H') (hs : IsSn lo' H ty sz v es) (hne : ty ≠ 40) : RdS lo H' p id off all i R rowv e fr := by
 obtain ⟨es2, h1, h2⟩ := hr.row
 refine ⟨Nat.lt_of_lt_of_le hr.hp h.le, h.keepn hs hr.hp hr.obj, Nat.le_trans hr.hlo h.le, es2, h1.keep h.le (fun y hy => ?_), h2⟩
 obtain ⟨_, y2, _, k2, y4⟩ := hr.tip y hy
 refine h.same y y2 ?_
 rintro oid sz' off' es' rfl
 obtain ⟨id', off', k, g1, g2, _, g4, _⟩ := hs
 cases g1
 rintro rfl
 rw [g2] at y4; cases y4; exact hne rfl
theorem mustE_open {deep : Nat} {k : Tok} : mustE [123] deep k = if k.kind = 4 ∧ k.text = [123] then (if 8 ≤ deep then 21 else 0) else 20 := by
 unfold mustE
 rw [if_neg (by decide), if_neg (by decide), if_neg (by decide), if_neg (by decide)]
 by_cases h : k.kind = 4 ∧ k.text = [123]
 ·by_cases h8 : 8 ≤ deep
  ·rw [if_pos ⟨rfl, h8, h⟩, if_pos h, if_pos h8]
  ·rw [if_neg (fun hh => h8 hh.2.1), if_pos h, if_pos h, if_neg h8]
 ·rw [if_neg (fun hh => h hh.2.2), if_neg h, if_neg h]
def OneAt (N lo p id off : Nat) (all : List Tok) : Prop := ∀ (H : DH) (i fr deep : Nat) (R : List Stm) (rowv : DV) (k : Tok), RdS lo H p id off all i R rowv 0 fr → TokOk (all.drop i) → all[i]? = some k → all.length - i < N → deep ≤ 8 → R.length ≤ i →
 WC cfg 51 [.ptr p 0, .int .i64 deep] H (OnePost lo H p id off all i R rowv fr deep k)
theorem block_ok {N lo p id off i e fr deep : Nat} {all : List Tok} {k : Tok} {R : List Stm} {rowv : DV} {H : DH} (IH : OneAt N lo p id off all) (hr : RdS lo H p id off all i R rowv e fr) (hki : all[i]? = some k) (hT : e = 0 → TokOk (all.drop i)) (hl : all.length < 1000) (hN : all.length - i ≤ N) (hd : deep ≤ 8) (hRi : R.length ≤ i) :
  WC cfg 83 [.ptr p 0, .int .i64 deep] H fun v H' => (e ≠ 0 → RdS lo H' p id off all i R rowv e fr ∧ Frm [p] H H' ∧ IsSn H.next H' 3 1 v []) ∧ (e = 0 → BlkPost lo H p id off all i R rowv fr deep k v H') := by
 refine WC_of (show Has cfg 83 43 [.tmp 4] _ from ⟨by kernel_rfl, Tryz.f83, Tryz.func83, rfl, rfl, rfl, by kernel_rfl⟩) (by simp) ?_
 have hil : i < all.length := (List.getElem?_eq_some_iff.1 hki).1
 have hm := hr.obj
 have hp := hr.hp
 simp -dsimp (disch := first | omega | (apply DrawYes.mk; decide +kernel)) only [go_sem]
 refine call (rris_ok (kd := 4) hp hm hki) ?_
 rintro _ Hx ⟨rfl, hHx⟩
 rw [hHx]; clear hHx Hx
 refine WO_cut (fun σ H' => H' = H ∧ σ 0 = .ptr p 0 ∧ σ 1 = .int .i64 deep ∧ σ 5 = .bool (decide (k.kind = 4 ∧ k.text = [123]))) (by simp -dsimp (disch := first | omega | (apply DrawYes.mk; decide +kernel)) only [go_sem]) ?_
 rintro σ Hx ⟨hHx, s0, s1, s5⟩
 rw [hHx]; clear hHx Hx
 refine Y_as ?_
 rw [Y_seq]
 refine Y_cut (fun σ H' => σ 0 = .ptr p 0 ∧ σ 1 = .int .i64 deep ∧ ∃ i1 e1 fr1, Frm [p] H H' ∧ H'.m p = some (rdC id off all i1 rowv e1 fr1) ∧
  ((e ≠ 0 ∧ i1 = i ∧ e1 = e ∧ fr1 = fr) ∨ (e = 0 ∧ mustE [123] deep k ≠ 0 ∧ i1 = i ∧ e1 = mustE [123] deep k ∧ fr1 = k.pos) ∨ (e = 0 ∧ mustE [123] deep k = 0 ∧ i1 = i + 1 ∧ e1 = 0 ∧ fr1 = fr))) ?_ ?_
 ·have hsg : ∀ H1 e0 fr0, Frm [p] H H1 → H1.m p = some (rdC id off all i rowv e0 fr0) → e0 ≠ 0 → WC cfg 50 [.ptr p 0, .str [123]] H1 fun v H' => v = .tup [] ∧ Frm [p] H H' ∧ H'.m p = some (rdC id off all i rowv e0 fr0) := by
   intro H1 e0 fr0 hF1 hm1 he0
   refine WC_mono (rrsign_ok (Nat.lt_of_lt_of_le hp hF1.le) hm1 hki (by omega)) ?_
   rintro v H2 ⟨h1, h2, h3⟩
   rw [if_neg (fun h => he0 h.1), if_neg he0, if_neg he0] at h3
   exact ⟨h1, hF1.trans h2, h3⟩
  by_cases ho : k.kind = 4 ∧ k.text = [123]
  ·have d1 : decide (k.kind = 4 ∧ k.text = [123]) = true := decide_eq_true ho
   by_cases h8 : 8 ≤ deep
   ·have j8 : (8 : Int) ≤ deep := by omega
    have hmu : mustE [123] deep k = 21 := by rw [mustE_open, if_pos ho, if_pos h8]
    simp -dsimp (disch := first | omega | (apply DrawYes.mk; decide +kernel)) only [go_sem, s0, s1, s5, d1, j8]
    refine call (rrfail_ok (er := 21) hp hm hki) ?_
    rintro _ H1 ⟨rfl, hF1, hm1⟩
    have he1 : (if e = 0 then 21 else e) ≠ 0 := by split <;> omega
    simp -dsimp (disch := first | omega | (apply DrawYes.mk; decide +kernel)) only [go_sem, s0, s1, s5]
    refine call (hsg H1 _ _ hF1 hm1 he1) ?_
    rintro _ H2 ⟨rfl, hF2, hm2⟩
    simp -dsimp (disch := first | omega | (apply DrawYes.mk; decide +kernel)) only [go_sem, s0, s1, s5]
    refine ⟨_, _, _, hF2, hm2, ?_⟩
    by_cases he : e = 0
    ·exact .inr (.inl ⟨he, by rw [hmu]; decide, rfl, by rw [if_pos he, hmu], by rw [if_pos he]⟩)
    ·exact .inl ⟨he, rfl, by rw [if_neg he], by rw [if_neg he]⟩
   ·have j8 : ¬ (8 : Int) ≤ deep := by omega
    have hmu : mustE [123] deep k = 0 := by rw [mustE_open, if_pos ho, if_neg h8]
    simp -dsimp (disch := first | omega | (apply DrawYes.mk; decide +kernel)) only [go_sem, s0, s1, s5, d1, j8]
    refine call (rrsign_ok hp hm hki (by omega)) ?_
    rintro _ H2 ⟨rfl, hF2, hm2⟩
    simp -dsimp (disch := first | omega | (apply DrawYes.mk; decide +kernel)) only [go_sem, s0, s1, s5]
    by_cases he : e = 0
    ·rw [if_pos ⟨he, ho⟩] at hm2
     exact ⟨_, _, _, hF2, hm2, .inr (.inr ⟨he, hmu, rfl, he, rfl⟩)⟩
    ·rw [if_neg (fun h => he h.1), if_neg he, if_neg he] at hm2
     exact ⟨_, _, _, hF2, hm2, .inl ⟨he, rfl, rfl, rfl⟩⟩
  ·have d1 : decide (k.kind = 4 ∧ k.text = [123]) = false := decide_eq_false ho
   have hmu : mustE [123] deep k = 20 := by rw [mustE_open, if_neg ho]
   simp -dsimp (disch := first | omega | (apply DrawYes.mk; decide +kernel)) only [go_sem, s0, s1, s5, d1]
   refine call (rrsign_ok hp hm hki (by omega)) ?_
   rintro _ H2 ⟨rfl, hF2, hm2⟩
   rw [if_neg (show ¬ (e = 0 ∧ k.kind = 4 ∧ k.text = [123]) from fun h => ho h.2)] at hm2
   simp -dsimp (disch := first | omega | (apply DrawYes.mk; decide +kernel)) only [go_sem, s0, s1, s5]
   refine ⟨_, _, _, hF2, hm2, ?_⟩
   by_cases he : e = 0
   ·exact .inr (.inl ⟨he, by rw [hmu]; decide, rfl, by rw [if_pos he, hmu], by rw [if_pos he]⟩)
   ·exact .inl ⟨he, rfl, by rw [if_neg he], by rw [if_neg he]⟩
 clear s0 s1 s5 σ
 rintro σ H1 ⟨s0, s1, i1, e1, fr1, hF1, hm1, hc⟩
 have hr1 := hr.keep hF1 hm1
 have hi1 : i1 < all.length := by
  rcases hc with ⟨_, h, _⟩ | ⟨_, _, h, _⟩ | ⟨he, hmu, h, _⟩
  ·omega
  ·omega
  ·obtain ⟨k2, h2, h3, _⟩ := (hT he).at
   rw [hki] at h2; cases h2
   have ht := hT he
   rw [h3] at ht
   obtain ⟨_, _, _, h4⟩ := (ht.tail (mustE_kind hmu)).at
   omega
 obtain ⟨k1, hk1⟩ : ∃ k1, all[i1]? = some k1 := ⟨_, List.getElem?_eq_getElem hi1⟩
 simp -dsimp (disch := first | omega | (apply DrawYes.mk; decide +kernel)) only [go_sem, s0, s1]
 refine call (rris_ok (kd := 4) (by simp only [new_next]; exact Nat.lt_succ_of_lt hr1.hp) (by rw [new_m, if_neg (Nat.ne_of_lt hr1.hp)]; exact hm1) hk1) ?_
 rintro _ Hx ⟨rfl, hHx⟩
 rw [hHx]; clear hHx Hx
 simp -dsimp (disch := first | omega | (apply DrawYes.mk; decide +kernel)) only [go_sem, s0, s1]
 refine Y_loop (α := Nat × List Stm × DV × Nat × Nat × List Nat) (fun x σ H' => RdS lo H' p id off all x.1 x.2.1 x.2.2.1 x.2.2.2.1 x.2.2.2.2.1 ∧ Frm (p :: slid rowv) H H' ∧ (∀ y ∈ slid x.2.2.1, y ∈ slid rowv ∨ H.next ≤ y) ∧ x.2.1.length + i ≤ R.length + x.1 ∧ IsSn H.next H' 3 1 (σ 6) (x.2.2.2.2.2.map intV) ∧ σ 0 = .ptr p 0 ∧ σ 1 = .int .i64 deep ∧
   (∃ k', all[x.1]? = some k' ∧ σ 7 = .bool (decide (k'.kind = 4 ∧ k'.text = [125]))) ∧
   ((e ≠ 0 ∧ x.1 = i ∧ x.2.1 = R ∧ x.2.2.1 = rowv ∧ x.2.2.2.1 = e ∧ x.2.2.2.2.1 = fr ∧ x.2.2.2.2.2 = [] ∧ Frm [p] H H') ∨
    (e = 0 ∧ mustE [123] deep k ≠ 0 ∧ x.2.2.2.1 = mustE [123] deep k ∧ x.2.2.2.2.1 = k.pos) ∨
   (e = 0 ∧ mustE [123] deep k = 0 ∧ ((x.2.2.2.1 = 0 ∧ x.2.2.2.2.1 = fr ∧ i < x.1 ∧ x.2.2.2.2.2.length ≤ x.1 ∧ TokOk (all.drop x.1) ∧ BlkAt deep (all.drop (i + 1)) R (all.drop x.1) x.2.1 x.2.2.2.2.2) ∨ (x.2.2.2.1 ≠ 0 ∧ BlkBad deep (all.drop (i + 1)) R x.2.2.2.2.1 x.2.2.2.1)))))
  (fun x => if x.2.2.2.1 = 0 then all.length - x.1 + 1 else 0) (i1, R, rowv, e1, fr1, []) ?_ ?_
 ·simp -dsimp (disch := first | omega | (apply DrawYes.mk; decide +kernel)) only [go_sem, s0, s1]
  have hi01 : i ≤ i1 := by rcases hc with ⟨_, h, _⟩ | ⟨_, _, h, _⟩ | ⟨_, _, h, _⟩ <;> omega
  refine ⟨hr1.keep (Frm.ext Ext.refl.new) (by rw [new_m, if_neg (Nat.ne_of_lt hr1.hp)]; exact hm1), hF1.wide.new, fun y h => .inl h, by omega, IsSn.new.lower hF1.le, ⟨k1, hk1, rfl⟩, ?_⟩
  rcases hc with ⟨he, rfl, rfl, rfl⟩ | ⟨he, hmu, rfl, rfl, rfl⟩ | ⟨he, hmu, rfl, rfl, rfl⟩
  ·exact .inl ⟨he, rfl, rfl, rfl, hF1.new⟩
  ·exact .inr (.inl ⟨he, hmu, rfl, rfl⟩)
  ·obtain ⟨k2, h2, h3, _⟩ := (hT he).at
   rw [hki] at h2; cases h2
   have ht := hT he
   rw [h3] at ht
   exact .inr (.inr ⟨he, hmu, .inl ⟨rfl, rfl, by omega, Nat.zero_le _, ht.tail (mustE_kind hmu), BlkAt.start⟩⟩)
 clear s0 s1 σ
 rintro ⟨i2, R2, rowv2, e2, fr2, out⟩ σ H2 ⟨hr2, hF2, hsl2, hlen2, ho2, s0, s1, ⟨k2, hk2, s7⟩, hc2⟩
 dsimp only at hr2 hsl2 hlen2 ho2 hk2 hc2
 generalize hs6 : σ 6 = ov at ho2
 have s6 := hs6
 have hm2 := hr2.obj
 have hp2 := hr2.hp
 have hil2 : i2 < all.length := (List.getElem?_eq_some_iff.1 hk2).1
 by_cases he2 : e2 = 0
 ·subst he2
  by_cases hcl : k2.kind = 4 ∧ k2.text = [125]
  ·have d1 : decide (k2.kind = 4 ∧ k2.text = [125]) = true := decide_eq_true hcl
   simp -dsimp (disch := first | omega | (apply DrawYes.mk; decide +kernel)) only [go_sem, s0, s1, s6, s7, hm2, d1]
   refine call (rrsign_ok hp2 hm2 hk2 (by omega)) ?_
   rintro _ H3 ⟨rfl, hF3, hm3⟩
   rw [if_pos ⟨rfl, hcl⟩] at hm3
   simp -dsimp (disch := first | omega | (apply DrawYes.mk; decide +kernel)) only [go_sem, s0, s1, s6]
   rcases hc2 with ⟨he, _, _, _, h, _⟩ | ⟨he, hmu, h, _⟩ | ⟨he, hmu, ⟨_, hfr, hii, hol, htk, hat⟩ | ⟨h, _⟩⟩
   ·exact absurd h.symm he
   ·exact absurd h.symm hmu
   ·obtain ⟨k3, h3, h4, _⟩ := htk.at
    rw [hk2] at h3; cases h3
    rw [h4] at htk hat
    exact ⟨fun h => absurd he h, fun _ => ⟨i2 + 1, R2, rowv2, 0, fr2, out, hr2.keep hF3 hm3, hF2.trans (hF3.wide), hsl2, by omega, ho2.frm hF3 hm2, .inr ⟨rfl, hfr, by omega, htk.tail (by rw [hcl.1]; decide), hmu, k2, hcl.1, hcl.2, hat⟩⟩⟩
   ·exact absurd rfl h
  ·have d1 : decide (k2.kind = 4 ∧ k2.text = [125]) = false := decide_eq_false hcl
   simp -dsimp (disch := first | omega | (apply DrawYes.mk; decide +kernel)) only [go_sem, s0, s1, s6, s7, hm2, d1]
   rcases hc2 with ⟨he, _, _, _, h, _⟩ | ⟨he, hmu, h, _⟩ | ⟨he, hmu, ⟨_, hfr, hii, hol, htk, hat⟩ | ⟨h, _⟩⟩
   ·exact absurd h.symm he
   ·exact absurd h.symm hmu
   ·have hd8 : deep < 8 := by
     rw [mustE_open] at hmu
     rcases Nat.lt_or_ge deep 8 with h | h
     ·exact h
     ·exfalso; rw [if_pos h] at hmu; split at hmu <;> cases hmu
    refine call (IH H2 i2 fr2 (deep + 1) R2 rowv2 k2 hr2 htk hk2 (by omega) (by omega) (by omega)) ?_
    rintro _ H3 ⟨i3, R3, rowv3, e3, fr3, n, hr3, hF3, hsl3, hlen3, rfl, hc3⟩
    have ho3 := ho2.frmR hF3 hr2 (by decide)
    have hF23 := FrmR_trans hF2 hsl2 hF3
    have hle2 := hF2.le
    have hil3 : i3 < all.length := by
     rcases hc3 with ⟨_, h, _⟩ | ⟨_, _, _, h, _⟩
     ·exact h
     ·obtain ⟨_, _, _, h⟩ := h.at; exact h
    obtain ⟨k3, hk3⟩ : ∃ k3, all[i3]? = some k3 := ⟨_, List.getElem?_eq_getElem hil3⟩
    simp -dsimp (disch := first | omega | (apply DrawYes.mk; decide +kernel)) only [go_sem, s0, s1, s6, s7, intV]
    refine appn und_25 size_3 bytes_3 und_25 zero_3 rfl rfl (by decide) (ho3.ext Ext.refl.new) rfl (by simp only [List.length_map, List.length_cons, List.length_nil]; omega) (by simp only [List.length_map, List.length_cons, List.length_nil]; omega) ?_
    intro v' H4 ho4 hs4
    have hrN := hr3.keep (Frm.ext (Ext.refl.new (o := .tip 3 1 true))) (by rw [new_m, if_neg (Nat.ne_of_lt hr3.hp)]; exact hr3.obj)
    have hr4 := hrN.app hs4 (ho3.ext Ext.refl.new) (by decide)
    have hF4 := hs4.frmn (ho3.ext Ext.refl.new) hF23.new
    simp -dsimp (disch := first | omega | (apply DrawYes.mk; decide +kernel)) only [go_sem, s0, s1, s6, s7]
    refine call (rris_ok (kd := 4) hr4.hp hr4.obj hk3) ?_
    rintro _ Hx ⟨rfl, hHx⟩
    rw [hHx]; clear hHx Hx
    simp -dsimp (disch := first | omega | (apply DrawYes.mk; decide +kernel)) only [go_sem, s0, s1, s6, s7]
    obtain ⟨k4, h3, h4, _⟩ := htk.at
    rw [hk2] at h3; cases h3
    rw [h4] at hat
    have hsl4 : ∀ y ∈ slid rowv3, y ∈ slid rowv ∨ H.next ≤ y := fun y hy => by
     rcases hsl3 y hy with h | h
     ·exact hsl2 y h
     ·exact .inr (Nat.le_trans hle2 h)
    refine ⟨(i3, R3, rowv3, e3, fr3, out ++ [n]), ⟨hr4, hF4, hsl4, by simp only; omega, by rw [List.map_append]; exact ho4, ⟨k3, hk3, rfl⟩, .inr (.inr ⟨he, hmu, ?_⟩)⟩, ?_⟩
    ·rcases hc3 with ⟨g1, _, g2⟩ | ⟨rfl, rfl, g3, g4, R1, s, rfl, rfl, g5⟩
     ·exact .inr ⟨g1, hat.bad hcl g2⟩
     ·exact .inl ⟨rfl, hfr, by simp only; omega, by simp only [List.length_append, List.length_cons, List.length_nil]; omega, g4, hat.next hcl g5⟩
    ·simp only
     split
     ·rename_i he3
      rcases hc3 with ⟨g1, _⟩ | ⟨_, _, g3, _⟩
      ·exact absurd he3 g1
      ·omega
     ·omega
   ·exact absurd rfl h
 ·have j2 : ((e2 : Int) == 0) = false := by simp; omega
  simp -dsimp (disch := first | omega | (apply DrawYes.mk; decide +kernel)) only [go_sem, s0, s1, s6, s7, hm2, j2]
  refine call (rrsign_ok hp2 hm2 hk2 (by omega)) ?_
  rintro _ H3 ⟨rfl, hF3, hm3⟩
  rw [if_neg (fun h => he2 h.1), if_neg he2, if_neg he2] at hm3
  simp -dsimp (disch := first | omega | (apply DrawYes.mk; decide +kernel)) only [go_sem, s0, s1, s6]
  have hbad : ∀ q, ((mustE [123] deep k ≠ 0 ∧ fr2 = k.pos ∧ e2 = mustE [123] deep k) ∨ (mustE [123] deep k = 0 ∧ BlkBad deep (all.drop (i + 1)) R fr2 e2)) → q = 0 → BlkPost lo H p id off all i R rowv fr deep k ov H3 := fun q h _ =>
   ⟨i2, R2, rowv2, e2, fr2, out, hr2.keep hF3 hm3, hF2.trans (hF3.wide), hsl2, by omega, ho2.frm hF3 hm2, .inl ⟨he2, hil2, h⟩⟩
  rcases hc2 with ⟨he, rfl, rfl, rfl, rfl, rfl, rfl, hFA⟩ | ⟨he, hmu, h1, h2⟩ | ⟨he, hmu, ⟨h, _⟩ | ⟨_, h⟩⟩
  ·exact ⟨fun _ => ⟨hr2.keep hF3 hm3, hFA.trans hF3, ho2.frm hF3 hm2⟩, fun h => absurd h he⟩
  ·exact ⟨fun h => absurd he h, hbad e (.inl ⟨hmu, h2, h1⟩)⟩
  ·exact absurd h he2
  ·exact ⟨fun h => absurd he h, hbad e (.inr ⟨hmu, h⟩)⟩
end Go.Proofs.YtcknfhhbijlobaaGreatDoor.D
