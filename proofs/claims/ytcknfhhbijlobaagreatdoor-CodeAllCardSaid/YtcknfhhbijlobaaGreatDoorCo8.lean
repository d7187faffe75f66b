import Derived.Test.YtcknfhhbijlobaaGreatDoorCo7
import Derived.Test.YtcknfhhbijlobaaGreatDoorR15c
namespace Go.Proofs.YtcknfhhbijlobaaGreatDoor.D
open Go
set_option linter.unusedVariables false
set_option linter.unusedSimpArgs false
set_option maxRecDepth 100000
def EV (labs : List (List UInt8 × Nat)) (rs : List Raw) : List DV := rs.map fun r => oprV (fixR labs r)
theorem EV_app (labs : List (List UInt8 × Nat)) (a b : List Raw) : EV labs (a ++ b) = EV labs a ++ EV labs b := by simp [EV]
theorem EV_len (labs : List (List UInt8 × Nat)) (a : List Raw) : (EV labs a).length = a.length := by simp [EV]
structure TopR (R : List Stm) (top : List Nat) (topv : DV) : Prop where
 v : IntsV top topv
 len : top.length < 1000000
 lt : ∀ c ∈ top, c < R.length ∧ c < R.length
 sz : szL R R.length top < 1000000
 there : ∀ s ∈ R, s.kind = 14 ∨ s.kind = 15 → ∃ q, toOf (labL R R.length top 0) s.s = some q
theorem app_one {lo : Nat} {H : DH} {v : DV} {es : List DV} {o : DV} {b : Nat} {K : DV → DH → Prop} {q : Later K} (hs : IsSn lo H 57 6 v es) (hl : es.length < 1000000)
  (k : ∀ v' H', IsSn lo H' 57 6 v' (es ++ [o]) → Same v H H' → K v' H') : WX (appendD cfg.T 51 51 v (.sl b 6 0 [o]) H) q :=
 appn und_51 size_57 bytes_57 und_51 zero_57 rfl rfl (by decide) hs rfl (by simp; omega) (by simp; omega) k
theorem app_all {lo : Nat} {H : DH} {v v2 : DV} {lo2 : Nat} {es es2 : List DV} {K : DV → DH → Prop} {q : Later K} (hs : IsSn lo H 57 6 v es) (hs2 : IsSn lo2 H 57 6 v2 es2) (hl : es.length + es2.length < 1000000)
  (k : ∀ v' H', IsSn lo H' 57 6 v' (es ++ es2) → Same v H H' → K v' H') : WX (appendD cfg.T 51 51 v v2 H) q := by
 obtain ⟨id2, off2, k2, rfl, _⟩ := hs2
 exact appn und_51 size_57 bytes_57 und_51 zero_57 rfl rfl (by decide) hs rfl (by omega) (by omega) k
theorem findTop_ok {R : List Stm} (hT : TreeR R) {top : List Nat} {H : DH} {md : Nat} {stmv topv : DV} {x : List UInt8} (hs : RowS R stmv) (ht : TopR R top topv) (hx : x.length < 1000000) :
  WC cfg 121 [.agg [.int .i64 md, stmv, topv], topv, .int .i64 0, .str x] H fun v H' => v = findV (toOf (labL R R.length top 0) x) ∧ Ext H H' := by
 exact @findAll_ok R hT R.length H md 0 stmv topv top topv x hs ht.v.facts.1 ht.v ht.len ht.lt (by omega) (fun _ => by have := ht.sz; omega) hx
structure OSt (H : DH) (b : Nat) (c27 c40 : List DV) (labs : List (List UInt8 × Nat)) (v : DV) (rs : List Raw) (Hc : DH) : Prop where
 ext : Ext H Hc
 q0 : Hc.m H.next = some (.cells 27 c27)
 q1 : Hc.m b = some (.cells 40 c40)
 lt : H.next < b ∧ b < Hc.next
 out : IsSn H.next Hc 57 6 v (EV labs rs)
theorem OSt.go {H : DH} {b : Nat} {c27 c40 : List DV} {labs : List (List UInt8 × Nat)} {v : DV} {rs : List Raw} {Hc Hd : DH} (h : OSt H b c27 c40 labs v rs Hc) (x : Ext Hc Hd) : OSt H b c27 c40 labs v rs Hd :=
 ⟨h.ext.trans x, x.get (by have := h.lt; omega) h.q0, x.get h.lt.2 h.q1, ⟨h.lt.1, Nat.lt_of_lt_of_le h.lt.2 x.le⟩, h.out.ext x⟩
theorem OSt.same {H : DH} {b : Nat} {c27 c40 : List DV} {labs : List (List UInt8 × Nat)} {v v' : DV} {rs rs' : List Raw} {Hc Hd : DH} (h : OSt H b c27 c40 labs v rs Hc) (x : Same v Hc Hd) (o : IsSn H.next Hd 57 6 v' (EV labs rs')) : OSt H b c27 c40 labs v' rs' Hd :=
 ⟨x.extn h.out h.ext, x.keepn h.out (by have := h.lt; omega) h.q0, x.keepn h.out h.lt.2 h.q1, ⟨h.lt.1, Nat.lt_of_lt_of_le h.lt.2 x.le⟩, o⟩
theorem OSt.app1 {H : DH} {b : Nat} {c27 c40 : List DV} {labs : List (List UInt8 × Nat)} {v : DV} {rs : List Raw} {Hc : DH} (h : OSt H b c27 c40 labs v rs Hc) {o : DV} {b2 : Nat} {K : DV → DH → Prop} {q : Later K} (r : Raw) (he : o = oprV (fixR labs r)) (hl : rs.length < 1000000)
  (k : ∀ v' H', OSt H b c27 c40 labs v' (rs ++ [r]) H' → K v' H') : WX (appendD cfg.T 51 51 v (.sl b2 6 0 [o]) Hc) q := by
 refine app_one h.out (by rw [EV_len]; exact hl) fun v' H' h1 h2 => k v' H' (h.same h2 ?_)
 rw [EV_app]
 subst he
 exact h1
theorem OSt.appA {H : DH} {b : Nat} {c27 c40 : List DV} {labs : List (List UInt8 × Nat)} {v v2 : DV} {rs rs2 : List Raw} {Hc : DH} {lo2 : Nat} (h : OSt H b c27 c40 labs v rs Hc) (h2 : IsSn lo2 Hc 57 6 v2 (EV labs rs2)) {K : DV → DH → Prop} {q : Later K} (hl : rs.length + rs2.length < 1000000)
  (k : ∀ v' H', OSt H b c27 c40 labs v' (rs ++ rs2) H' → K v' H') : WX (appendD cfg.T 51 51 v v2 Hc) q := by
 refine app_all h.out h2 (by rw [EV_len, EV_len]; exact hl) fun v' H' h3 h4 => k v' H' (h.same h4 ?_)
 rw [EV_app]
 exact h3
def OpsOk (R : List Stm) (top : List Nat) (f : Nat) : Prop := ∀ {H : DH} {md fr : Nat} {stmv topv : DV} {l : List Nat} {lv : DV}, RowS R stmv → TopR R top topv → IntsV l lv → l.length < 1000000 → (∀ c ∈ l, c < f ∧ c < R.length) → fr < 3000000 → (l ≠ [] → fr + szL R f l < 1000000) →
 WC cfg 98 [.agg [.int .i64 md, stmv, topv], lv, .int .i64 fr] H fun v H' => IsSn H.next H' 57 6 v (EV (labL R R.length top 0) (rawL R f l fr)) ∧ Ext H H'
theorem rops_ok {R : List Stm} (hT : TreeR R) {top : List Nat} {f : Nat} (hst : ∀ g, f = g + 1 → OpsOk R top g) : OpsOk R top f := by
 intro H md fr stmv topv l lv hs ht hl hl6 hc hfr hsz
 refine WC_of (show Has cfg 98 158 [.tmp 6] _ from ⟨by kernel_rfl, Tryz.f98, Tryz.func98, rfl, rfl, rfl, by kernel_rfl⟩) (by simp) ?_
 obtain ⟨e1, e2, e3⟩ := hl.facts
 obtain ⟨t1, t2, t3⟩ := ht.v.facts
 have hs1 := hs.one
 generalize hlabs : labL R R.length top 0 = labs
 simp -dsimp (disch := first | omega | (apply DrawYes.mk; decide +kernel)) only [go_sem, e3, hs1, t1]
 refine Y_loop (α := Nat) (fun k σ H' => k ≤ l.length ∧ Ext H H' ∧ H'.m H.next = some (.cells 27 [.int .i64 md, stmv, topv]) ∧ H.next < H'.next ∧ IsSn H.next H' 57 6 (σ 7) (EV labs (rawL R f (l.take k) fr)) ∧ σ 1 = lv ∧ σ 2 = .int .i64 fr ∧ σ 3 = .ptr H.next 0 ∧ σ 8 = .int .i64 k) (fun k => l.length - k) 0 ?_ ?_
 ·simp -dsimp (disch := first | omega | (apply DrawYes.mk; decide +kernel)) only [go_sem]
  refine ⟨Nat.zero_le _, Ext.refl.new.new, by simp, by omega, ?_⟩
  exact (IsSn.new (es := [])).lower (by simp only [new_next]; omega)
 rintro k σ H2 ⟨hk, hE, hm, hn, hout, s1, s2, s3, s8⟩
 have hol : (EV labs (rawL R f (l.take k) fr)).length = szL R f (l.take k) := by rw [EV_len, raw_sz hT.fin]
 by_cases hlt : k < l.length
 ·have i0 : (k : Int) < l.length := by omega
  have hg : l[k]? = some l[k] := List.getElem?_eq_getElem hlt
  have hin : l[k] ∈ l := List.getElem_mem _
  generalize l[k] = n at hg hin
  obtain ⟨hn1, hn2⟩ := hc n hin
  obtain ⟨g, rfl⟩ : ∃ g, f = g + 1 := ⟨f - 1, by omega⟩
  rcases hl with ⟨rfl, rfl⟩ | ⟨id, off, rfl⟩
  ·simp at hlt
  have hgv : (l.map intV)[k]? = some (.int .i64 n) := by rw [List.getElem?_map, hg]; rfl
  have hRn : R[n]? = some R[n] := List.getElem?_eq_getElem hn2
  have hmem := List.getElem_mem hn2
  have hstep := szL_step hT.fin (f := g) hg hRn
  have hle := szL_le (R := R) (f := g + 1) (l := l) (k + 1)
  have hrl : rawL R (g + 1) (l.take (k + 1)) fr = rawL R (g + 1) (l.take k) fr ++ rawS (rawL R g) R[n] (fr + szL R (g + 1) (l.take k)) := by
   rw [rawL_step hg, rawN, raw_sz hT.fin]; simp only [hRn]; rfl
  have hown := hT.own n _ hRn
  have hfs := hT.fin _ hmem
  have hlen := hT.len _ hmem
  have hth := ht.there _ hmem
  obtain ⟨sid, soff, es, vl, vm, rfl, hgd, hvl, hvm⟩ := hs.get hRn
  generalize R[n] = s at *
  obtain ⟨v1, v2, v3⟩ := hvl.facts
  obtain ⟨w1, w2, w3⟩ := hvm.facts
  have hl0 : l ≠ [] := by rintro rfl; simp at hlt
  have hsz' := hsz hl0
  have hcl : ∀ c ∈ s.l, c < g ∧ c < R.length := fun c hc => by have := hown c (by simp [hc]); omega
  have hcm : ∀ c ∈ s.m, c < g ∧ c < R.length := fun c hc => by have := hown c (by simp [hc]); omega
  generalize hcur : rawL R (g + 1) (l.take k) fr = cur at hout hol hrl
  have y0 : ¬ H.next = H2.next := by omega
  have y1 : ¬ H2.next = H.next := by omega
  have hlo : ∀ H', lenD cfg.T H' 51 (σ 7) = some (.int .i64 (szL R (g + 1) (l.take k))) := fun H' => by rw [hout.len und_51, hol]
  simp -dsimp (disch := first | omega | (apply DrawYes.mk; decide +kernel)) only [go_sem, s1, s2, s3, s8, i0, hgv, hm, e3, y0, y1]
  refine Y_float [(1, 9, 9), (5, 9, 9), (7, 9, 9)] (by decide +kernel) ?_
  have hS : OSt H H2.next [.int .i64 md, .sl sid 8 soff es, topv] [.int .i64 s.kind, .str s.s, .str s.t, .str s.u, .int .i64 s.n, .int .i64 s.at_, vl, vm] labs (σ 7) cur ((H2.new (.cells 40 [.int .i64 0, .str [], .str [], .str [], .int .i64 0, .int .i64 0, .nils, .nils])).set H2.next (.cells 40 [.int .i64 s.kind, .str s.s, .str s.t, .str s.u, .int .i64 s.n, .int .i64 s.at_, vl, vm])) :=
   ⟨hE.trans (Ext.refl.new.set (Nat.le_refl _)), by rw [set_ne y0, new_old hn]; exact hm, set_at, ⟨hn, Nat.lt_succ_self _⟩, hout.ext (Ext.refl.new.set (Nat.le_refl _))⟩
  have hcl2 : cur.length < 1000000 := by rw [EV_len] at hol; omega
  have hss : cur.length + szS R g s < 1000000 := by rw [EV_len] at hol; omega
  by_cases k13 : s.kind = 13
  ·have b0 : ((s.kind : Int) == 13) = true := by simp; omega
   simp -dsimp (disch := first | omega | (apply DrawYes.mk; decide +kernel)) only [go_sem, s1, s2, s3, s8, i0, hgv, hm, e3, y0, y1, hgd, v1, v2, w1, w2, b0, hlo]
   refine ⟨by omega, by omega, k + 1, ⟨by omega, hS.ext, by omega, ?_, by congr 1⟩, by omega⟩
   rw [hrl]
   have : rawS (rawL R g) s (fr + szL R (g + 1) (l.take k)) = [] := by simp [rawS, k13]
   rw [this, List.append_nil]
   exact hS.out
  have b13 : ((s.kind : Int) == 13) = false := by simp; omega
  by_cases k14 : s.kind = 14
  ·have b0 : ((s.kind : Int) == 14) = true := by simp; omega
   simp -dsimp (disch := first | omega | (apply DrawYes.mk; decide +kernel)) only [go_sem, s1, s2, s3, s8, i0, hgv, hm, e3, y0, y1, hgd, v1, v2, w1, w2, b13, b0, hlo]
   refine ⟨by omega, by omega, ?_⟩
   refine call (findTop_ok hT hs ht hlen.1) ?_
   rintro _ H4 ⟨rfl, hE4⟩
   obtain ⟨q, hq⟩ := hth (.inl k14)
   rw [hq]
   rw [hlabs] at hq
   simp only [findV]
   have hS4 := hS.go hE4
   simp -dsimp (disch := first | omega | (apply DrawYes.mk; decide +kernel)) only [go_sem]
   refine (hS4.go Ext.refl.new).app1 ⟨⟨18, [], [], [], 0, 0⟩, some s.s⟩ (by simp [oprV, fixR, hq]) hcl2 ?_
   intro v5 H5 hS5
   simp -dsimp (disch := first | omega | (apply DrawYes.mk; decide +kernel)) only [go_sem, s1, s2, s3, s8]
   refine ⟨k + 1, ⟨by omega, hS5.ext, hS5.q0, by have := hS5.lt; omega, ?_, by congr 1⟩, by omega⟩
   rw [hrl]
   have : rawS (rawL R g) s (fr + szL R (g + 1) (l.take k)) = [⟨⟨18, [], [], [], 0, 0⟩, some s.s⟩] := by simp [rawS, k14]
   rw [this]
   exact hS5.out
  have b14 : ((s.kind : Int) == 14) = false := by simp; omega
  by_cases k15 : s.kind = 15
  ·have b0 : ((s.kind : Int) == 15) = true := by simp; omega
   simp -dsimp (disch := first | omega | (apply DrawYes.mk; decide +kernel)) only [go_sem, s1, s2, s3, s8, i0, hgv, hm, e3, y0, y1, hgd, v1, v2, w1, w2, b13, b14, b0, hlo]
   refine ⟨by omega, by omega, ?_⟩
   refine Y_float [(2, 9, 10)] (by decide +kernel) ?_
   simp -dsimp (disch := first | omega | (apply DrawYes.mk; decide +kernel)) only [go_sem, s1, s2, s3, s8, hS.q0, hS.q1, v1, v2, w1, w2]
   refine call (findTop_ok hT hs ht hlen.1) ?_
   rintro _ H4 ⟨rfl, hE4⟩
   obtain ⟨q, hq⟩ := hth (.inr k15)
   rw [hq]
   rw [hlabs] at hq
   simp only [findV]
   have hS4 := hS.go hE4
   have y4 : ¬ H2.next = H4.next := by have := hS4.lt; omega
   simp -dsimp (disch := first | omega | (apply DrawYes.mk; decide +kernel)) only [go_sem, hS4.q1, v1, v2, w1, w2, y4]
   refine (hS4.go Ext.refl.new).app1 ⟨⟨s.kind, [], [], [], 0, 0⟩, some s.s⟩ (by simp [oprV, fixR, hq]) hcl2 ?_
   intro v5 H5 hS5
   simp -dsimp (disch := first | omega | (apply DrawYes.mk; decide +kernel)) only [go_sem, s1, s2, s3, s8, hS4.q1, hS5.q1, v1, v2, w1, w2, y4]
   refine ⟨k + 1, ⟨by omega, hS5.ext, hS5.q0, by have := hS5.lt; omega, ?_, by congr 1⟩, by omega⟩
   rw [hrl]
   have : rawS (rawL R g) s (fr + szL R (g + 1) (l.take k)) = [⟨⟨s.kind, [], [], [], 0, 0⟩, some s.s⟩] := by simp [rawS, k15]
   rw [this]
   exact hS5.out
  have b15 : ((s.kind : Int) == 15) = false := by simp; omega
  by_cases k6 : s.kind = 6
  ·have b0 : ((s.kind : Int) == 6) = true := by simp; omega
   simp -dsimp (disch := first | omega | (apply DrawYes.mk; decide +kernel)) only [go_sem, s1, s2, s3, s8, i0, hgv, hm, e3, y0, y1, hgd, v1, v2, w1, w2, b13, b14, b15, b0, hlo]
   refine ⟨by omega, by omega, ?_⟩
   refine Y_float [(2, 11, 13), (4, 11, 13)] (by decide +kernel) ?_
   have hsl : szL R g s.l < 1000000 := by
    unfold szS at hss; rw [if_neg k13, if_pos (.inr k6)] at hss; omega
   simp -dsimp (disch := first | omega | (apply DrawYes.mk; decide +kernel)) only [go_sem, s1, s2, s3, s8, hS.q0, hS.q1, v1, v2, w1, w2]
   refine call (szAll_ok hT g hs ht.v.facts.1 hvl hlen.2.1 hcl hsl) ?_
   rintro _ H4 ⟨rfl, hE4⟩
   have hS4 := hS.go hE4
   have y4 : ¬ H2.next = H4.next := by have := hS4.lt; omega
   simp -dsimp (disch := first | omega | (apply DrawYes.mk; decide +kernel)) only [go_sem, hS4.q1, v1, v2, w1, w2, y4]
   have hraw : rawS (rawL R g) s (fr + szL R (g + 1) (l.take k)) = ⟨⟨s.kind, [], [], [], s.n, fr + szL R (g + 1) (l.take k) + 1 + szL R g s.l⟩, none⟩ :: rawL R g s.l (fr + szL R (g + 1) (l.take k) + 1) := by
    simp [rawS, k6, raw_sz hT.fin]
   have hszS : szS R g s = 1 + szL R g s.l := by unfold szS; rw [if_neg k13, if_pos (.inr k6), if_pos (hfs.2.2.2 (by omega)), Nat.add_zero]
   refine (hS4.go Ext.refl.new).app1 ⟨⟨s.kind, [], [], [], s.n, fr + szL R (g + 1) (l.take k) + 1 + szL R g s.l⟩, none⟩ (by simp [oprV, fixR]) hcl2 ?_
   intro v5 H5 hS5
   simp -dsimp (disch := first | omega | (apply DrawYes.mk; decide +kernel)) only [go_sem, s1, s2, s3, s8, hS4.q1, hS5.q1, hS5.q0, v1, v2, w1, w2, y4]
   have e1 : (fr : Int) + (szL R (g + 1) (l.take k) : Nat) + 1 = ((fr + szL R (g + 1) (l.take k) + 1 : Nat) : Int) := by omega
   rw [e1]
   refine call (hst g rfl hs ht hvl hlen.2.1 hcl (by omega) (fun _ => by omega)) ?_
   rintro v6 H6 ⟨hv6, hE6⟩
   rw [hlabs] at hv6
   have hS6 := hS5.go hE6
   simp -dsimp (disch := first | omega | (apply DrawYes.mk; decide +kernel)) only [go_sem]
   refine hS6.appA hv6 (by simp [raw_sz hT.fin]; omega) ?_
   intro v7 H7 hS7
   simp -dsimp (disch := first | omega | (apply DrawYes.mk; decide +kernel)) only [go_sem, s1, s2, s3, s8]
   refine ⟨k + 1, ⟨by omega, hS7.ext, hS7.q0, by have := hS7.lt; omega, ?_, by congr 1⟩, by omega⟩
   rw [hrl, hraw]
   have := hS7.out
   rw [List.append_assoc] at this
   exact this
  have b6 : ((s.kind : Int) == 6) = false := by simp; omega
  by_cases k5 : s.kind = 5
  ·have b0 : ((s.kind : Int) == 5) = true := by simp; omega
   simp -dsimp (disch := first | omega | (apply DrawYes.mk; decide +kernel)) only [go_sem, s1, s2, s3, s8, i0, hgv, hm, e3, y0, y1, hgd, v1, v2, w1, w2, b13, b14, b15, b6, b0, hlo]
   refine ⟨by omega, by omega, ?_⟩
   have hsl : szL R g s.l < 1000000 := by
    unfold szS at hss; rw [if_neg k13, if_pos (.inl k5)] at hss; omega
   refine call (szAll_ok hT g hs ht.v.facts.1 hvl hlen.2.1 hcl hsl) ?_
   rintro _ H4 ⟨rfl, hE4⟩
   have hS4 := hS.go hE4
   by_cases hm0 : s.m = []
   ·have i1 : ¬ (0 : Int) < s.m.length := by simp [hm0]
    have hraw : rawS (rawL R g) s (fr + szL R (g + 1) (l.take k)) = ⟨⟨s.kind, s.s, s.t, [], 0, fr + szL R (g + 1) (l.take k) + 1 + szL R g s.l⟩, none⟩ :: rawL R g s.l (fr + szL R (g + 1) (l.take k) + 1) := by
     simp [rawS, k5, hm0, raw_sz hT.fin]
    have hszS : szS R g s = 1 + szL R g s.l := by unfold szS; rw [if_neg k13, if_pos (.inl k5), if_pos hm0, Nat.add_zero]
    simp -dsimp (disch := first | omega | (apply DrawYes.mk; decide +kernel)) only [go_sem, s1, s2, s3, s8, hS4.q1, hS4.q0, w3, i1, v1, v2, w1, w2]
    refine (hS4.go Ext.refl.new).app1 ⟨⟨s.kind, s.s, s.t, [], 0, fr + szL R (g + 1) (l.take k) + 1 + szL R g s.l⟩, none⟩ (by simp [oprV, fixR]) hcl2 ?_
    intro v5 H5 hS5
    simp -dsimp (disch := first | omega | (apply DrawYes.mk; decide +kernel)) only [go_sem, s1, s2, s3, s8, hS5.q1, hS5.q0, v1, v2, w1, w2]
    have e1 : (fr : Int) + (szL R (g + 1) (l.take k) : Nat) + 1 = ((fr + szL R (g + 1) (l.take k) + 1 : Nat) : Int) := by omega
    rw [e1]
    refine call (hst g rfl hs ht hvl hlen.2.1 hcl (by omega) (fun _ => by omega)) ?_
    rintro v6 H6 ⟨hv6, hE6⟩
    rw [hlabs] at hv6
    have hS6 := hS5.go hE6
    simp -dsimp (disch := first | omega | (apply DrawYes.mk; decide +kernel)) only [go_sem]
    refine hS6.appA hv6 (by simp [raw_sz hT.fin]; omega) ?_
    intro v7 H7 hS7
    simp -dsimp (disch := first | omega | (apply DrawYes.mk; decide +kernel)) only [go_sem, s1, s2, s3, s8, hS7.q1, w3, i1]
    refine ⟨k + 1, ⟨by omega, hS7.ext, hS7.q0, by have := hS7.lt; omega, ?_, by congr 1⟩, by omega⟩
    rw [hrl, hraw]
    have := hS7.out
    rw [List.append_assoc] at this
    exact this
   ·have hmp : 0 < s.m.length := List.length_pos_iff.2 hm0
    have i1 : (0 : Int) < s.m.length := by omega
    have hraw : rawS (rawL R g) s (fr + szL R (g + 1) (l.take k)) = ⟨⟨s.kind, s.s, s.t, [], 0, fr + szL R (g + 1) (l.take k) + 1 + szL R g s.l + 1⟩, none⟩ :: (rawL R g s.l (fr + szL R (g + 1) (l.take k) + 1) ++ ⟨⟨18, [], [], [], 0, fr + szL R (g + 1) (l.take k) + 1 + szL R g s.l + 1 + szL R g s.m⟩, none⟩ :: rawL R g s.m (fr + szL R (g + 1) (l.take k) + 1 + szL R g s.l + 1)) := by
     have e9 : fr + szL R (g + 1) (l.take k) + 2 + szL R g s.l = fr + szL R (g + 1) (l.take k) + 1 + szL R g s.l + 1 := by omega
     simp [rawS, k5, hm0, raw_sz hT.fin, e9]
    have hszS : szS R g s = 1 + szL R g s.l + (1 + szL R g s.m) := by unfold szS; rw [if_neg k13, if_pos (.inl k5), if_neg hm0]
    simp -dsimp (disch := first | omega | (apply DrawYes.mk; decide +kernel)) only [go_sem, s1, s2, s3, s8, hS4.q1, hS4.q0, w3, i1, v1, v2, w1, w2]
    refine (hS4.go Ext.refl.new).app1 ⟨⟨s.kind, s.s, s.t, [], 0, fr + szL R (g + 1) (l.take k) + 1 + szL R g s.l + 1⟩, none⟩ (by simp [oprV, fixR]) hcl2 ?_
    intro v5 H5 hS5
    simp -dsimp (disch := first | omega | (apply DrawYes.mk; decide +kernel)) only [go_sem, s1, s2, s3, s8, hS5.q1, hS5.q0, v1, v2, w1, w2]
    have e1 : (fr : Int) + (szL R (g + 1) (l.take k) : Nat) + 1 = ((fr + szL R (g + 1) (l.take k) + 1 : Nat) : Int) := by omega
    rw [e1]
    refine call (hst g rfl hs ht hvl hlen.2.1 hcl (by omega) (fun _ => by omega)) ?_
    rintro v6 H6 ⟨hv6, hE6⟩
    rw [hlabs] at hv6
    have hS6 := hS5.go hE6
    simp -dsimp (disch := first | omega | (apply DrawYes.mk; decide +kernel)) only [go_sem]
    refine hS6.appA hv6 (by simp [raw_sz hT.fin]; omega) ?_
    intro v7 H7 hS7
    simp -dsimp (disch := first | omega | (apply DrawYes.mk; decide +kernel)) only [go_sem, s1, s2, s3, s8, hS7.q1, hS7.q0, w3, i1, v1, v2, w1, w2]
    refine call (szAll_ok hT g hs ht.v.facts.1 hvm hlen.2.2 hcm (by omega)) ?_
    rintro _ H8 ⟨rfl, hE8⟩
    have hS8 := hS7.go hE8
    simp -dsimp (disch := first | omega | (apply DrawYes.mk; decide +kernel)) only [go_sem]
    refine (hS8.go Ext.refl.new).app1 ⟨⟨18, [], [], [], 0, fr + szL R (g + 1) (l.take k) + 1 + szL R g s.l + 1 + szL R g s.m⟩, none⟩ (by simp [oprV, fixR]) (by simp [raw_sz hT.fin]; omega) ?_
    intro v9 H9 hS9
    simp -dsimp (disch := first | omega | (apply DrawYes.mk; decide +kernel)) only [go_sem, s1, s2, s3, s8, hS9.q1, hS9.q0, v1, v2, w1, w2]
    have e2 : ((fr + szL R (g + 1) (l.take k) + 1 : Nat) : Int) + (szL R g s.l : Nat) + 1 = ((fr + szL R (g + 1) (l.take k) + 1 + szL R g s.l + 1 : Nat) : Int) := by omega
    rw [e2]
    refine call (hst g rfl hs ht hvm hlen.2.2 hcm (by omega) (fun _ => by omega)) ?_
    rintro v10 H10 ⟨hv10, hE10⟩
    rw [hlabs] at hv10
    have hS10 := hS9.go hE10
    simp -dsimp (disch := first | omega | (apply DrawYes.mk; decide +kernel)) only [go_sem]
    refine hS10.appA hv10 (by simp [raw_sz hT.fin]; omega) ?_
    intro v11 H11 hS11
    simp -dsimp (disch := first | omega | (apply DrawYes.mk; decide +kernel)) only [go_sem, s1, s2, s3, s8]
    refine ⟨k + 1, ⟨by omega, hS11.ext, hS11.q0, by have := hS11.lt; omega, ?_, by congr 1⟩, by omega⟩
    rw [hrl, hraw]
    have := hS11.out
    simp only [List.append_assoc, List.singleton_append] at this
    exact this
  have b5 : ((s.kind : Int) == 5) = false := by simp; omega
  simp -dsimp (disch := first | omega | (apply DrawYes.mk; decide +kernel)) only [go_sem, s1, s2, s3, s8, i0, hgv, hm, e3, y0, y1, hgd, v1, v2, w1, w2, b13, b14, b15, b6, b5, hlo]
  refine ⟨by omega, by omega, ?_⟩
  refine (hS.go Ext.refl.new).app1 ⟨⟨s.kind, s.s, s.t, s.u, s.n, 0⟩, none⟩ (by simp [oprV, fixR]) hcl2 ?_
  intro v5 H5 hS5
  simp -dsimp (disch := first | omega | (apply DrawYes.mk; decide +kernel)) only [go_sem, s1, s2, s3, s8]
  refine ⟨k + 1, ⟨by omega, hS5.ext, hS5.q0, by have := hS5.lt; omega, ?_, by congr 1⟩, by omega⟩
  rw [hrl]
  have : rawS (rawL R g) s (fr + szL R (g + 1) (l.take k)) = [⟨⟨s.kind, s.s, s.t, s.u, s.n, 0⟩, none⟩] := by simp [rawS, k5, k6, k13, k14, k15]
  rw [this]
  exact hS5.out
 ·have hkk : k = l.length := by omega
  have i0 : ¬ (k : Int) < l.length := by omega
  subst hkk
  rw [List.take_length] at hout
  simp -dsimp (disch := first | omega | (apply DrawYes.mk; decide +kernel)) only [go_sem, s1, s2, s3, s8, i0, e3]
  exact ⟨hout, hE⟩
theorem opsAll_ok {R : List Stm} (hT : TreeR R) {top : List Nat} : ∀ f, OpsOk R top f
 | 0 => rops_ok hT fun g h => by cases h
 | f + 1 => rops_ok hT fun g h => by
  obtain rfl : f = g := by omega
  exact opsAll_ok hT f
end Go.Proofs.YtcknfhhbijlobaaGreatDoor.D
