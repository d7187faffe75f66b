import Derived.Test.YtcknfhhbijlobaaGreatDoorME
namespace Go.Proofs.YtcknfhhbijlobaaGreatDoor.D
open Go
set_option linter.unusedVariables false
set_option linter.unusedSimpArgs false
set_option maxRecDepth 100000
def shapesL : List (List UInt8) := [[],
 [108, 101, 116, 32, 110, 32, 61, 32, 116, 32, 59],
 [103, 114, 101, 101, 116, 32, 116, 32, 59],
 [115, 101, 110, 100, 32, 116, 32, 116, 32, 59],
 [99, 97, 112, 115, 32, 116, 32, 116, 32, 59],
 [105, 102, 32, 119, 32, 116, 32, 123],
 [112, 105, 112, 101, 32, 105, 32, 123],
 [97, 117, 116, 104, 32, 110, 32, 116, 32, 116, 32, 59],
 [100, 97, 116, 97, 32, 116, 32, 116, 32, 59],
 [98, 111, 100, 121, 32, 110, 32, 116, 32, 116, 32, 59],
 [103, 101, 116, 32, 110, 32, 116, 32, 59],
 [112, 117, 116, 32, 116, 32, 116, 32, 59],
 [116, 105, 109, 101, 111, 117, 116, 32, 105, 32, 59],
 [108, 97, 98, 101, 108, 32, 110, 32, 59],
 [103, 111, 116, 111, 32, 110, 32, 59],
 [111, 110, 32, 110, 32, 59],
 [112, 114, 105, 110, 116, 32, 116, 32, 59],
 [115, 116, 111, 112, 32, 59]]
def shapeL (k : Nat) : List UInt8 := shapesL.getD k []
def headsL : List (List UInt8) := [[],
 [108, 101, 116],
 [103, 114, 101, 101, 116],
 [115, 101, 110, 100],
 [99, 97, 112, 115],
 [105, 102],
 [112, 105, 112, 101],
 [97, 117, 116, 104],
 [100, 97, 116, 97],
 [98, 111, 100, 121],
 [103, 101, 116],
 [112, 117, 116],
 [116, 105, 109, 101, 111, 117, 116],
 [108, 97, 98, 101, 108],
 [103, 111, 116, 111],
 [111, 110],
 [112, 114, 105, 110, 116],
 [115, 116, 111, 112]]
def partsL : List (List (List UInt8)) := [[],
 [[110], [61], [116], [59]],
 [[116], [59]],
 [[116], [116], [59]],
 [[116], [116], [59]],
 [[119], [116], [123]],
 [[105], [123]],
 [[110], [116], [116], [59]],
 [[116], [116], [59]],
 [[110], [116], [116], [59]],
 [[110], [116], [59]],
 [[116], [116], [59]],
 [[105], [59]],
 [[110], [59]],
 [[110], [59]],
 [[110], [59]],
 [[116], [59]],
 [[59]]]
theorem shapes_words : ∀ k, k < 18 → 0 < k → wordsB (shapeL k) = headsL.getD k [] :: partsL.getD k [] := by decide
def kindT (t : List UInt8) : Option Nat := headsL.findIdx? fun h => !h.isEmpty && h == t
structure Fr where
 s : Stm
 other : Bool
structure PSt where
 ts : List Tok
 R : List Stm
 top : List Nat
 os : List Fr
inductive PRes where
 | ok (R : List Stm) (top : List Nat)
 | bad (pos e : Nat)
inductive WRes where
 | bad (pos e : Nat)
 | whole (s : Stm) (ts : List Tok)
 | opens (s : Stm) (ts : List Tok)
def wordsW : List (List UInt8) := [[99, 97, 112], [99, 111, 100, 101], [116, 101, 120, 116]]
def mustE (part : List UInt8) (nopen : Nat) (k : Tok) : Nat :=
 if part = [110] then (if k.kind = 1 then 0 else 20)
 else if part = [119] then (if k.kind = 1 ∧ k.text ∈ wordsW then 0 else 20)
 else if part = [116] then (if k.kind = 3 then 0 else 20)
 else if part = [105] then (if k.kind = 2 then 0 else 20)
 else if part = [123] ∧ 8 ≤ nopen ∧ k.kind = 4 ∧ k.text = part then 21
 else if k.kind = 4 ∧ k.text = part then 0 else 20
def isText (part : List UInt8) : Prop := part = [110] ∨ part = [119] ∨ part = [116]
instance (part : List UInt8) : Decidable (isText part) := by unfold isText; exact inferInstance
def putP (part : List UInt8) (to : Nat) (s : Stm) (w : List UInt8) : Stm :=
 if isText part then (match to with | 0 => { s with s := w } | 1 => { s with t := w } | _ => { s with u := w })
 else if part = [105] then { s with n := numD w } else s
def wordsP : List (List UInt8) → Nat → Stm → Nat → List Tok → WRes
 | [], _, s, _, ts => .whole s ts
 | _ :: _, _, _, _, [] => .bad 0 0
 | p :: r, no, s, to, k :: ts =>
  if mustE p no k ≠ 0 then .bad k.pos (mustE p no k)
  else if p = [123] then .opens s ts
  else wordsP r no (putP p to s k.text) (if isText p then to + 1 else to) ts
def addOs (n : Nat) : List Fr → List Fr
 | [] => []
 | [f] => [if f.other then { f with s := { f.s with m := f.s.m ++ [n] } } else { f with s := { f.s with l := f.s.l ++ [n] } }]
 | f :: r => f :: addOs n r
def wholeP (st : PSt) (s : Stm) : PSt :=
 { st with R := st.R ++ [s], top := if st.os.isEmpty then st.top ++ [st.R.length] else st.top, os := addOs st.R.length st.os }
def oneP (st : PSt) (k : Tok) (ts : List Tok) : PSt ⊕ PRes :=
 match (if k.kind = 1 then kindT k.text else none) with
 | none => .inr (.bad k.pos 20)
 | some kd => match wordsP (partsL.getD kd []) st.os.length ⟨kd, [], [], [], 0, k.pos, [], []⟩ (if kd = 2 then 1 else 0) ts with
  | .bad p e => .inr (.bad p e)
  | .whole s ts' => .inl (wholeP { st with ts := ts' } s)
  | .opens s ts' => .inl { st with ts := ts', os := st.os ++ [⟨s, false⟩] }
def elseW : List UInt8 := [101, 108, 115, 101]
def closeP (st : PSt) (f : Fr) (ts : List Tok) : PSt ⊕ PRes :=
 match ts with
 | k :: k2 :: ts2 =>
  if f.s.kind = 5 ∧ f.other = false ∧ k.kind = 1 ∧ k.text = elseW then
   (if mustE [123] (st.os.length - 1) k2 ≠ 0 then .inr (.bad k2.pos (mustE [123] (st.os.length - 1) k2))
    else .inl { st with ts := ts2, os := st.os.dropLast ++ [{ f with other := true }] })
  else .inl (wholeP { st with ts := ts, os := st.os.dropLast } f.s)
 | ts => .inl (wholeP { st with ts := ts, os := st.os.dropLast } f.s)
def stepP (st : PSt) : PSt ⊕ PRes :=
 match st.ts with
 | [] => .inr (.bad 0 0)
 | k :: ts =>
  match st.os.getLast? with
  | none => if k.kind = 0 then .inr (.ok st.R st.top) else oneP st k ts
  | some f => if k.kind = 4 ∧ k.text = [125] then closeP st f ts else oneP st k ts
def goP : Nat → PSt → PRes
 | 0, _ => .bad 0 0
 | n + 1, st => match stepP st with
  | .inl st' => goP n st'
  | .inr r => r
def runP (st : PSt) : PRes := goP (st.ts.length + 1) st
def modeW : List (List UInt8) := [[115, 109, 116, 112], [112, 111, 112, 51], [102, 116, 112]]
def modeL (s : List UInt8) : Nat := if s = [115, 109, 116, 112] then 1 else if s = [112, 111, 112, 51] then 2 else if s = [102, 116, 112] then 3 else 0
end Go.Proofs.YtcknfhhbijlobaaGreatDoor.D
namespace Go.Proofs.YtcknfhhbijlobaaGreatDoor.D
open Go
set_option linter.unusedVariables false
set_option linter.unusedSimpArgs false
set_option maxRecDepth 100000
theorem shapes_ok {H : DH} : WC cfg 54 [] H fun v H' => v = .sl H.next 1 0 (shapesL.map DV.str) ∧ H' = H.new (.tip 9 18 true) := by
 refine WC_of (show Has cfg 54 2 [.tmp 0] _ from ⟨by kernel_rfl, Tryz.f54, Tryz.func54, rfl, rfl, rfl, by kernel_rfl⟩) (by simp) ?_
 simp -dsimp (disch := first | omega | (apply DrawYes.mk; decide +kernel)) only [go_sem]
 simp [shapesL]
theorem shapes_eq {H : DH} {K : DV → DH → Prop} {b : Later K} : WK cfg 54 [] H b = K (.sl H.next 1 0 (shapesL.map DV.str)) (H.new (.tip 9 18 true)) := by
 obtain ⟨v, H', h1, rfl, rfl⟩ := shapes_ok (H := H)
 apply propext
 unfold WK WC
 constructor
 ·rintro ⟨v, H'', h2, h3⟩
  rw [h1] at h2
  cases h2; exact h3
 ·intro h; exact ⟨_, _, h1, h⟩
theorem shape_ok {k : Nat} (hk : k < 18) {H : DH} : WC cfg 21 [.int .i64 k] H fun v H' => v = .str (shapeL k) ∧ Ext H H' := by
 refine WC_of (show Has cfg 21 17 [.tmp 2] _ from ⟨by kernel_rfl, Tryz.f21, Tryz.func21, rfl, rfl, rfl, by kernel_rfl⟩) (by simp) ?_
 have h1 : (shapesL.map DV.str)[k]? = some (.str (shapeL k)) := by
  have : k < shapesL.length := hk
  rw [List.getElem?_map, List.getElem?_eq_getElem this]
  simp [shapeL, List.getD, this]
 have h2 : ¬ (k : Int) < 0 := by omega
 have h3 : ¬ (18 : Int) ≤ k := by omega
 have h4 : (shapesL.map DV.str).length = 18 := rfl
 simp -dsimp (disch := first | omega | (apply DrawYes.mk; decide +kernel)) only [go_sem, shapes_eq, h1, h2, h3, h4]
 exact ⟨by omega, Ext.refl.new⟩
def idxS (s : List UInt8) (l : List (List UInt8)) : Int := match l.findIdx? (· == s) with | some i => i | none => -1
theorem findIdx_at {α : Type} {p : α → Bool} : ∀ {l : List α} {k : Nat} {x : α}, l[k]? = some x → p x = true → (∀ y ∈ l.take k, p y = false) → l.findIdx? p = some k
 | [], k, x, h, _, _ => by simp at h
 | a :: l, 0, x, h, hp, _ => by simp at h; subst h; simp [List.findIdx?_cons, hp]
 | a :: l, k + 1, x, h, hp, hn => by
  simp only [List.take_succ_cons, List.mem_cons, forall_eq_or_imp] at hn
  simp only [List.getElem?_cons_succ] at h
  rw [List.findIdx?_cons, hn.1]
  simp [findIdx_at h hp hn.2]
theorem findIdx_no {α : Type} {p : α → Bool} {l : List α} (h : ∀ y ∈ l, p y = false) : l.findIdx? p = none := by
 rw [List.findIdx?_eq_none_iff]; exact fun x hx => h x hx
theorem idxS_at {s : List UInt8} {l : List (List UInt8)} {k : Nat} (h : l[k]? = some s) (hn : ∀ y ∈ l.take k, y ≠ s) : idxS s l = k := by
 unfold idxS
 rw [findIdx_at h (by simp) (fun y hy => by simpa using hn y hy)]
theorem idxS_no {s : List UInt8} {l : List (List UInt8)} (hn : s ∉ l) : idxS s l = -1 := by
 unfold idxS
 rw [findIdx_no fun y hy => by simp; rintro rfl; exact hn hy]
theorem idxS_ge {s : List UInt8} {l : List (List UInt8)} : 0 ≤ idxS s l ↔ s ∈ l := by
 unfold idxS
 cases h : l.findIdx? (· == s) with
 | none =>
  simp only
  rw [List.findIdx?_eq_none_iff] at h
  constructor
  ·intro h'; omega
  ·intro hm; have := h s hm; simp at this
 | some i =>
  simp only
  have := List.findIdx?_eq_some_iff_getElem.1 h
  obtain ⟨hi, h1, _⟩ := this
  constructor
  ·intro _
   have : l[i] = s := by simpa using h1
   exact this ▸ List.getElem_mem hi
  ·intro _; omega
theorem sIndex_ok {id off : Nat} {l : List (List UInt8)} {s : List UInt8} {H : DH} (hl : l.length < 1000000000) : WC cfg 53 [.sl id 1 off (l.map DV.str), .str s] H fun v H' => v = .int .i64 (idxS s l) ∧ H' = H := by
 refine WC_of (show Has cfg 53 19 [.tmp 4] _ from ⟨by kernel_rfl, Tryz.f53, Tryz.func53, rfl, rfl, rfl, by kernel_rfl⟩) (by simp) ?_
 simp -dsimp (disch := first | omega | (apply DrawYes.mk; decide +kernel)) only [go_sem, List.length_map]
 refine Y_loop (α := Nat) (fun k σ H' => H' = H ∧ k ≤ l.length ∧ (∀ y ∈ l.take k, y ≠ s) ∧ σ 0 = .sl id 1 off (l.map DV.str) ∧ σ 1 = .str s ∧ σ 6 = .sl id 1 off (l.map DV.str) ∧ σ 7 = .int .i64 l.length ∧ σ 8 = .int .i64 k) (fun k => l.length - k) 0 ?_ ?_
 ·simp -dsimp (disch := first | omega | (apply DrawYes.mk; decide +kernel)) only [go_sem, List.length_map]
  simp
 rintro k σ H1 ⟨rfl, hk, hn, g0, g1, g6, g7, g8⟩
 by_cases hlt : k < l.length
 ·have k0 : (k : Int) < l.length := by omega
  have hg : l[k]? = some l[k] := List.getElem?_eq_getElem hlt
  have hgm : (l.map DV.str)[k]? = some (.str l[k]) := by rw [List.getElem?_map, hg]; rfl
  generalize l[k] = x at hg hgm
  simp -dsimp (disch := first | omega | (apply DrawYes.mk; decide +kernel)) only [go_sem, g0, g1, g6, g7, g8, k0, hgm]
  refine ⟨by omega, fun h => ?_, fun h => ⟨k + 1, ⟨by omega, ?_, rfl⟩, by omega⟩⟩
  ·subst h
   rw [idxS_at hg hn]
  ·rw [List.take_add_one, hg]
   intro y hy
   rcases List.mem_append.1 hy with hy | hy
   ·exact hn y hy
   ·simp at hy; subst hy; exact fun e => h e.symm
 ·have k0 : ¬ (k : Int) < l.length := by omega
  simp -dsimp (disch := first | omega | (apply DrawYes.mk; decide +kernel)) only [go_sem, g0, g1, g6, g7, g8, k0]
  rw [List.take_of_length_le (by omega)] at hn
  rw [idxS_no fun h => hn s h rfl]
theorem sContains_ok {v : DV} {l : List (List UInt8)} {s : List UInt8} {H : DH} (hl : l.length < 1000000000) (hv : ∃ id off, v = .sl id 1 off (l.map DV.str)) : WC cfg 72 [v, .str s] H fun v H' => v = .bool (decide (s ∈ l)) ∧ H' = H := by
 obtain ⟨id, off, rfl⟩ := hv
 refine WC_of (show Has cfg 72 9 [.tmp 4] _ from ⟨by kernel_rfl, Tryz.f72, Tryz.func72, rfl, rfl, rfl, by kernel_rfl⟩) (by simp) ?_
 simp -dsimp (disch := first | omega | (apply DrawYes.mk; decide +kernel)) only [go_sem]
 refine call (sIndex_ok hl) ?_
 rintro _ _ ⟨rfl, rfl⟩
 simp -dsimp (disch := first | omega | (apply DrawYes.mk; decide +kernel)) only [go_sem]
 rw [show decide (0 ≤ idxS s l) = decide (s ∈ l) from by simp [idxS_ge]]
theorem mode_ok {s : List UInt8} {H : DH} : WC cfg 19 [.str s] H fun v H' => v = .int .i64 (modeL s) ∧ Ext H H' := by
 refine WC_of (show Has cfg 19 9 [.tmp 2] _ from ⟨by kernel_rfl, Tryz.f19, Tryz.func19, rfl, rfl, rfl, by kernel_rfl⟩) (by simp) ?_
 simp -dsimp (disch := first | omega | (apply DrawYes.mk; decide +kernel)) only [go_sem]
 refine ⟨fun h => ?_, fun h => ?_⟩
 ·subst h; exact ⟨rfl, Ext.refl⟩
 refine call (sIndex_ok (l := [[], [115, 109, 116, 112], [112, 111, 112, 51], [102, 116, 112]]) (by simp)) ?_
 rintro _ _ ⟨rfl, rfl⟩
 have hi : (if idxS s [[], [115, 109, 116, 112], [112, 111, 112, 51], [102, 116, 112]] < 0 then 0 else idxS s [[], [115, 109, 116, 112], [112, 111, 112, 51], [102, 116, 112]]) = (modeL s : Int) := by
  have h0 : (([] : List UInt8) == s) = false := beq_eq_false_iff_ne.2 fun e => h e.symm
  unfold idxS modeL
  simp only [List.findIdx?_cons, h0, List.findIdx?_nil]
  by_cases h1 : s = [115, 109, 116, 112]
  ·subst h1; rfl
  by_cases h2 : s = [112, 111, 112, 51]
  ·subst h2; rfl
  by_cases h3 : s = [102, 116, 112]
  ·subst h3; rfl
  have e1 : (([115, 109, 116, 112] : List UInt8) == s) = false := beq_eq_false_iff_ne.2 fun e => h1 e.symm
  have e2 : (([112, 111, 112, 51] : List UInt8) == s) = false := beq_eq_false_iff_ne.2 fun e => h2 e.symm
  have e3 : (([102, 116, 112] : List UInt8) == s) = false := beq_eq_false_iff_ne.2 fun e => h3 e.symm
  rw [e1, e2, e3, if_neg h1, if_neg h2, if_neg h3]
  rfl
 simp -dsimp (disch := first | omega | (apply DrawYes.mk; decide +kernel)) only [go_sem]
 exact ⟨by rw [hi], Ext.refl.new⟩
structure Frm (S : List Nat) (H H' : DH) : Prop where
 le : H.next ≤ H'.next
 same : ∀ b, b < H.next → b ∉ S → H'.m b = H.m b
theorem Frm.refl {S : List Nat} {H : DH} : Frm S H H := ⟨Nat.le_refl _, fun _ _ _ => rfl⟩
theorem Frm.trans {S : List Nat} {A B C : DH} (x : Frm S A B) (y : Frm S B C) : Frm S A C := ⟨Nat.le_trans x.le y.le, fun b hb hs => (y.same b (Nat.lt_of_lt_of_le hb x.le) hs).trans (x.same b hb hs)⟩
theorem Frm.ext {S : List Nat} {A B : DH} (x : Ext A B) : Frm S A B := ⟨x.le, fun b hb _ => x.same b hb⟩
theorem Frm.new {S : List Nat} {A B : DH} {o : DObj} (x : Frm S A B) : Frm S A (B.new o) := x.trans (Frm.ext Ext.refl.new)
theorem Frm.set {S : List Nat} {A B : DH} {o : DObj} {b : Nat} (x : Frm S A B) (hb : b ∈ S ∨ A.next ≤ b) : Frm S A (B.set b o) := by
 refine ⟨x.le, fun i hi hs => ?_⟩
 rw [set_m, if_neg]
 ·exact x.same i hi hs
 ·rintro rfl
  rcases hb with h | h
  ·exact hs h
  ·omega
theorem Frm.mov {S : List Nat} {A B : DH} {o : DObj} {b : Nat} (x : Frm S A B) (hb : b ∈ S ∨ A.next ≤ b) : Frm S A (B.mov b o) := by
 refine ⟨Nat.le_succ_of_le x.le, fun i hi hs => ?_⟩
 rw [mov_m, if_neg (by have := x.le; omega), if_neg]
 ·exact x.same i hi hs
 ·rintro rfl
  rcases hb with h | h
  ·exact hs h
  ·omega
theorem Frm.mono {S S' : List Nat} {A B : DH} (x : Frm S A B) (h : ∀ b ∈ S, b < A.next → b ∈ S') : Frm S' A B := ⟨x.le, fun b hb hs => x.same b hb fun e => hs (h b e hb)⟩
theorem Frm.get {S : List Nat} {A B : DH} (x : Frm S A B) {b : Nat} {o : Option DObj} (hb : b < A.next) (hs : b ∉ S) (h : A.m b = o) : B.m b = o := (x.same b hb hs).trans h
abbrev PT : TypeId := 68
theorem pnext_ok {p id off : Nat} {k : Tok} {ts : List Tok} {a b c d e f : DV} {H : DH} (hp : p < H.next) (hm : H.m p = some (.cells PT [.sl id 3 off ((k :: ts).map Tok.dv), a, b, c, d, e, f])) :
  WC cfg 42 [.ptr p 0] H fun v H' => v = k.dv ∧ Ext H H' := by
 refine WC_of (show Has cfg 42 9 [.cell 2 71] _ from ⟨by kernel_rfl, Tryz.f42, Tryz.func42, rfl, rfl, rfl, by kernel_rfl⟩) (by simp) ?_
 have h0 : ¬ p = H.next := by omega
 simp -dsimp (disch := first | omega | (apply DrawYes.mk; decide +kernel)) only [go_sem, hm, List.map_cons, Tok.dv, h0]
 exact (Ext.refl.new).set (Nat.le_refl _)
theorem pfail_ok {p id off : Nat} {k : Tok} {ts : List Tok} {a b c d e f : DV} {er : Nat} {H : DH} (hp : p < H.next) (hm : H.m p = some (.cells PT [.sl id 3 off ((k :: ts).map Tok.dv), a, b, c, d, e, f])) :
  WC cfg 43 [.ptr p 0, .int .i64 er] H fun v H' => v = .bool false ∧ Frm [p] H H' ∧ H'.m p = some (.cells PT [.sl id 3 off ((k :: ts).map Tok.dv), a, b, c, d, .int .i64 k.pos, .int .i64 er]) := by
 refine WC_of (show Has cfg 43 15 [.tmp 4] _ from ⟨by kernel_rfl, Tryz.f43, Tryz.func43, rfl, rfl, rfl, by kernel_rfl⟩) (by simp) ?_
 simp -dsimp (disch := first | omega | (apply DrawYes.mk; decide +kernel)) only [go_sem]
 refine call (pnext_ok hp hm) ?_
 rintro _ H1 ⟨rfl, hE⟩
 have hm1 := hE.get hp hm
 simp -dsimp (disch := first | omega | (apply DrawYes.mk; decide +kernel)) only [go_sem, hm1, Tok.dv]
 exact ((Frm.ext hE).set (.inl (by simp))).set (.inl (by simp))
theorem pis_ok {p id off : Nat} {k : Tok} {ts : List Tok} {a b c d e f : DV} {kd : Nat} {som : DV} {ss : List (List UInt8)} {H : DH} (hp : p < H.next) (hl : ts.length < 100000) (hss : ss.length < 100) (hs : (som = .nils ∧ ss = []) ∨ (ss ≠ [] ∧ ∃ id off, som = .sl id 1 off (ss.map DV.str))) (hm : H.m p = some (.cells PT [.sl id 3 off ((k :: ts).map Tok.dv), a, b, c, d, e, f])) :
  WC cfg 41 [.ptr p 0, .int .i64 kd, som] H fun v H' => v = .bool (decide (k.kind = kd ∧ (ss = [] ∨ k.text ∈ ss))) ∧ Frm [p] H H' ∧
   H'.m p = some (.cells PT [if k.kind = kd ∧ (ss = [] ∨ k.text ∈ ss) then .sl id 3 (off + 1) (ts.map Tok.dv) else .sl id 3 off ((k :: ts).map Tok.dv), a, b, c, d, e, f]) := by
 refine WC_of (show Has cfg 41 34 [.tmp 6] _ from ⟨by kernel_rfl, Tryz.f41, Tryz.func41, rfl, rfl, rfl, by kernel_rfl⟩) (by simp) ?_
 simp -dsimp (disch := first | omega | (apply DrawYes.mk; decide +kernel)) only [go_sem]
 refine call (pnext_ok hp hm) ?_
 rintro _ H1 ⟨rfl, hE⟩
 have hm1 := hE.get hp hm
 have hle := hE.le
 have h0 : ¬ p = H1.next := by omega
 have h1 : ¬ p = H1.next + 1 := by omega
 have ht : List.take ts.length (ts.map Tok.dv) = ts.map Tok.dv := List.take_of_length_le (by simp)
 have hF : ∀ o o', Frm [p] H ((H1.new o).set H1.next o') := fun o o' => ((Frm.ext hE).new).set (.inr hle)
 by_cases hk : k.kind = kd
 ·have k0 : ((k.kind : Int) != kd) = false := by simp; omega
  rcases hs with ⟨rfl, rfl⟩ | ⟨hne, id2, off2, rfl⟩
  ·simp -dsimp (disch := first | omega | (apply DrawYes.mk; decide +kernel)) only [go_sem, hm1, Tok.dv, k0, List.map_cons, List.length_cons, List.length_map, h0, h1, hk, ht]
   exact ⟨by omega, by simp, (hF _ _).set (.inl (by simp)), by simp⟩
  ·have k1 : 0 < (ss.length : Int) := by have := List.length_pos_iff.2 hne; omega
   simp -dsimp (disch := first | omega | (apply DrawYes.mk; decide +kernel)) only [go_sem, hm1, Tok.dv, k0, k1, List.map_cons, List.length_cons, List.length_map, h0, h1, hk]
   refine call (sContains_ok (l := ss) (by omega) ⟨_, _, rfl⟩) ?_
   rintro _ _ ⟨rfl, rfl⟩
   by_cases hc : k.text ∈ ss
   ·simp -dsimp (disch := first | omega | (apply DrawYes.mk; decide +kernel)) only [go_sem, hm1, Tok.dv, k0, k1, List.map_cons, List.length_cons, List.length_map, hc, h0, h1, hk, ht]
    exact ⟨by omega, by simp, (hF _ _).set (.inl (by simp)), by simp⟩
   ·simp -dsimp (disch := first | omega | (apply DrawYes.mk; decide +kernel)) only [go_sem, hm1, Tok.dv, k0, k1, List.map_cons, List.length_cons, List.length_map, hc, h0, h1, hk, ht]
    exact ⟨by simp [hne], hF _ _, by simp [hne]⟩
 ·have k0 : ((k.kind : Int) != kd) = true := by simp; omega
  simp -dsimp (disch := first | omega | (apply DrawYes.mk; decide +kernel)) only [go_sem, hm1, Tok.dv, k0, List.map_cons, List.length_cons, List.length_map, h0, h1, hk, ht]
  exact ⟨by simp, hF _ _, by simp⟩
end Go.Proofs.YtcknfhhbijlobaaGreatDoor.D
namespace Go.Proofs.YtcknfhhbijlobaaGreatDoor.D
open Go
set_option linter.unusedVariables false
set_option linter.unusedSimpArgs false
set_option maxRecDepth 100000
set_option maxHeartbeats 1000000
theorem pmust_ok {p id off : Nat} {k : Tok} {ts : List Tok} {a b c d e f : DV} {no : Nat} {part : List UInt8} {H : DH} (hp : p < H.next) (hl : ts.length < 100000) (hd : ∀ H', lenD cfg.T H' 66 d = some (.int .i64 no)) (hm : H.m p = some (.cells PT [.sl id 3 off ((k :: ts).map Tok.dv), a, b, c, d, e, f])) :
  WC cfg 73 [.ptr p 0, .str part] H fun v H' => Frm [p] H H' ∧
   ((mustE part no k = 0 ∧ v = .tup [.str k.text, .bool true] ∧ H'.m p = some (.cells PT [.sl id 3 (off + 1) (ts.map Tok.dv), a, b, c, d, e, f])) ∨
    (mustE part no k ≠ 0 ∧ v = .tup [.str [], .bool false] ∧ H'.m p = some (.cells PT [.sl id 3 off ((k :: ts).map Tok.dv), a, b, c, d, .int .i64 k.pos, .int .i64 (mustE part no k)]))) := by
 refine WC_of (show Has cfg 73 61 [.tmp 4, .tmp 5] _ from ⟨by kernel_rfl, Tryz.f73, Tryz.func73, rfl, rfl, rfl, by kernel_rfl⟩) (by simp) ?_
 simp -dsimp (disch := first | omega | (apply DrawYes.mk; decide +kernel)) only [go_sem]
 refine call (pnext_ok hp hm) ?_
 rintro _ H1 ⟨rfl, hE⟩
 have hm1 := hE.get hp hm
 have hle := hE.le
 have h0 : ¬ p = H1.next := by omega
 have h1 : ¬ p = H1.next + 1 := by omega
 have hF0 : ∀ o o', Frm [p] H ((H1.new o).set H1.next o') := fun o o' => ((Frm.ext hE).new).set (.inr hle)
 have kz : ∀ n : Nat, ((k.kind : Int) == n) = decide (k.kind = n) := fun n => by rw [Bool.eq_iff_iff]; simp; omega
 by_cases q1 : part = [110]
 ·subst q1
  simp -dsimp (disch := first | omega | (apply DrawYes.mk; decide +kernel)) only [go_sem, hm1, Tok.dv, h0, hd, List.map_cons]
  have hM : mustE [110] no k = if k.kind = 1 ∧ (([] : List (List UInt8)) = [] ∨ k.text ∈ ([] : List (List UInt8))) then 0 else 20 := by
   simp [mustE]
  refine call (pis_ok (id := id) (off := off) (a := a) (b := b) (c := c) (d := d) (e := e) (f := f) (ss := []) (k := k) (ts := ts) (by simp only [new_next, set_next]; omega) hl (by first | decide | simp) (.inl ⟨rfl, rfl⟩) (by simp only [new_m, set_m, new_next, set_next, if_neg h0, hm1])) ?_
  rintro _ H2 ⟨rfl, hF2, hm2⟩
  have hle2 := hF2.le
  simp only [new_next, set_next] at hle2
  have hc2 : H2.m H1.next = some (.cells 71 [.int .i64 k.kind, .str k.text, .int .i64 k.pos]) := hF2.get (by simp only [new_next, set_next]; omega) (by simp; omega) (by simp [new_m, set_m, new_next, set_next])
  have hF1 : Frm [p] H H2 := Frm.trans ((hF0 _ _)) hF2
  rw [hM]
  by_cases hc : k.kind = 1 ∧ (([] : List (List UInt8)) = [] ∨ k.text ∈ ([] : List (List UInt8)))
  ·rw [if_pos hc] at hm2 ⊢
   have hcd : decide (k.kind = 1 ∧ (([] : List (List UInt8)) = [] ∨ k.text ∈ ([] : List (List UInt8)))) = true := by simpa using hc
   rw [hcd]
   simp -dsimp (disch := first | omega | (apply DrawYes.mk; decide +kernel)) only [go_sem, hc2, hm2]
   first | exact hF1 | exact ⟨hF1, by simp⟩ | exact ⟨hF1, .inl ⟨rfl, rfl, rfl⟩⟩
  ·rw [if_neg hc] at hm2 ⊢
   have hcd : decide (k.kind = 1 ∧ (([] : List (List UInt8)) = [] ∨ k.text ∈ ([] : List (List UInt8)))) = false := by simpa using hc
   rw [hcd]
   simp -dsimp (disch := first | omega | (apply DrawYes.mk; decide +kernel)) only [go_sem, hc2, hm2]
   refine call (pfail_ok (er := 20) (by omega) hm2) ?_
   rintro _ H3 ⟨rfl, hF3, hm3⟩
   simp -dsimp (disch := first | omega | (apply DrawYes.mk; decide +kernel)) only [go_sem, hm3]
   first | exact hF1.trans hF3 | exact ⟨hF1.trans hF3, by simp⟩ | exact ⟨hF1.trans hF3, .inr ⟨by decide, rfl, rfl⟩⟩
 by_cases q2 : part = [119]
 ·subst q2
  simp -dsimp (disch := first | omega | (apply DrawYes.mk; decide +kernel)) only [go_sem, hm1, Tok.dv, h0, hd, List.map_cons, (by decide : (([119] : List UInt8) == [110]) = false)]
  have hM : mustE [119] no k = if k.kind = 1 ∧ ((wordsW : List (List UInt8)) = [] ∨ k.text ∈ (wordsW : List (List UInt8))) then 0 else 20 := by
   simp [mustE, wordsW]
  refine call (pis_ok (id := id) (off := off) (a := a) (b := b) (c := c) (d := d) (e := e) (f := f) (ss := wordsW) (k := k) (ts := ts) (by simp only [new_next, set_next]; omega) hl (by first | decide | simp) (.inr ⟨by decide, _, _, rfl⟩) (by simp only [new_m, set_m, new_next, set_next, if_neg h0, if_neg h1, hm1])) ?_
  rintro _ H2 ⟨rfl, hF2, hm2⟩
  have hle2 := hF2.le
  simp only [new_next, set_next] at hle2
  have hc2 : H2.m H1.next = some (.cells 71 [.int .i64 k.kind, .str k.text, .int .i64 k.pos]) := hF2.get (by simp only [new_next, set_next]; omega) (by simp; omega) (by simp [new_m, set_m, new_next, set_next])
  have hF1 : Frm [p] H H2 := Frm.trans (((hF0 _ _).new)) hF2
  rw [hM]
  by_cases hc : k.kind = 1 ∧ ((wordsW : List (List UInt8)) = [] ∨ k.text ∈ (wordsW : List (List UInt8)))
  ·rw [if_pos hc] at hm2 ⊢
   have hcd : decide (k.kind = 1 ∧ ((wordsW : List (List UInt8)) = [] ∨ k.text ∈ (wordsW : List (List UInt8)))) = true := by simpa using hc
   rw [hcd]
   simp -dsimp (disch := first | omega | (apply DrawYes.mk; decide +kernel)) only [go_sem, hc2, hm2]
   first | exact hF1 | exact ⟨hF1, by simp⟩ | exact ⟨hF1, .inl ⟨rfl, rfl, rfl⟩⟩
  ·rw [if_neg hc] at hm2 ⊢
   have hcd : decide (k.kind = 1 ∧ ((wordsW : List (List UInt8)) = [] ∨ k.text ∈ (wordsW : List (List UInt8)))) = false := by simpa using hc
   rw [hcd]
   simp -dsimp (disch := first | omega | (apply DrawYes.mk; decide +kernel)) only [go_sem, hc2, hm2]
   refine call (pfail_ok (er := 20) (by omega) hm2) ?_
   rintro _ H3 ⟨rfl, hF3, hm3⟩
   simp -dsimp (disch := first | omega | (apply DrawYes.mk; decide +kernel)) only [go_sem, hm3]
   first | exact hF1.trans hF3 | exact ⟨hF1.trans hF3, by simp⟩ | exact ⟨hF1.trans hF3, .inr ⟨by decide, rfl, rfl⟩⟩
 by_cases q3 : part = [116]
 ·subst q3
  simp -dsimp (disch := first | omega | (apply DrawYes.mk; decide +kernel)) only [go_sem, hm1, Tok.dv, h0, hd, List.map_cons, (by decide : (([116] : List UInt8) == [110]) = false), (by decide : (([116] : List UInt8) == [119]) = false)]
  have hM : mustE [116] no k = if k.kind = 3 ∧ (([] : List (List UInt8)) = [] ∨ k.text ∈ ([] : List (List UInt8))) then 0 else 20 := by
   simp [mustE]
  refine call (pis_ok (id := id) (off := off) (a := a) (b := b) (c := c) (d := d) (e := e) (f := f) (ss := []) (k := k) (ts := ts) (by simp only [new_next, set_next]; omega) hl (by first | decide | simp) (.inl ⟨rfl, rfl⟩) (by simp only [new_m, set_m, new_next, set_next, if_neg h0, hm1])) ?_
  rintro _ H2 ⟨rfl, hF2, hm2⟩
  have hle2 := hF2.le
  simp only [new_next, set_next] at hle2
  have hc2 : H2.m H1.next = some (.cells 71 [.int .i64 k.kind, .str k.text, .int .i64 k.pos]) := hF2.get (by simp only [new_next, set_next]; omega) (by simp; omega) (by simp [new_m, set_m, new_next, set_next])
  have hF1 : Frm [p] H H2 := Frm.trans ((hF0 _ _)) hF2
  rw [hM]
  by_cases hc : k.kind = 3 ∧ (([] : List (List UInt8)) = [] ∨ k.text ∈ ([] : List (List UInt8)))
  ·rw [if_pos hc] at hm2 ⊢
   have hcd : decide (k.kind = 3 ∧ (([] : List (List UInt8)) = [] ∨ k.text ∈ ([] : List (List UInt8)))) = true := by simpa using hc
   rw [hcd]
   simp -dsimp (disch := first | omega | (apply DrawYes.mk; decide +kernel)) only [go_sem, hc2, hm2]
   first | exact hF1 | exact ⟨hF1, by simp⟩ | exact ⟨hF1, .inl ⟨rfl, rfl, rfl⟩⟩
  ·rw [if_neg hc] at hm2 ⊢
   have hcd : decide (k.kind = 3 ∧ (([] : List (List UInt8)) = [] ∨ k.text ∈ ([] : List (List UInt8)))) = false := by simpa using hc
   rw [hcd]
   simp -dsimp (disch := first | omega | (apply DrawYes.mk; decide +kernel)) only [go_sem, hc2, hm2]
   refine call (pfail_ok (er := 20) (by omega) hm2) ?_
   rintro _ H3 ⟨rfl, hF3, hm3⟩
   simp -dsimp (disch := first | omega | (apply DrawYes.mk; decide +kernel)) only [go_sem, hm3]
   first | exact hF1.trans hF3 | exact ⟨hF1.trans hF3, by simp⟩ | exact ⟨hF1.trans hF3, .inr ⟨by decide, rfl, rfl⟩⟩
 by_cases q4 : part = [105]
 ·subst q4
  simp -dsimp (disch := first | omega | (apply DrawYes.mk; decide +kernel)) only [go_sem, hm1, Tok.dv, h0, hd, List.map_cons, (by decide : (([105] : List UInt8) == [110]) = false), (by decide : (([105] : List UInt8) == [119]) = false), (by decide : (([105] : List UInt8) == [116]) = false)]
  have hM : mustE [105] no k = if k.kind = 2 ∧ (([] : List (List UInt8)) = [] ∨ k.text ∈ ([] : List (List UInt8))) then 0 else 20 := by
   simp [mustE]
  refine call (pis_ok (id := id) (off := off) (a := a) (b := b) (c := c) (d := d) (e := e) (f := f) (ss := []) (k := k) (ts := ts) (by simp only [new_next, set_next]; omega) hl (by first | decide | simp) (.inl ⟨rfl, rfl⟩) (by simp only [new_m, set_m, new_next, set_next, if_neg h0, hm1])) ?_
  rintro _ H2 ⟨rfl, hF2, hm2⟩
  have hle2 := hF2.le
  simp only [new_next, set_next] at hle2
  have hc2 : H2.m H1.next = some (.cells 71 [.int .i64 k.kind, .str k.text, .int .i64 k.pos]) := hF2.get (by simp only [new_next, set_next]; omega) (by simp; omega) (by simp [new_m, set_m, new_next, set_next])
  have hF1 : Frm [p] H H2 := Frm.trans ((hF0 _ _)) hF2
  rw [hM]
  by_cases hc : k.kind = 2 ∧ (([] : List (List UInt8)) = [] ∨ k.text ∈ ([] : List (List UInt8)))
  ·rw [if_pos hc] at hm2 ⊢
   have hcd : decide (k.kind = 2 ∧ (([] : List (List UInt8)) = [] ∨ k.text ∈ ([] : List (List UInt8)))) = true := by simpa using hc
   rw [hcd]
   simp -dsimp (disch := first | omega | (apply DrawYes.mk; decide +kernel)) only [go_sem, hc2, hm2]
   first | exact hF1 | exact ⟨hF1, by simp⟩ | exact ⟨hF1, .inl ⟨rfl, rfl, rfl⟩⟩
  ·rw [if_neg hc] at hm2 ⊢
   have hcd : decide (k.kind = 2 ∧ (([] : List (List UInt8)) = [] ∨ k.text ∈ ([] : List (List UInt8)))) = false := by simpa using hc
   rw [hcd]
   simp -dsimp (disch := first | omega | (apply DrawYes.mk; decide +kernel)) only [go_sem, hc2, hm2]
   refine call (pfail_ok (er := 20) (by omega) hm2) ?_
   rintro _ H3 ⟨rfl, hF3, hm3⟩
   simp -dsimp (disch := first | omega | (apply DrawYes.mk; decide +kernel)) only [go_sem, hm3]
   first | exact hF1.trans hF3 | exact ⟨hF1.trans hF3, by simp⟩ | exact ⟨hF1.trans hF3, .inr ⟨by decide, rfl, rfl⟩⟩
 have j1 : (part == [110]) = false := beq_eq_false_iff_ne.2 q1
 have j2 : (part == [119]) = false := beq_eq_false_iff_ne.2 q2
 have j3 : (part == [116]) = false := beq_eq_false_iff_ne.2 q3
 have j4 : (part == [105]) = false := beq_eq_false_iff_ne.2 q4
 by_cases q5 : part = [123] ∧ 8 ≤ no ∧ k.kind = 4 ∧ k.text = part
 ·have hM : mustE part no k = 21 := by unfold mustE; rw [if_neg q1, if_neg q2, if_neg q3, if_neg q4, if_pos q5]
  have j5 : (part == [123]) = true := by simpa using q5.1
  have j6 : (8 : Int) ≤ no := by omega
  have j7 : ((k.kind : Int) == 4) = true := by simp; omega
  have j8 : (k.text == part) = true := by simpa using q5.2.2.2
  simp -dsimp (disch := first | omega | (apply DrawYes.mk; decide +kernel)) only [go_sem, hm1, Tok.dv, h0, hd, List.map_cons, j1, j2, j3, j4, j5, j6, j7, j8]
  refine call (pfail_ok (id := id) (off := off) (a := a) (b := b) (c := c) (d := d) (e := e) (f := f) (er := 21) (k := k) (ts := ts) (by simp only [new_next, set_next]; omega) (by simp only [new_m, set_m, new_next, set_next, if_neg h0, hm1])) ?_
  rintro _ H3 ⟨rfl, hF3, hm3⟩
  simp -dsimp (disch := first | omega | (apply DrawYes.mk; decide +kernel)) only [go_sem, hm3]
  exact ⟨(hF0 _ _).trans hF3, .inr ⟨by rw [hM]; decide, by rw [hM]; rfl⟩⟩
 have hM5 : mustE part no k = if k.kind = 4 ∧ ([part] = [] ∨ k.text ∈ [part]) then 0 else 20 := by
  unfold mustE; rw [if_neg q1, if_neg q2, if_neg q3, if_neg q4, if_neg q5]; simp
 have key : ∀ P : Prop, ((part = [123] → 8 ≤ no → k.kind = 4 → ¬ k.text = part → P) ∧ (part = [123] → 8 ≤ no → ¬ k.kind = 4 → P) ∧ (part = [123] → ¬ 8 ≤ no → P) ∧ (¬ part = [123] → P)) → P := by
  rintro P ⟨h1, h2, h3, h4⟩
  by_cases a1 : part = [123]
  ·by_cases a2 : 8 ≤ no
   ·by_cases a3 : k.kind = 4
    ·exact h1 a1 a2 a3 fun a4 => q5 ⟨a1, a2, a3, a4⟩
    ·exact h2 a1 a2 a3
   ·exact h3 a1 a2
  ·exact h4 a1
 refine key _ ⟨fun a1 a2 a3 a4 => ?_, fun a1 a2 a3 => ?_, fun a1 a2 => ?_, fun a1 => ?_⟩
 ·have j5 : (part == [123]) = true := by simpa using a1
  have j6 : (8 : Int) ≤ no := by omega
  have j7 : ((k.kind : Int) == 4) = true := by simp; omega
  have j8 : (k.text == part) = false := beq_eq_false_iff_ne.2 a4
  simp -dsimp (disch := first | omega | (apply DrawYes.mk; decide +kernel)) only [go_sem, hm1, Tok.dv, h0, hd, List.map_cons, j1, j2, j3, j4, j5, j6, j7, j8]
  have hM : mustE part no k = if k.kind = 4 ∧ (([part] : List (List UInt8)) = [] ∨ k.text ∈ ([part] : List (List UInt8))) then 0 else 20 := by
   exact hM5
  refine call (pis_ok (id := id) (off := off) (a := a) (b := b) (c := c) (d := d) (e := e) (f := f) (ss := [part]) (k := k) (ts := ts) (by simp only [new_next, set_next]; omega) hl (by first | decide | simp) (.inr ⟨by simp, _, _, rfl⟩) (by simp only [new_m, set_m, new_next, set_next, if_neg h0, if_neg h1, hm1])) ?_
  rintro _ H2 ⟨rfl, hF2, hm2⟩
  have hle2 := hF2.le
  simp only [new_next, set_next] at hle2
  have hc2 : H2.m H1.next = some (.cells 71 [.int .i64 k.kind, .str k.text, .int .i64 k.pos]) := hF2.get (by simp only [new_next, set_next]; omega) (by simp; omega) (by simp [new_m, set_m, new_next, set_next])
  have hF1 : Frm [p] H H2 := Frm.trans (((hF0 _ _).new)) hF2
  rw [hM]
  by_cases hc : k.kind = 4 ∧ (([part] : List (List UInt8)) = [] ∨ k.text ∈ ([part] : List (List UInt8)))
  ·rw [if_pos hc] at hm2 ⊢
   have hcd : decide (k.kind = 4 ∧ (([part] : List (List UInt8)) = [] ∨ k.text ∈ ([part] : List (List UInt8)))) = true := by simpa using hc
   rw [hcd]
   simp -dsimp (disch := first | omega | (apply DrawYes.mk; decide +kernel)) only [go_sem, hc2, hm2]
   first | exact hF1 | exact ⟨hF1, by simp⟩ | exact ⟨hF1, .inl ⟨rfl, rfl, rfl⟩⟩
  ·rw [if_neg hc] at hm2 ⊢
   have hcd : decide (k.kind = 4 ∧ (([part] : List (List UInt8)) = [] ∨ k.text ∈ ([part] : List (List UInt8)))) = false := by simpa using hc
   rw [hcd]
   simp -dsimp (disch := first | omega | (apply DrawYes.mk; decide +kernel)) only [go_sem, hc2, hm2]
   refine call (pfail_ok (er := 20) (by omega) hm2) ?_
   rintro _ H3 ⟨rfl, hF3, hm3⟩
   simp -dsimp (disch := first | omega | (apply DrawYes.mk; decide +kernel)) only [go_sem, hm3]
   first | exact hF1.trans hF3 | exact ⟨hF1.trans hF3, by simp⟩ | exact ⟨hF1.trans hF3, .inr ⟨by decide, rfl, rfl⟩⟩
 ·have j5 : (part == [123]) = true := by simpa using a1
  have j6 : (8 : Int) ≤ no := by omega
  have j7 : ((k.kind : Int) == 4) = false := by simp; omega
  simp -dsimp (disch := first | omega | (apply DrawYes.mk; decide +kernel)) only [go_sem, hm1, Tok.dv, h0, hd, List.map_cons, j1, j2, j3, j4, j5, j6, j7]
  have hM : mustE part no k = if k.kind = 4 ∧ (([part] : List (List UInt8)) = [] ∨ k.text ∈ ([part] : List (List UInt8))) then 0 else 20 := by
   exact hM5
  refine call (pis_ok (id := id) (off := off) (a := a) (b := b) (c := c) (d := d) (e := e) (f := f) (ss := [part]) (k := k) (ts := ts) (by simp only [new_next, set_next]; omega) hl (by first | decide | simp) (.inr ⟨by simp, _, _, rfl⟩) (by simp only [new_m, set_m, new_next, set_next, if_neg h0, if_neg h1, hm1])) ?_
  rintro _ H2 ⟨rfl, hF2, hm2⟩
  have hle2 := hF2.le
  simp only [new_next, set_next] at hle2
  have hc2 : H2.m H1.next = some (.cells 71 [.int .i64 k.kind, .str k.text, .int .i64 k.pos]) := hF2.get (by simp only [new_next, set_next]; omega) (by simp; omega) (by simp [new_m, set_m, new_next, set_next])
  have hF1 : Frm [p] H H2 := Frm.trans (((hF0 _ _).new)) hF2
  rw [hM]
  by_cases hc : k.kind = 4 ∧ (([part] : List (List UInt8)) = [] ∨ k.text ∈ ([part] : List (List UInt8)))
  ·rw [if_pos hc] at hm2 ⊢
   have hcd : decide (k.kind = 4 ∧ (([part] : List (List UInt8)) = [] ∨ k.text ∈ ([part] : List (List UInt8)))) = true := by simpa using hc
   rw [hcd]
   simp -dsimp (disch := first | omega | (apply DrawYes.mk; decide +kernel)) only [go_sem, hc2, hm2]
   first | exact hF1 | exact ⟨hF1, by simp⟩ | exact ⟨hF1, .inl ⟨rfl, rfl, rfl⟩⟩
  ·rw [if_neg hc] at hm2 ⊢
   have hcd : decide (k.kind = 4 ∧ (([part] : List (List UInt8)) = [] ∨ k.text ∈ ([part] : List (List UInt8)))) = false := by simpa using hc
   rw [hcd]
   simp -dsimp (disch := first | omega | (apply DrawYes.mk; decide +kernel)) only [go_sem, hc2, hm2]
   refine call (pfail_ok (er := 20) (by omega) hm2) ?_
   rintro _ H3 ⟨rfl, hF3, hm3⟩
   simp -dsimp (disch := first | omega | (apply DrawYes.mk; decide +kernel)) only [go_sem, hm3]
   first | exact hF1.trans hF3 | exact ⟨hF1.trans hF3, by simp⟩ | exact ⟨hF1.trans hF3, .inr ⟨by decide, rfl, rfl⟩⟩
 ·have j5 : (part == [123]) = true := by simpa using a1
  have j6 : ¬ (8 : Int) ≤ no := by omega
  simp -dsimp (disch := first | omega | (apply DrawYes.mk; decide +kernel)) only [go_sem, hm1, Tok.dv, h0, hd, List.map_cons, j1, j2, j3, j4, j5, j6]
  have hM : mustE part no k = if k.kind = 4 ∧ (([part] : List (List UInt8)) = [] ∨ k.text ∈ ([part] : List (List UInt8))) then 0 else 20 := by
   exact hM5
  refine call (pis_ok (id := id) (off := off) (a := a) (b := b) (c := c) (d := d) (e := e) (f := f) (ss := [part]) (k := k) (ts := ts) (by simp only [new_next, set_next]; omega) hl (by first | decide | simp) (.inr ⟨by simp, _, _, rfl⟩) (by simp only [new_m, set_m, new_next, set_next, if_neg h0, if_neg h1, hm1])) ?_
  rintro _ H2 ⟨rfl, hF2, hm2⟩
  have hle2 := hF2.le
  simp only [new_next, set_next] at hle2
  have hc2 : H2.m H1.next = some (.cells 71 [.int .i64 k.kind, .str k.text, .int .i64 k.pos]) := hF2.get (by simp only [new_next, set_next]; omega) (by simp; omega) (by simp [new_m, set_m, new_next, set_next])
  have hF1 : Frm [p] H H2 := Frm.trans (((hF0 _ _).new)) hF2
  rw [hM]
  by_cases hc : k.kind = 4 ∧ (([part] : List (List UInt8)) = [] ∨ k.text ∈ ([part] : List (List UInt8)))
  ·rw [if_pos hc] at hm2 ⊢
   have hcd : decide (k.kind = 4 ∧ (([part] : List (List UInt8)) = [] ∨ k.text ∈ ([part] : List (List UInt8)))) = true := by simpa using hc
   rw [hcd]
   simp -dsimp (disch := first | omega | (apply DrawYes.mk; decide +kernel)) only [go_sem, hc2, hm2]
   first | exact hF1 | exact ⟨hF1, by simp⟩ | exact ⟨hF1, .inl ⟨rfl, rfl, rfl⟩⟩
  ·rw [if_neg hc] at hm2 ⊢
   have hcd : decide (k.kind = 4 ∧ (([part] : List (List UInt8)) = [] ∨ k.text ∈ ([part] : List (List UInt8)))) = false := by simpa using hc
   rw [hcd]
   simp -dsimp (disch := first | omega | (apply DrawYes.mk; decide +kernel)) only [go_sem, hc2, hm2]
   refine call (pfail_ok (er := 20) (by omega) hm2) ?_
   rintro _ H3 ⟨rfl, hF3, hm3⟩
   simp -dsimp (disch := first | omega | (apply DrawYes.mk; decide +kernel)) only [go_sem, hm3]
   first | exact hF1.trans hF3 | exact ⟨hF1.trans hF3, by simp⟩ | exact ⟨hF1.trans hF3, .inr ⟨by decide, rfl, rfl⟩⟩
 ·have j5 : (part == [123]) = false := beq_eq_false_iff_ne.2 a1
  simp -dsimp (disch := first | omega | (apply DrawYes.mk; decide +kernel)) only [go_sem, hm1, Tok.dv, h0, hd, List.map_cons, j1, j2, j3, j4, j5]
  have hM : mustE part no k = if k.kind = 4 ∧ (([part] : List (List UInt8)) = [] ∨ k.text ∈ ([part] : List (List UInt8))) then 0 else 20 := by
   exact hM5
  refine call (pis_ok (id := id) (off := off) (a := a) (b := b) (c := c) (d := d) (e := e) (f := f) (ss := [part]) (k := k) (ts := ts) (by simp only [new_next, set_next]; omega) hl (by first | decide | simp) (.inr ⟨by simp, _, _, rfl⟩) (by simp only [new_m, set_m, new_next, set_next, if_neg h0, if_neg h1, hm1])) ?_
  rintro _ H2 ⟨rfl, hF2, hm2⟩
  have hle2 := hF2.le
  simp only [new_next, set_next] at hle2
  have hc2 : H2.m H1.next = some (.cells 71 [.int .i64 k.kind, .str k.text, .int .i64 k.pos]) := hF2.get (by simp only [new_next, set_next]; omega) (by simp; omega) (by simp [new_m, set_m, new_next, set_next])
  have hF1 : Frm [p] H H2 := Frm.trans (((hF0 _ _).new)) hF2
  rw [hM]
  by_cases hc : k.kind = 4 ∧ (([part] : List (List UInt8)) = [] ∨ k.text ∈ ([part] : List (List UInt8)))
  ·rw [if_pos hc] at hm2 ⊢
   have hcd : decide (k.kind = 4 ∧ (([part] : List (List UInt8)) = [] ∨ k.text ∈ ([part] : List (List UInt8)))) = true := by simpa using hc
   rw [hcd]
   simp -dsimp (disch := first | omega | (apply DrawYes.mk; decide +kernel)) only [go_sem, hc2, hm2]
   first | exact hF1 | exact ⟨hF1, by simp⟩ | exact ⟨hF1, .inl ⟨rfl, rfl, rfl⟩⟩
  ·rw [if_neg hc] at hm2 ⊢
   have hcd : decide (k.kind = 4 ∧ (([part] : List (List UInt8)) = [] ∨ k.text ∈ ([part] : List (List UInt8)))) = false := by simpa using hc
   rw [hcd]
   simp -dsimp (disch := first | omega | (apply DrawYes.mk; decide +kernel)) only [go_sem, hc2, hm2]
   refine call (pfail_ok (er := 20) (by omega) hm2) ?_
   rintro _ H3 ⟨rfl, hF3, hm3⟩
   simp -dsimp (disch := first | omega | (apply DrawYes.mk; decide +kernel)) only [go_sem, hm3]
   first | exact hF1.trans hF3 | exact ⟨hF1.trans hF3, by simp⟩ | exact ⟨hF1.trans hF3, .inr ⟨by decide, rfl, rfl⟩⟩
end Go.Proofs.YtcknfhhbijlobaaGreatDoor.D
namespace Go.Proofs.YtcknfhhbijlobaaGreatDoor.D
open Go
set_option linter.unusedVariables false
set_option linter.unusedSimpArgs false
set_option maxRecDepth 100000
theorem IsSl.ints {lo : Nat} {H : DH} {e : Nat} {v : DV} {l : List Nat} (h : IsSl lo H e 1 v (l.map intV)) : IntsV l v := by
 rcases h with ⟨h1, h2⟩ | ⟨id, off, k, h1, _⟩
 ·exact .inl ⟨h1, by simpa using h2⟩
 ·exact .inr ⟨id, off, h1⟩
def slid : DV → List Nat
 | .sl id _ _ _ => [id]
 | _ => []
theorem IsSl.keep {lo : Nat} {H H' : DH} {e sz : Nat} {v : DV} {es : List DV} (h : IsSl lo H e sz v es) (hn : H.next ≤ H'.next) (hm : ∀ id ∈ slid v, H'.m id = H.m id) : IsSl lo H' e sz v es := by
 rcases h with h | ⟨id, off, k, rfl, h2, h3, h4, h5, h6⟩
 ·exact .inl h
 ·exact .inr ⟨id, off, k, rfl, by rw [hm id (by simp [slid]), h2], h3, h4, Nat.lt_of_lt_of_le h5 hn, h6⟩
theorem IsSl.tip {lo : Nat} {H : DH} {e sz : Nat} {v : DV} {es : List DV} (h : IsSl lo H e sz v es) : ∀ id ∈ slid v, lo ≤ id ∧ id < H.next ∧ ∃ k, H.m id = some (.tip e k true) := by
 rcases h with ⟨rfl, _⟩ | ⟨id, off, k, rfl, h2, h3, h4, h5, h6⟩
 ·simp [slid]
 ·intro i hi
  simp [slid] at hi
  subst hi
  exact ⟨h4, h5, k, h2⟩
theorem app2 {T : Tab} {H : DH} {lo : Nat} {t u e : TypeId} {n by_ : Nat} {du : TypeDesc} {z : DV} {v x : DV} {es new : List DV} {K : DV → DH → Prop} {b : Later K} (h1 : T.und t = some (.slice e)) (h2 : T.size e = some n) (h3 : T.bytes e = some by_) (h4 : T.und u = some du) (h5 : T.zero e = some z)
  (h6 : srcOk du = true) (h7 : z.cells.length = n) (h8 : 0 < n) (hs : IsSl lo H e n v es) (hx : elemsOf n x = some new) (hne : new ≠ []) (hlo : lo ≤ H.next) (hb : (es.length + new.length) * by_ ≤ 140737488355328) (hb2 : es.length + new.length < 9223372036854775808)
  (k : ∀ v' H' id, IsSl lo H' e n v' (es ++ new) → H.next ≤ H'.next → (∀ i, i ≠ id → H'.m i = H.m i) → slid v' = [id] → (slid v = [id] ∨ id = H.next) → K v' H') (hwr : T.wr e = false := by rfl) : WX (appendD T t u v x H) b := by
 unfold appendD
 simp only [h1, h2, h3, h4, h5, hx]
 rw [if_pos ⟨h8, h6, h7⟩]
 rcases hs with ⟨rfl, rfl⟩ | ⟨id, off, kk, rfl, g2, g3, g4, g5⟩
 ·simp only
  rw [if_pos (by simp only [List.length_nil, Nat.zero_add] at hb hb2; exact ⟨hb, hb2⟩), if_neg (by simpa [List.isEmpty_iff] using hne), if_neg (by rw [hwr]; simp)]
  refine k _ _ H.next (.inr ⟨H.next, 0, new.length, rfl, ?_, by simp, hlo, Nat.lt_succ_self _, by simpa using hne⟩) (Nat.le_succ _) (fun b hb => ?_) rfl (.inr rfl)
  ·exact if_pos rfl
  ·exact if_neg hb
 ·simp only [g2]
  rw [if_pos (by simp only [true_and]; exact ⟨g3, hb, hb2⟩)]
  refine k _ _ id (.inr ⟨id, off, kk + new.length, rfl, ?_, by simp; omega, g4, g5.1, by simp [g5.2]⟩) (Nat.le_refl _) (fun b hb => ?_) rfl (.inl rfl)
  ·rw [set_m, if_pos rfl]
  ·rw [set_m, if_neg hb]
theorem All2.len {α β : Type} {R : α → β → Prop} {l : List α} {m : List β} (h : All2 R l m) : l.length = m.length := by
 induction h with
 | nil => rfl
 | cons _ _ ih => simp [ih]
theorem All2.app {α β : Type} {R : α → β → Prop} {l l' : List α} {m m' : List β} (h : All2 R l m) (h' : All2 R l' m') : All2 R (l ++ l') (m ++ m') := by
 induction h with
 | nil => exact h'
 | cons h _ ih => exact .cons h ih
theorem All2.mono {α β : Type} {R R' : α → β → Prop} {l : List α} {m : List β} (h : All2 R l m) (k : ∀ a b, b ∈ m → R a b → R' a b) : All2 R' l m := by
 induction h with
 | nil => exact .nil
 | cons h _ ih => exact .cons (k _ _ (by simp) h) (ih fun a b hb => k a b (by simp [hb]))
theorem All2.last {α β : Type} {R : α → β → Prop} : ∀ {l : List α} {a : α} {m : List β}, All2 R (l ++ [a]) m → ∃ m' b, m = m' ++ [b] ∧ All2 R l m' ∧ R a b
 | [], a, m, h => by cases h with | cons h t => cases t; exact ⟨[], _, rfl, .nil, h⟩
 | x :: l, a, m, h => by
  cases h with
  | cons h t =>
   obtain ⟨m', b, rfl, h1, h2⟩ := All2.last t
   exact ⟨_ :: m', b, rfl, .cons h h1, h2⟩
theorem All2.get {α β : Type} {R : α → β → Prop} {l : List α} {m : List β} (h : All2 R l m) : ∀ {i : Nat} {a : α}, l[i]? = some a → ∃ b, m[i]? = some b ∧ R a b := by
 induction h with
 | nil => intro i a h; simp at h
 | cons h _ ih =>
  intro i a hi
  cases i with
  | zero => simp at hi; subst hi; exact ⟨_, rfl, h⟩
  | succ i => exact ih (by simpa using hi)
abbrev FT : TypeId := 114
abbrev Fx := Nat × DV × DV
def FrV (lo : Nat) (H : DH) (f : Fr) (x : Fx) : Prop := lo ≤ x.1 ∧ x.1 < H.next ∧
 H.m x.1 = some (.cells FT [.int .i64 f.s.kind, .str f.s.s, .str f.s.t, .str f.s.u, .int .i64 f.s.n, .int .i64 f.s.at_, x.2.1, x.2.2, .bool f.other]) ∧ IsSl lo H 3 1 x.2.1 (f.s.l.map intV) ∧ IsSl lo H 3 1 x.2.2 (f.s.m.map intV)
def fids (x : Fx) : List Nat := slid x.2.1 ++ slid x.2.2
structure PI (lo : Nat) (H : DH) (p md : Nat) (tok at_ e : DV) (R : List Stm) (top : List Nat) (os : List Fr) (stmv topv opv : DV) (es : List DV) (fs : List Fx) : Prop where
 hp : p < H.next
 lop : lo ≤ p
 obj : H.m p = some (.cells PT [tok, .int .i64 md, stmv, topv, opv, at_, e])
 stm : IsSl lo H 40 8 stmv es
 stmR : All2 StmV R es
 top : IsSl lo H 3 1 topv (top.map intV)
 op : (opv = .nils ∧ fs = []) ∨ ∃ r cs, opv = .hs r 1 0 fs.length ∧ lo ≤ r ∧ r < H.next ∧ H.m r = some (.row 112 cs) ∧ cs.take fs.length = fs.map fun x => .ptr x.1 0
 fr : All2 (FrV lo H) os fs
 nodb : (fs.map (·.1)).Nodup
 nodt : (slid topv ++ fs.flatMap fids).Nodup
structure Bnd (R : List Stm) (top : List Nat) (os : List Fr) : Prop where
 hR : R.length < 100000
 ht : top.length ≤ R.length
 ho : ∀ f ∈ os, f.s.l.length ≤ R.length ∧ f.s.m.length ≤ R.length
 hl : os.length < 100000
theorem FrV.keep {lo : Nat} {H H' : DH} {f : Fr} {x : Fx} (h : FrV lo H f x) (hn : H.next ≤ H'.next) (h1 : H'.m x.1 = H.m x.1) (h2 : ∀ id ∈ fids x, H'.m id = H.m id) : FrV lo H' f x := by
 obtain ⟨a, b, c, d, e⟩ := h
 exact ⟨a, Nat.lt_of_lt_of_le b hn, by rw [h1]; exact c, d.keep hn fun id hi => h2 id (by simp [fids, hi]), e.keep hn fun id hi => h2 id (by simp [fids, hi])⟩
theorem frs_keep {lo : Nat} {H H' : DH} {os : List Fr} {fs : List Fx} (h : All2 (FrV lo H) os fs) (hn : H.next ≤ H'.next) (hk : ∀ x ∈ fs, H'.m x.1 = H.m x.1 ∧ ∀ id ∈ fids x, H'.m id = H.m id) : All2 (FrV lo H') os fs :=
 h.mono fun f x hx hf => hf.keep hn (hk x hx).1 (hk x hx).2
theorem mne {H : DH} {a b : Nat} {o o' : DObj} (h1 : H.m a = some o) (h2 : H.m b = some o') (h : o ≠ o') : a ≠ b := by
 rintro rfl; rw [h1] at h2; cases h2; exact h rfl
theorem FrV.ids {lo : Nat} {H : DH} {f : Fr} {x : Fx} (h : FrV lo H f x) : ∀ id ∈ fids x, lo ≤ id ∧ id < H.next ∧ ∃ k, H.m id = some (.tip 3 k true) := by
 intro id hi
 rcases List.mem_append.1 hi with hi | hi
 ·exact h.2.2.2.1.tip id hi
 ·exact h.2.2.2.2.tip id hi
theorem All2.mem {α β : Type} {R : α → β → Prop} {l : List α} {m : List β} (h : All2 R l m) : ∀ b ∈ m, ∃ a ∈ l, R a b := by
 induction h with
 | nil => simp
 | cons h _ ih =>
  intro b hb
  rcases List.mem_cons.1 hb with hb | hb
  ·subst hb; exact ⟨_, by simp, h⟩
  ·obtain ⟨a, ha, hr⟩ := ih b hb
   exact ⟨a, by simp [ha], hr⟩
theorem PI.keep {lo : Nat} {H H' : DH} {p md : Nat} {tok at_ e : DV} {R : List Stm} {top : List Nat} {os : List Fr} {stmv topv opv : DV} {es : List DV} {fs : List Fx} (h : PI lo H p md tok at_ e R top os stmv topv opv es fs) (x : Frm [p] H H') {tok' at' e' : DV}
  (hm : H'.m p = some (.cells PT [tok', .int .i64 md, stmv, topv, opv, at', e'])) : PI lo H' p md tok' at' e' R top os stmv topv opv es fs where
 hp := Nat.lt_of_lt_of_le h.hp x.le
 lop := h.lop
 obj := hm
 stm := h.stm.keep x.le fun id hi => by
  obtain ⟨_, h2, k, h3⟩ := h.stm.tip id hi
  exact x.same id h2 (by simpa using mne h3 h.obj (by simp))
 stmR := h.stmR
 top := h.top.keep x.le fun id hi => by
  obtain ⟨_, h2, k, h3⟩ := h.top.tip id hi
  exact x.same id h2 (by simpa using mne h3 h.obj (by simp))
 op := h.op.imp id fun ⟨r, cs, h1, h2, h3, h4, h5⟩ => ⟨r, cs, h1, h2, Nat.lt_of_lt_of_le h3 x.le, by rw [x.same r h3 (by simpa using mne h4 h.obj (by simp))]; exact h4, h5⟩
 fr := frs_keep h.fr x.le fun y hy => by
  obtain ⟨f, _, hf⟩ := h.fr.mem y hy
  refine ⟨x.same y.1 hf.2.1 (by simpa using mne hf.2.2.1 h.obj (by simp [PT, FT])), fun id hi => ?_⟩
  obtain ⟨_, h2, k, h3⟩ := hf.ids id hi
  exact x.same id h2 (by simpa using mne h3 h.obj (by simp))
 nodb := h.nodb
 nodt := h.nodt
theorem StmV.ones {s : Stm} {d : DV} (h : StmV s d) : ∃ d1 d2 d3 d4 d5 d6 d7 d8, d = .agg [d1, d2, d3, d4, d5, d6, d7, d8] ∧ d1.one = true ∧ d2.one = true ∧ d3.one = true ∧ d4.one = true ∧ d5.one = true ∧ d6.one = true ∧ d7.one = true ∧ d8.one = true := by
 obtain ⟨vl, vm, rfl, h1, h2⟩ := h
 have : ∀ {l v}, IntsV l v → v.one = true := by
  rintro l v (⟨rfl, _⟩ | ⟨id, off, rfl⟩) <;> rfl
 exact ⟨_, _, _, _, _, _, _, _, rfl, rfl, rfl, rfl, rfl, rfl, rfl, this h1, this h2⟩
end Go.Proofs.YtcknfhhbijlobaaGreatDoor.D
namespace Go.Proofs.YtcknfhhbijlobaaGreatDoor.D
open Go
set_option linter.unusedVariables false
set_option linter.unusedSimpArgs false
set_option maxRecDepth 100000
structure Low (lo : Nat) (H H' : DH) : Prop where
 le : H.next ≤ H'.next
 same : ∀ b, b < lo → H'.m b = H.m b
theorem nil_or_last {α : Type} (l : List α) : l = [] ∨ ∃ L b, l = L ++ [b] := by
 rcases List.eq_nil_or_concat l with h | ⟨L, b, h⟩
 ·exact .inl h
 ·exact .inr ⟨L, b, by rw [h, List.concat_eq_append]⟩
theorem pi_last {lo : Nat} {H H' : DH} {p md : Nat} {tok at_ e : DV} {R R2 : List Stm} {top : List Nat} {os' : List Fr} {f f' : Fr} {stmv stmv2 topv opv : DV} {es es2 : List DV} {fs' : List Fx} {b : Nat} {vl vm vl' vm' : DV}
  (h : PI lo H p md tok at_ e R top (os' ++ [f]) stmv topv opv es (fs' ++ [(b, vl, vm)])) (q1 : H.next ≤ H'.next) (q2 : H'.m p = some (.cells PT [tok, .int .i64 md, stmv2, topv, opv, at_, e]))
  (q3 : IsSl lo H' 40 8 stmv2 es2) (q3' : All2 StmV R2 es2) (q4 : FrV lo H' f' (b, vl', vm'))
  (q5 : ∀ i, i < H.next → i ∉ slid stmv → i ≠ p → i ≠ b → i ∉ fids (b, vl, vm) → H'.m i = H.m i)
  (q6 : ∀ id ∈ fids (b, vl', vm'), id ∈ fids (b, vl, vm) ∨ H.next ≤ id) (q7 : (fids (b, vl', vm')).Nodup) :
  PI lo H' p md tok at_ e R2 top (os' ++ [f']) stmv2 topv opv es2 (fs' ++ [(b, vl', vm')]) := by
 obtain ⟨fs0, x, hx, hfr', hfx⟩ := h.fr.last
 obtain ⟨rfl, hx2⟩ := List.append_inj' hx rfl
 obtain rfl : (b, vl, vm) = x := by simpa using hx2
 have hfb := hfx
 have nst : ∀ b o, H.m b = some o → (∀ k, o ≠ .tip 40 k true) → b ∉ slid stmv := by
  intro b o hb hne hc
  obtain ⟨_, _, k, g⟩ := h.stm.tip b hc
  rw [hb] at g; cases g; exact hne k rfl
 have nfx : ∀ b' o, H.m b' = some o → (∀ k, o ≠ .tip 3 k true) → b' ∉ fids (b, vl, vm) := by
  intro b' o hb hne hc
  obtain ⟨_, _, k, g⟩ := hfx.ids b' hc
  rw [hb] at g; cases g; exact hne k rfl
 have hnd := h.nodt
 rw [List.flatMap_append, ← List.append_assoc, List.nodup_append] at hnd
 obtain ⟨hnd1, hnd2, hnd3⟩ := hnd
 have htip : ∀ id, (∃ k, H.m id = some (.tip 3 k true)) → id < H.next → id ∈ slid topv ++ fs'.flatMap fids → H'.m id = H.m id := by
  rintro id ⟨k, g⟩ hlt hmem
  refine q5 id hlt (nst id _ g (by simp)) (mne g h.obj (by simp)) (mne g hfx.2.2.1 (by simp)) fun hc => ?_
  exact hnd3 id hmem id (by simpa using hc) rfl
 exact {
  hp := Nat.lt_of_lt_of_le h.hp q1
  lop := h.lop
  obj := q2
  stm := q3
  stmR := q3'
  top := h.top.keep q1 fun id hi => by
   obtain ⟨_, g2, k, g3⟩ := h.top.tip id hi
   exact htip id ⟨k, g3⟩ g2 (by simp [hi])
  op := by
   rcases h.op with ⟨_, g⟩ | ⟨r, cs, g1, g2, g3, g4, g5⟩
   ·simp at g
   ·refine .inr ⟨r, cs, by simpa using g1, g2, Nat.lt_of_lt_of_le g3 q1, ?_, by simpa using g5⟩
    rw [q5 r g3 (nst r _ g4 (by simp)) (mne g4 h.obj (by simp)) (mne g4 hfx.2.2.1 (by simp)) (nfx r _ g4 (by simp))]
    exact g4
  fr := (frs_keep hfr' q1 fun y hy => by
   obtain ⟨f0, _, hf0⟩ := hfr'.mem y hy
   have hyb : y.1 ≠ b := by
    have := h.nodb
    rw [List.map_append, List.nodup_append] at this
    exact fun e => this.2.2 y.1 (List.mem_map.2 ⟨y, hy, rfl⟩) b (by simp) e
   refine ⟨q5 y.1 hf0.2.1 (nst _ _ hf0.2.2.1 (by simp)) (mne hf0.2.2.1 h.obj (by simp [FT, PT])) hyb (nfx _ _ hf0.2.2.1 (by simp)), fun id hi => ?_⟩
   obtain ⟨_, g2, k, g3⟩ := hf0.ids id hi
   exact htip id ⟨k, g3⟩ g2 (by simp only [List.mem_append, List.mem_flatMap]; exact .inr ⟨y, hy, hi⟩)).app (.cons q4 .nil)
  nodb := by have := h.nodb; simpa using this
  nodt := by
   rw [List.flatMap_append, ← List.append_assoc, List.nodup_append]
   refine ⟨hnd1, by simpa using q7, fun i hi j hj => ?_⟩
   have hj' : j ∈ fids (b, vl', vm') := by simpa using hj
   rcases q6 j hj' with g | g
   ·exact hnd3 i hi j (by simpa using g)
   ·have : i < H.next := by
     rcases List.mem_append.1 hi with hi | hi
     ·exact (h.top.tip i hi).2.1
     ·rw [List.mem_flatMap] at hi
      obtain ⟨y, hy, hi⟩ := hi
      obtain ⟨f0, _, hf0⟩ := hfr'.mem y hy
      exact (hf0.ids i hi).2.1
    omega }
theorem addOs_last (n : Nat) : ∀ (os : List Fr) (f : Fr), addOs n (os ++ [f]) = os ++ [if f.other then { f with s := { f.s with m := f.s.m ++ [n] } } else { f with s := { f.s with l := f.s.l ++ [n] } }]
 | [], f => rfl
 | [a], f => rfl
 | a :: b :: os, f => by
  have := addOs_last n (b :: os) f
  simp only [List.cons_append] at this ⊢
  rw [addOs]
  rw [this]
  simp
theorem pwhole_ok {lo : Nat} {H : DH} {p md : Nat} {tok at_ e : DV} {R : List Stm} {top : List Nat} {os : List Fr} {stmv topv opv : DV} {es : List DV} {fs : List Fx} (h : PI lo H p md tok at_ e R top os stmv topv opv es fs) (hb : Bnd R top os) (hlo : lo ≤ H.next)
  {s : Stm} {d : DV} (hd : StmV s d) :
  WC cfg 74 [.ptr p 0, d] H fun v H' => v = .tup [] ∧ Low lo H H' ∧ ∃ stmv topv opv es fs, PI lo H' p md tok at_ e (R ++ [s]) (if os.isEmpty then top ++ [R.length] else top) (addOs R.length os) stmv topv opv es fs := by
 refine WC_of (show Has cfg 74 82 [] _ from ⟨by kernel_rfl, Tryz.f74, Tryz.func74, rfl, rfl, rfl, by kernel_rfl⟩) (by simp) ?_
 obtain ⟨d1, d2, d3, d4, d5, d6, d7, d8, rfl, o1, o2, o3, o4, o5, o6, o7, o8⟩ := hd.ones
 have hp := h.hp
 have hm := h.obj
 have h0 : ¬ p = H.next := by omega
 have h1 : ¬ p = H.next + 1 := by omega
 have hel : es.length = R.length := h.stmR.len.symm
 have hRb := hb.hR
 have hn1 : ∀ H', lenD cfg.T H' 24 stmv = some (.int .i64 R.length) := fun H' => by rw [h.stm.len und_24, hel]
 simp -dsimp (disch := first | omega | (apply DrawYes.mk; decide +kernel)) only [go_sem, hm, h0, hn1, o1, o2, o3, o4, o5, o6, o7, o8]
 refine Y_float [(5, 0, 8)] (by decide +kernel) ?_
 simp -dsimp (disch := first | omega | (apply DrawYes.mk; decide +kernel)) only [go_sem, hm, h0, h1, hn1, o1, o2, o3, o4, o5, o6, o7, o8]
 have hst := (h.stm.new (o := .cells 40 [d1, d2, d3, d4, d5, d6, d7, d8])).new (o := .tip 40 1 true)
 refine app2 (lo := lo) (es := es) (new := [.agg [d1, d2, d3, d4, d5, d6, d7, d8]]) und_24 size_40 bytes_40 und_24 zero_40 rfl rfl (by decide) hst rfl (by simp) (by simp only [new_next]; omega) (by simp; omega) (by simp; omega) ?_
 intro stmv2 H2 i2 hs2 hn2 hf2 hi2 ho2
 have hp2 : p ≠ i2 := by
  rcases ho2 with g | g
  ·obtain ⟨_, _, k, g2⟩ := h.stm.tip i2 (by rw [g]; simp)
   exact mne hm g2 (by simp)
  ·rw [g]; simp only [new_next]; omega
 have hm2 : H2.m p = some (.cells PT [tok, .int .i64 md, stmv, topv, opv, at_, e]) := by rw [hf2 p hp2]; simp only [new_m, new_next, if_neg h0, if_neg h1, hm]
 simp only [new_next] at hn2
 have o9 : stmv2.cells = [stmv2] ∧ stmv2.one = true := hs2.one
 obtain ⟨o9, o10⟩ := o9
 have hk2 : ∀ b, b < H.next → b ∉ slid stmv → H2.m b = H.m b := by
  intro b hb hns
  have hbi : b ≠ i2 := by
   rintro rfl
   rcases ho2 with g | g
   ·exact hns (by rw [g]; simp)
   ·rw [g] at hb; simp only [new_next] at hb; omega
  rw [hf2 b hbi]; simp only [new_m, new_next, if_neg (by omega : ¬ b = H.next), if_neg (by omega : ¬ b = H.next + 1)]
 have nst : ∀ b o, H.m b = some o → (∀ k, o ≠ .tip 40 k true) → b ∉ slid stmv := by
  intro b o hb hne hc
  obtain ⟨_, _, k, g⟩ := h.stm.tip b hc
  rw [hb] at g; cases g; exact hne k rfl
 obtain ⟨_, hi2n, k2, hi2t⟩ := hs2.tip i2 (by rw [hi2]; simp)
 have hR2 : All2 StmV (R ++ [s]) (es ++ [.agg [d1, d2, d3, d4, d5, d6, d7, d8]]) := h.stmR.app (.cons hd .nil)
 have htl := hb.ht
 rcases nil_or_last os with rfl | ⟨os', f, rfl⟩
 ·have hfs : fs = [] := by have := h.fr; cases this; rfl
  subst hfs
  have hlen0 : ∀ H', lenD cfg.T H' 66 opv = some (.int .i64 0) := by
   intro H'
   rcases h.op with ⟨rfl, _⟩ | ⟨r, cs, rfl, _⟩ <;> simp -dsimp (disch := first | omega | (apply DrawYes.mk; decide +kernel)) only [go_sem, List.length_nil]
  simp -dsimp (disch := first | omega | (apply DrawYes.mk; decide +kernel)) only [go_sem, hm2, h0, h1, o9, o10, hlen0]
  have ktop : ∀ id ∈ slid topv, id < H.next ∧ H2.m id = H.m id ∧ id ≠ p ∧ ∃ k, H.m id = some (.tip 3 k true) := by
   intro id hi
   obtain ⟨_, g2, k, g3⟩ := h.top.tip id hi
   exact ⟨g2, hk2 id g2 (nst id _ g3 (by simp)), mne g3 hm (by simp), k, g3⟩
  have htop : IsSl lo ((H2.set p (.cells PT [tok, .int .i64 md, stmv2, topv, opv, at_, e])).new (.tip 3 1 true)) 3 1 topv (top.map intV) := by
   refine h.top.keep (by simp only [new_next, set_next]; omega) fun id hi => ?_
   obtain ⟨g1, g2, g3, _⟩ := ktop id hi
   simp only [new_m, set_m, new_next, set_next, if_neg g3, if_neg (by omega : ¬ id = H2.next), g2]
  refine app2 (lo := lo) (es := top.map intV) (new := [.int .i64 R.length]) und_25 size_3 bytes_3 und_25 zero_3 rfl rfl (by decide) htop rfl (by simp) (by simp only [new_next, set_next]; omega) (by simp; omega) (by simp; omega) ?_
  intro topv2 H4 i4 hs4 hn4 hf4 hi4 ho4
  simp only [new_next, set_next] at hn4
  obtain ⟨o11, o12⟩ := hs4.one
  have hp4 : p ≠ i4 := by
   rcases ho4 with g | g
   ·exact (ktop i4 (by rw [g]; simp)).2.2.1.symm
   ·rw [g]; simp only [new_next, set_next]; omega
  have h24 : i2 ≠ i4 := by
   rcases ho4 with g | g
   ·obtain ⟨_, g2, _, k, g4⟩ := ktop i4 (by rw [g]; simp)
    exact mne hi2t (g2.trans g4) (by simp)
   ·rw [g]; simp only [new_next, set_next]; omega
  have h2n : ¬ p = H2.next := by omega
  have hm4 : H4.m p = some (.cells PT [tok, .int .i64 md, stmv2, topv, opv, at_, e]) := by rw [hf4 p hp4]; simp only [new_m, set_m, new_next, set_next, if_neg h2n, if_pos]
  simp -dsimp (disch := first | omega | (apply DrawYes.mk; decide +kernel)) only [go_sem, hm4, o11, o12]
  obtain ⟨hlo4, hi4n, k4, hi4t⟩ := hs4.tip i4 (by rw [hi4]; simp)
  have hk4 : ∀ o b, b < H.next → b ∉ slid stmv → b ∉ slid topv → b ≠ p → (H4.set p o).m b = H.m b := by
   intro o b g1 g2 g3 g4
   have hb4 : b ≠ i4 := by
    rintro rfl
    rcases ho4 with g | g
    ·exact g3 (by rw [g]; simp)
    ·rw [g] at g1; simp only [new_next, set_next] at g1; omega
   rw [set_m, if_neg g4, hf4 b hb4]
   simp only [new_m, set_m, new_next, set_next, if_neg g4, if_neg (by omega : ¬ b = H2.next)]
   exact hk2 b g1 g2
  have hlop := h.lop
  refine ⟨⟨by simp only [set_next]; omega, fun b hb => hk4 _ b (by omega) (fun hc => by have := (h.stm.tip b hc).1; omega) (fun hc => by have := (h.top.tip b hc).1; omega) (by omega)⟩, stmv2, topv2, opv, es ++ [.agg [d1, d2, d3, d4, d5, d6, d7, d8]], [], ?_⟩
  exact {
   hp := by simp only [set_next]; omega
   lop := h.lop
   obj := by rw [set_m, if_pos rfl]
   stm := hs2.keep (by simp only [set_next]; omega) fun id hi => by
    rw [hi2] at hi
    simp only [List.mem_singleton] at hi
    subst hi
    rw [set_m, if_neg (Ne.symm hp2), hf4 id h24]
    simp only [new_m, set_m, new_next, set_next, if_neg (Ne.symm hp2), if_neg (by omega : ¬ id = H2.next)]
   stmR := hR2
   top := by
    have := hs4.keep (H' := H4.set p (.cells PT [tok, .int .i64 md, stmv2, topv2, opv, at_, e])) (Nat.le_refl _) fun id hi => by
     rw [hi4] at hi
     simp only [List.mem_singleton] at hi
     subst hi
     rw [set_m, if_neg (Ne.symm hp4)]
    simpa [intV] using this
   op := h.op.imp id fun ⟨r, cs, q1, q2, q3, q4, q5⟩ => ⟨r, cs, q1, q2, by simp only [set_next]; omega, by
    rw [hk4 _ r q3 (nst r _ q4 (by simp)) (fun hc => by obtain ⟨_, _, k, g⟩ := h.top.tip r hc; rw [q4] at g; cases g) (mne q4 hm (by simp))]
    exact q4, q5⟩
   fr := .nil
   nodb := by simp
   nodt := by simp [hi4] }
 ·obtain ⟨fs', x, rfl, hfr', hfx⟩ := h.fr.last
  have hfl : (fs' ++ [x]).length = os'.length + 1 := by rw [List.length_append, hfr'.len]; rfl
  obtain ⟨r, cs, rfl, hr1, hr2, hr3, hr4⟩ : ∃ r cs, opv = .hs r 1 0 (os'.length + 1) ∧ lo ≤ r ∧ r < H.next ∧ H.m r = some (.row 112 cs) ∧ cs.take (os'.length + 1) = (fs' ++ [x]).map fun x => .ptr x.1 0 := by
   rcases h.op with ⟨_, g⟩ | ⟨r, cs, g1, g2, g3, g4, g5⟩
   ·simp at g
   ·rw [hfl] at g1 g5; exact ⟨r, cs, g1, g2, g3, g4, g5⟩
  obtain ⟨b, vl, vm⟩ := x
  obtain ⟨hb1, hb2, hb3, hvl, hvm⟩ := hfx
  simp only at hb1 hb2 hb3 hvl hvm
  have hrow : H2.m r = some (.row 112 cs) := (hk2 r hr2 (nst r _ hr3 (by simp))).trans hr3
  have hbm : H2.m b = _ := (hk2 b hb2 (nst b _ hb3 (by simp))).trans hb3
  have hrp : r ≠ p := mne hr3 hm (by simp)
  have hbp : b ≠ p := mne hb3 hm (by simp [FT, PT])
  have hcd : List.drop os'.length cs = .ptr b 0 :: List.drop (os'.length + 1) cs := by
   have : cs[os'.length]? = some (.ptr b 0) := by
    have hq : (cs.take (os'.length + 1))[os'.length]? = some (.ptr b 0) := by
     rw [hr4, List.map_append, List.getElem?_append_right (by simp [hfr'.len])]
     simp [hfr'.len]
    rw [List.getElem?_take, if_pos (by omega)] at hq; exact hq
   rw [List.drop_eq_getElem?_toList_append, this]; rfl
  have hosl : os'.length < 100000 := by have := hb.hl; simp at this; omega
  have z1 : (((os'.length + 1 : Nat) : Int) == 0) = false := by simp; omega
  have z2 : (((os'.length + 1 : Nat) : Int) - 1).toNat = os'.length := by omega
  have z3 : (0 : Int) ≤ ((os'.length + 1 : Nat) : Int) - 1 := by omega
  have z4 : ((os'.length + 1 : Nat) : Int) - 1 < ((os'.length + 1 : Nat) : Int) := by omega
  cases hot : f.other with
  | true =>
   simp -dsimp (disch := first | omega | (apply DrawYes.mk; decide +kernel)) only [go_sem, hm2, h0, h1, o9, o10, hrow, hbm, hrp, hbp, hcd, Nat.mul_one, hot, z1, z2, z3, z4]
   have kv : ∀ id ∈ slid vm, id < H.next ∧ H2.m id = H.m id ∧ id ≠ p ∧ id ≠ b ∧ ∃ k, H.m id = some (.tip 3 k true) := by
    intro id hi
    obtain ⟨_, g2, k, g3⟩ := hvm.tip id hi
    exact ⟨g2, hk2 id g2 (nst id _ g3 (by simp)), mne g3 hm (by simp), mne g3 hb3 (by simp), k, g3⟩
   have kw : ∀ id ∈ slid vl, id < H.next ∧ H2.m id = H.m id ∧ id ≠ p ∧ id ≠ b ∧ ∃ k, H.m id = some (.tip 3 k true) := by
    intro id hi
    obtain ⟨_, g2, k, g3⟩ := hvl.tip id hi
    exact ⟨g2, hk2 id g2 (nst id _ g3 (by simp)), mne g3 hm (by simp), mne g3 hb3 (by simp), k, g3⟩
   have hvv : IsSl lo ((H2.set p (.cells PT [tok, .int .i64 md, stmv2, topv, .hs r 1 0 (os'.length + 1), at_, e])).new (.tip 3 1 true)) 3 1 vm (f.s.m.map intV) := by
    refine hvm.keep (by simp only [new_next, set_next]; omega) fun id hi => ?_
    obtain ⟨g1, g2, g3, _⟩ := kv id hi
    simp only [new_m, set_m, new_next, set_next, if_neg g3, if_neg (by omega : ¬ id = H2.next), g2]
   have hfb := hb.ho f (by simp)
   refine app2 (lo := lo) (es := f.s.m.map intV) (new := [.int .i64 R.length]) und_25 size_3 bytes_3 und_25 zero_3 rfl rfl (by decide) hvv rfl (by simp) (by simp only [new_next, set_next]; omega) (by simp; omega) (by simp; omega) ?_
   intro v2 H4 i4 hs4 hn4 hf4 hi4 ho4
   simp only [new_next, set_next] at hn4
   obtain ⟨o11, o12⟩ := hs4.one
   obtain ⟨hlo4, hi4n, k4, hi4t⟩ := hs4.tip i4 (by rw [hi4]; simp)
   have hx4 : ∀ i, i < H2.next → i ∉ slid vm → i ≠ i4 := by
    rintro i g1 g2 rfl
    rcases ho4 with g | g
    ·exact g2 (by rw [g]; simp)
    ·rw [g] at g1; simp only [new_next, set_next] at g1; omega
   have hp4 : p ≠ i4 := hx4 p (by omega) fun hc => (kv p hc).2.2.1 rfl
   have hb4 : b ≠ i4 := hx4 b (by omega) fun hc => (kv b hc).2.2.2.1 rfl
   have h24 : i2 ≠ i4 := hx4 i2 hi2n fun hc => by
    obtain ⟨_, g2, _, _, k, g4⟩ := kv i2 hc
    exact mne hi2t (g2.trans g4) (by simp) rfl
   have h2p : ¬ p = H2.next := by omega
   have h2b : ¬ b = H2.next := by omega
   have hbm4 : H4.m b = some (.cells FT [.int .i64 f.s.kind, .str f.s.s, .str f.s.t, .str f.s.u, .int .i64 f.s.n, .int .i64 f.s.at_, vl, vm, .bool f.other]) := by
    rw [hf4 b hb4]; simp only [new_m, set_m, new_next, set_next, if_neg h2b, if_neg hbp, hbm]
   have hpm4 : H4.m p = some (.cells PT [tok, .int .i64 md, stmv2, topv, .hs r 1 0 (os'.length + 1), at_, e]) := by
    rw [hf4 p hp4]; simp only [new_m, set_m, new_next, set_next, if_neg h2p, if_pos]
   have hk4 : ∀ o i, i < H.next → i ∉ slid stmv → i ≠ p → i ≠ b → i ∉ slid vm → (H4.set b o).m i = H.m i := by
    intro o i g1 g2 g3 g4 g5
    rw [set_m, if_neg g4, hf4 i (hx4 i (by omega) g5)]
    simp only [new_m, set_m, new_next, set_next, if_neg g3, if_neg (by omega : ¬ i = H2.next)]
    exact hk2 i g1 g2
   have hlop := h.lop
   simp -dsimp (disch := first | omega | (apply DrawYes.mk; decide +kernel)) only [go_sem, hbm4, o11, o12, hot]
   refine ⟨⟨by simp only [set_next]; omega, fun i hi => hk4 _ i (by omega) (fun hc => by have := (h.stm.tip i hc).1; omega) (by omega) (by omega) (fun hc => by have := (hvm.tip i hc).1; omega)⟩, stmv2, topv, .hs r 1 0 (os'.length + 1), es ++ [.agg [d1, d2, d3, d4, d5, d6, d7, d8]], fs' ++ [(b, vl, v2)], ?_⟩
   rw [addOs_last, hot]
   have hnv := h.nodt
   rw [List.flatMap_append, ← List.append_assoc, List.nodup_append] at hnv
   have hnx : (slid vl ++ slid vm).Nodup := by simpa [fids] using hnv.2.1
   rw [List.nodup_append] at hnx
   have hemp : (os' ++ [f]).isEmpty = false := by simp
   simp only [hemp, Bool.false_eq_true, if_false, if_true]
   refine pi_last h (by simp only [set_next]; omega) (by rw [set_m, if_neg (Ne.symm hbp), hpm4]) (hs2.keep (by simp only [set_next]; omega) fun id hi => ?_) hR2 ⟨hb1, by simp only [set_next]; omega, by rw [set_m, if_pos rfl], ?_, ?_⟩ (fun i g1 g2 g3 g4 g5 => hk4 _ i g1 g2 g3 g4 fun hc => g5 (by simp [fids, hc])) ?_ ?_
   ·rw [hi2] at hi
    simp only [List.mem_singleton] at hi
    subst hi
    have e1 : id ≠ b := by
     rintro rfl
     rw [hbm] at hi2t; cases hi2t
    rw [set_m, if_neg e1, hf4 id h24]
    simp only [new_m, set_m, new_next, set_next, if_neg (Ne.symm hp2), if_neg (by omega : ¬ id = H2.next)]
   ·exact hvl.keep (by simp only [set_next]; omega) fun id hi => by
     obtain ⟨g1, g2, g3, g4, _⟩ := kw id hi
     rw [set_m, if_neg g4, hf4 id (hx4 id (by omega) fun hc => hnx.2.2 id hi id hc rfl)]
     simp only [new_m, set_m, new_next, set_next, if_neg g3, if_neg (by omega : ¬ id = H2.next), g2]
   ·simpa [intV] using hs4.keep (H' := H4.set b _) (Nat.le_refl _) fun id hi => by
     rw [hi4] at hi
     simp only [List.mem_singleton] at hi
     subst hi
     rw [set_m, if_neg (Ne.symm hb4)]
   ·intro id hi
    simp only [fids, List.mem_append] at hi ⊢
    have hmv : id ∈ slid v2 → (id ∈ slid vl ∨ id ∈ slid vm) ∨ H.next ≤ id := by
     intro hi
     rw [hi4] at hi
     simp only [List.mem_singleton] at hi
     subst hi
     rcases ho4 with g | g
     ·exact .inl (by rw [g]; simp)
     ·right; rw [g]; simp only [new_next, set_next]; omega
    rcases hi with hi | hi
    ·exact .inl (.inl hi)
    ·exact hmv hi
   ·simp only [fids, List.nodup_append]
    refine ⟨hnx.1, by rw [hi4]; simp, fun i hi j hj => ?_⟩
    rw [hi4] at hj
    simp only [List.mem_singleton] at hj
    subst hj
    have := kw i hi
    rcases ho4 with g | g
    ·exact hnx.2.2 i hi j (by rw [g]; simp)
    ·rw [g]; simp only [new_next, set_next]; omega
  | false =>
   simp -dsimp (disch := first | omega | (apply DrawYes.mk; decide +kernel)) only [go_sem, hm2, h0, h1, o9, o10, hrow, hbm, hrp, hbp, hcd, Nat.mul_one, hot, z1, z2, z3, z4]
   have kv : ∀ id ∈ slid vl, id < H.next ∧ H2.m id = H.m id ∧ id ≠ p ∧ id ≠ b ∧ ∃ k, H.m id = some (.tip 3 k true) := by
    intro id hi
    obtain ⟨_, g2, k, g3⟩ := hvl.tip id hi
    exact ⟨g2, hk2 id g2 (nst id _ g3 (by simp)), mne g3 hm (by simp), mne g3 hb3 (by simp), k, g3⟩
   have kw : ∀ id ∈ slid vm, id < H.next ∧ H2.m id = H.m id ∧ id ≠ p ∧ id ≠ b ∧ ∃ k, H.m id = some (.tip 3 k true) := by
    intro id hi
    obtain ⟨_, g2, k, g3⟩ := hvm.tip id hi
    exact ⟨g2, hk2 id g2 (nst id _ g3 (by simp)), mne g3 hm (by simp), mne g3 hb3 (by simp), k, g3⟩
   have hvv : IsSl lo ((H2.set p (.cells PT [tok, .int .i64 md, stmv2, topv, .hs r 1 0 (os'.length + 1), at_, e])).new (.tip 3 1 true)) 3 1 vl (f.s.l.map intV) := by
    refine hvl.keep (by simp only [new_next, set_next]; omega) fun id hi => ?_
    obtain ⟨g1, g2, g3, _⟩ := kv id hi
    simp only [new_m, set_m, new_next, set_next, if_neg g3, if_neg (by omega : ¬ id = H2.next), g2]
   have hfb := hb.ho f (by simp)
   refine app2 (lo := lo) (es := f.s.l.map intV) (new := [.int .i64 R.length]) und_25 size_3 bytes_3 und_25 zero_3 rfl rfl (by decide) hvv rfl (by simp) (by simp only [new_next, set_next]; omega) (by simp; omega) (by simp; omega) ?_
   intro v2 H4 i4 hs4 hn4 hf4 hi4 ho4
   simp only [new_next, set_next] at hn4
   obtain ⟨o11, o12⟩ := hs4.one
   obtain ⟨hlo4, hi4n, k4, hi4t⟩ := hs4.tip i4 (by rw [hi4]; simp)
   have hx4 : ∀ i, i < H2.next → i ∉ slid vl → i ≠ i4 := by
    rintro i g1 g2 rfl
    rcases ho4 with g | g
    ·exact g2 (by rw [g]; simp)
    ·rw [g] at g1; simp only [new_next, set_next] at g1; omega
   have hp4 : p ≠ i4 := hx4 p (by omega) fun hc => (kv p hc).2.2.1 rfl
   have hb4 : b ≠ i4 := hx4 b (by omega) fun hc => (kv b hc).2.2.2.1 rfl
   have h24 : i2 ≠ i4 := hx4 i2 hi2n fun hc => by
    obtain ⟨_, g2, _, _, k, g4⟩ := kv i2 hc
    exact mne hi2t (g2.trans g4) (by simp) rfl
   have h2p : ¬ p = H2.next := by omega
   have h2b : ¬ b = H2.next := by omega
   have hbm4 : H4.m b = some (.cells FT [.int .i64 f.s.kind, .str f.s.s, .str f.s.t, .str f.s.u, .int .i64 f.s.n, .int .i64 f.s.at_, vl, vm, .bool f.other]) := by
    rw [hf4 b hb4]; simp only [new_m, set_m, new_next, set_next, if_neg h2b, if_neg hbp, hbm]
   have hpm4 : H4.m p = some (.cells PT [tok, .int .i64 md, stmv2, topv, .hs r 1 0 (os'.length + 1), at_, e]) := by
    rw [hf4 p hp4]; simp only [new_m, set_m, new_next, set_next, if_neg h2p, if_pos]
   have hk4 : ∀ o i, i < H.next → i ∉ slid stmv → i ≠ p → i ≠ b → i ∉ slid vl → (H4.set b o).m i = H.m i := by
    intro o i g1 g2 g3 g4 g5
    rw [set_m, if_neg g4, hf4 i (hx4 i (by omega) g5)]
    simp only [new_m, set_m, new_next, set_next, if_neg g3, if_neg (by omega : ¬ i = H2.next)]
    exact hk2 i g1 g2
   have hlop := h.lop
   simp -dsimp (disch := first | omega | (apply DrawYes.mk; decide +kernel)) only [go_sem, hbm4, o11, o12, hot]
   refine ⟨⟨by simp only [set_next]; omega, fun i hi => hk4 _ i (by omega) (fun hc => by have := (h.stm.tip i hc).1; omega) (by omega) (by omega) (fun hc => by have := (hvl.tip i hc).1; omega)⟩, stmv2, topv, .hs r 1 0 (os'.length + 1), es ++ [.agg [d1, d2, d3, d4, d5, d6, d7, d8]], fs' ++ [(b, v2, vm)], ?_⟩
   rw [addOs_last, hot]
   have hnv := h.nodt
   rw [List.flatMap_append, ← List.append_assoc, List.nodup_append] at hnv
   have hnx : (slid vl ++ slid vm).Nodup := by simpa [fids] using hnv.2.1
   rw [List.nodup_append] at hnx
   have hemp : (os' ++ [f]).isEmpty = false := by simp
   simp only [hemp, Bool.false_eq_true, if_false, if_true]
   refine pi_last h (by simp only [set_next]; omega) (by rw [set_m, if_neg (Ne.symm hbp), hpm4]) (hs2.keep (by simp only [set_next]; omega) fun id hi => ?_) hR2 ⟨hb1, by simp only [set_next]; omega, by rw [set_m, if_pos rfl], ?_, ?_⟩ (fun i g1 g2 g3 g4 g5 => hk4 _ i g1 g2 g3 g4 fun hc => g5 (by simp [fids, hc])) ?_ ?_
   ·rw [hi2] at hi
    simp only [List.mem_singleton] at hi
    subst hi
    have e1 : id ≠ b := by
     rintro rfl
     rw [hbm] at hi2t; cases hi2t
    rw [set_m, if_neg e1, hf4 id h24]
    simp only [new_m, set_m, new_next, set_next, if_neg (Ne.symm hp2), if_neg (by omega : ¬ id = H2.next)]
   ·simpa [intV] using hs4.keep (H' := H4.set b _) (Nat.le_refl _) fun id hi => by
     rw [hi4] at hi
     simp only [List.mem_singleton] at hi
     subst hi
     rw [set_m, if_neg (Ne.symm hb4)]
   ·exact hvm.keep (by simp only [set_next]; omega) fun id hi => by
     obtain ⟨g1, g2, g3, g4, _⟩ := kw id hi
     rw [set_m, if_neg g4, hf4 id (hx4 id (by omega) fun hc => hnx.2.2 id hc id hi rfl)]
     simp only [new_m, set_m, new_next, set_next, if_neg g3, if_neg (by omega : ¬ id = H2.next), g2]
   ·intro id hi
    simp only [fids, List.mem_append] at hi ⊢
    have hmv : id ∈ slid v2 → (id ∈ slid vl ∨ id ∈ slid vm) ∨ H.next ≤ id := by
     intro hi
     rw [hi4] at hi
     simp only [List.mem_singleton] at hi
     subst hi
     rcases ho4 with g | g
     ·exact .inl (by rw [g]; simp)
     ·right; rw [g]; simp only [new_next, set_next]; omega
    rcases hi with hi | hi
    ·exact hmv hi
    ·exact .inl (.inr hi)
   ·simp only [fids, List.nodup_append]
    refine ⟨by rw [hi4]; simp, hnx.2.1, fun i hi j hj => ?_⟩
    rw [hi4] at hi
    simp only [List.mem_singleton] at hi
    subst hi
    have := kw j hj
    rcases ho4 with g | g
    ·exact hnx.2.2 i (by rw [g]; simp) j hj
    ·rw [g]; simp only [new_next, set_next]; omega
end Go.Proofs.YtcknfhhbijlobaaGreatDoor.D
namespace Go.Proofs.YtcknfhhbijlobaaGreatDoor.D
open Go
set_option linter.unusedVariables false
set_option linter.unusedSimpArgs false
set_option maxRecDepth 100000
theorem one1_ok {tb : Nat} {s tx : List UInt8} {kd pos : DV} {H : DH} (ht : tb < H.next) (hm : H.m tb = some (.cells 71 [kd, .str tx, pos])) (hs : s.length < 100) (h9 : (9 : UInt8) ∉ s) (hw : s = [] ∨ ∃ h r, wordsB s = h :: r) :
  WC cfg 76 [.str s, .ptr tb 0] H fun v H' => v = .bool (!s.isEmpty && ((wordsB s).headD [] == tx)) ∧ Ext H H' := by
 refine WC_of (show Has cfg 76 15 [.tmp 3] _ from ⟨by kernel_rfl, Tryz.f76, Tryz.func76, rfl, rfl, rfl, by kernel_rfl⟩) (by simp) ?_
 simp -dsimp (disch := first | omega | (apply DrawYes.mk; decide +kernel)) only [go_sem]
 refine Y_float [(8, 0, 8)] (by decide +kernel) ?_
 rcases hw with rfl | ⟨h, r, hw⟩
 ·simp -dsimp (disch := first | omega | (apply DrawYes.mk; decide +kernel)) only [go_sem, hm]
  exact ⟨by simp, Ext.refl⟩
 ·have hne : (s == []) = false := by
   cases s with
   | nil => simp [wordsB, splitC] at hw
   | cons a l => rfl
  simp -dsimp (disch := first | omega | (apply DrawYes.mk; decide +kernel)) only [go_sem, hm, hne]
  refine call (words_ok (by omega) h9) ?_
  rintro v H1 ⟨hE, hsl⟩
  have hm1 := hE.get ht hm
  rw [hw] at hsl
  rcases hsl with ⟨_, g⟩ | ⟨id, off, k, rfl, _⟩
  ·simp at g
  have hee : s.isEmpty = false := by
   cases s with
   | nil => simp at hne
   | cons a l => rfl
  simp -dsimp (disch := first | omega | (apply DrawYes.mk; decide +kernel)) only [go_sem, hm, hm1, hne, List.map_cons, hw, List.headD_cons, hee]
  exact hE
theorem shapes_at : ∀ k, k < 18 → (shapeL k).length < 100 ∧ (9 : UInt8) ∉ shapeL k ∧ ((shapeL k).isEmpty = (headsL.getD k []).isEmpty) ∧ (wordsB (shapeL k)).headD [] = headsL.getD k [] ∧ (shapeL k = [] ∨ wordsB (shapeL k) ≠ []) := by decide
def predT (tx h : List UInt8) : Bool := !h.isEmpty && h == tx
def kindI (tx : List UInt8) : Int := match kindT tx with | some i => i | none => -1
theorem idxFunc_ok {tb id off : Nat} {tx : List UInt8} {kd pos : DV} {H : DH} (ht : tb < H.next) (hm : H.m tb = some (.cells 71 [kd, .str tx, pos])) :
  WC cfg 75 [.sl id 1 off (shapesL.map DV.str), .fn (.func 76) [] [.ptr tb 0]] H fun v H' => v = .int .i64 (kindI tx) ∧ Ext H H' := by
 refine WC_of (show Has cfg 75 19 [.tmp 4] _ from ⟨by kernel_rfl, Tryz.f75, Tryz.func75, rfl, rfl, rfl, by kernel_rfl⟩) (by simp) ?_
 have hl18 : (shapesL.map DV.str).length = 18 := rfl
 simp -dsimp (disch := first | omega | (apply DrawYes.mk; decide +kernel)) only [go_sem, hl18]
 refine Y_loop (α := Nat) (fun k σ H' => Ext H H' ∧ k ≤ 18 ∧ (∀ y ∈ headsL.take k, predT tx y = false) ∧ σ 0 = .sl id 1 off (shapesL.map DV.str) ∧ σ 1 = .fn (.func 76) [] [.ptr tb 0] ∧ σ 6 = .sl id 1 off (shapesL.map DV.str) ∧ σ 7 = .int .i64 18 ∧ σ 8 = .int .i64 k) (fun k => 18 - k) 0 ?_ ?_
 ·simp -dsimp (disch := first | omega | (apply DrawYes.mk; decide +kernel)) only [go_sem, hl18]
  exact ⟨Ext.refl, by simp⟩
 rintro k σ H1 ⟨hE, hk, hn, g0, g1, g6, g7, g8⟩
 by_cases hlt : k < 18
 ·have k0 : (k : Int) < 18 := by omega
  have hgs : (shapesL.map DV.str)[k]? = some (.str (shapeL k)) := by
   have : k < shapesL.length := hlt
   rw [List.getElem?_map, List.getElem?_eq_getElem this]
   simp [shapeL, List.getD, this]
  have hgh : headsL[k]? = some (headsL.getD k []) := by
   have : k < headsL.length := hlt
   rw [List.getElem?_eq_getElem this]
   simp [List.getD, this]
  obtain ⟨a1, a2, a3, a4, a5⟩ := shapes_at k hlt
  simp -dsimp (disch := first | omega | (apply DrawYes.mk; decide +kernel)) only [go_sem, g0, g1, g6, g7, g8, k0, hgs]
  refine ⟨by omega, call (one1_ok (by have := hE.le; omega) (hE.get ht hm) a1 a2 ?_) ?_⟩
  ·rcases a5 with h | h
   ·exact .inl h
   ·cases hw : wordsB (shapeL k) with
    | nil => exact absurd hw h
    | cons a l => exact .inr ⟨_, _, rfl⟩
  rintro _ H2 ⟨rfl, hE2⟩
  rw [a3, a4, show (!(headsL.getD k []).isEmpty && (headsL.getD k [] == tx)) = predT tx (headsL.getD k []) from rfl]
  cases hpr : predT tx (headsL.getD k []) with
  | true =>
   simp -dsimp (disch := first | omega | (apply DrawYes.mk; decide +kernel)) only [go_sem, g0, g1, g6, g7, g8, k0, hgs]
   refine ⟨?_, hE.trans hE2⟩
   have : kindT tx = some k := findIdx_at hgh hpr hn
   rw [kindI, this]
  | false =>
   simp -dsimp (disch := first | omega | (apply DrawYes.mk; decide +kernel)) only [go_sem, g0, g1, g6, g7, g8, k0, hgs]
   refine ⟨k + 1, ⟨hE.trans hE2, by omega, ?_, rfl⟩, by omega⟩
   intro y hy
   rw [List.take_add_one, hgh] at hy
   rcases List.mem_append.1 hy with hy | hy
   ·exact hn y hy
   ·simp only [Option.toList_some, List.mem_singleton] at hy; subst hy; exact hpr
 ·have k0 : ¬ (k : Int) < 18 := by omega
  simp -dsimp (disch := first | omega | (apply DrawYes.mk; decide +kernel)) only [go_sem, g0, g1, g6, g7, g8, k0]
  refine ⟨?_, hE⟩
  rw [List.take_of_length_le (show headsL.length ≤ k by have : headsL.length = 18 := rfl; omega)] at hn
  have : kindT tx = none := findIdx_no hn
  rw [kindI, this]
end Go.Proofs.YtcknfhhbijlobaaGreatDoor.D
