import Derived.Test.YtcknfhhbijlobaaGreatDoorChV
import Derived.Test.YtcknfhhbijlobaaGreatDoorPaV
namespace Go.Proofs.YtcknfhhbijlobaaGreatDoor.D
open Go
set_option linter.unusedVariables false
set_option linter.unusedSimpArgs false
set_option maxRecDepth 100000
def SlV (n : Nat) (v : DV) (l : List DV) : Prop := (v = .nils ∧ l = []) ∨ ∃ id off, v = .sl id n off l
theorem IsSl.slv {lo : Nat} {H : DH} {e sz : Nat} {v : DV} {l : List DV} (h : IsSl lo H e sz v l) : SlV sz v l := by
 rcases h with ⟨rfl, rfl⟩ | ⟨id, off, k, rfl, _⟩
 ·exact .inl ⟨rfl, rfl⟩
 ·exact .inr ⟨id, off, rfl⟩
theorem IsSn.slv {lo : Nat} {H : DH} {e sz : Nat} {v : DV} {l : List DV} (h : IsSn lo H e sz v l) : SlV sz v l := by
 obtain ⟨id, off, k, rfl, _⟩ := h
 exact .inr ⟨id, off, rfl⟩
theorem SlV.len {v : DV} {es : List DV} {sz : Nat} {T : Tab} {H : DH} {t e : TypeId} (h : SlV sz v es) (hu : T.und t = some (.slice e)) : lenD T H t v = some (.int .i64 es.length) := slv_len h hu
theorem sCont_ok {v : DV} {l : List (List UInt8)} {s : List UInt8} {H : DH} (hl : l.length < 1000000000) (hv : SlV 1 v (l.map .str)) : WC cfg 72 [v, .str s] H fun v H' => v = .bool (decide (s ∈ l)) ∧ H' = H := by
 rcases hv with ⟨rfl, h⟩ | h
 ·rw [List.map_eq_nil_iff] at h
  subst h
  refine WC_of (show Has cfg 72 9 [.tmp 4] _ from ⟨by kernel_rfl, Tryz.f72, Tryz.func72, rfl, rfl, rfl, by kernel_rfl⟩) (by simp) ?_
  simp -dsimp (disch := first | omega | (apply DrawYes.mk; decide +kernel)) only [go_sem]
  refine call (K := fun v H' => v = .int .i64 (-1) ∧ H' = H) ?_ ?_
  ·refine WC_of (show Has cfg 53 19 [.tmp 4] _ from ⟨by kernel_rfl, Tryz.f53, Tryz.func53, rfl, rfl, rfl, by kernel_rfl⟩) (by simp) ?_
   simp -dsimp (disch := first | omega | (apply DrawYes.mk; decide +kernel)) only [go_sem]
   refine Y_loop1 ?_
   simp -dsimp (disch := first | omega | (apply DrawYes.mk; decide +kernel)) only [go_sem]
  ·rintro _ _ ⟨rfl, rfl⟩
   simp -dsimp (disch := first | omega | (apply DrawYes.mk; decide +kernel)) only [go_sem]
   rfl
 ·exact sContains_ok hl h
theorem fidx_any {α : Type} {f : α → Bool} {l : List α} : (0 ≤ (match l.findIdx? f with | some i => (i : Int) | none => -1)) ↔ l.any f = true := by
 cases h : l.findIdx? f with
 | none =>
  rw [List.findIdx?_eq_none_iff] at h
  simp only [List.any_eq_true]
  constructor
  ·intro h2; omega
  ·rintro ⟨x, hx, hf⟩; rw [h x hx] at hf; cases hf
 | some i =>
  obtain ⟨h1, h2, _⟩ := List.findIdx?_eq_some_iff_getElem.1 h
  simp only [List.any_eq_true]
  exact ⟨fun _ => ⟨_, List.getElem_mem h1, h2⟩, fun _ => by omega⟩
theorem iFunc0_ok {v : DV} {l : List Nat} {f : Nat → Bool} {g : FuncId} {a c : List DV} {H : DH} (hl : l.length < 1000000000) (hv : SlV 1 v (l.map intV)) (hg : ∀ x ∈ l, ∀ H1, Ext H H1 → WC cfg g (a ++ [intV x] ++ c) H1 fun v H' => v = .bool (f x) ∧ Ext H1 H') :
  WC cfg 115 [v, .fn (.func g) a c] H fun v H' => v = .int .i64 (match l.findIdx? f with | some i => (i : Int) | none => -1) ∧ Ext H H' := by
 refine WC_of (show Has cfg 115 19 [.tmp 4] _ from ⟨by kernel_rfl, Tryz.f115, Tryz.func115, rfl, rfl, rfl, by kernel_rfl⟩) (by simp) ?_
 have hlen := fun H' => hv.len (H := H') (t := 25) und_25
 rw [List.length_map] at hlen
 simp -dsimp (disch := first | omega | (apply DrawYes.mk; decide +kernel)) only [go_sem, hlen]
 refine Y_loop (α := Nat) (fun k σ H' => Ext H H' ∧ k ≤ l.length ∧ (∀ y ∈ l.take k, f y = false) ∧ σ 0 = v ∧ σ 1 = .fn (.func g) a c ∧ σ 7 = .int .i64 l.length ∧ σ 8 = .int .i64 k) (fun k => l.length - k) 0 ?_ ?_
 ·simp -dsimp (disch := first | omega | (apply DrawYes.mk; decide +kernel)) only [go_sem]
  exact ⟨Ext.refl, Nat.zero_le _, by simp⟩
 rintro k σ H1 ⟨hE, hk, hn, s0, s1, s7, s8⟩
 by_cases hlt : k < l.length
 ·have i0 : (k : Int) < l.length := by omega
  obtain ⟨id, off, rfl⟩ : ∃ id off, v = .sl id 1 off (l.map intV) := by
   rcases hv with ⟨_, h⟩ | h
   ·rw [List.map_eq_nil_iff] at h; rw [h] at hlt; simp at hlt
   ·exact h
  have hgl : l[k]? = some l[k] := List.getElem?_eq_getElem hlt
  have hmem : l[k] ∈ l := List.getElem_mem hlt
  generalize l[k] = x at hgl hmem
  have hgm : (l.map intV)[k]? = some (intV x) := by rw [List.getElem?_map, hgl]; rfl
  simp -dsimp (disch := first | omega | (apply DrawYes.mk; decide +kernel)) only [go_sem, s0, s1, s7, s8, i0, hgm, intV]
  refine And.intro (by omega) ?_
  refine call (hg x hmem H1 hE) ?_
  rintro _ H2 ⟨rfl, hE2⟩
  cases hx : f x with
  | true =>
   simp -dsimp (disch := first | omega | (apply DrawYes.mk; decide +kernel)) only [go_sem, s0, s1, s7, s8, i0]
   refine ⟨?_, hE.trans hE2⟩
   rw [findIdx_at hgl hx hn]
  | false =>
   simp -dsimp (disch := first | omega | (apply DrawYes.mk; decide +kernel)) only [go_sem, s0, s1, s7, s8, i0]
   refine ⟨k + 1, ⟨hE.trans hE2, by omega, ?_, rfl⟩, by omega⟩
   intro y hy
   rw [List.take_add_one, hgl] at hy
   rcases List.mem_append.1 hy with hy | hy
   ·exact hn y hy
   ·simp only [Option.toList_some, List.mem_singleton] at hy; subst hy; exact hx
 ·have i0 : ¬ (k : Int) < l.length := by omega
  simp -dsimp (disch := first | omega | (apply DrawYes.mk; decide +kernel)) only [go_sem, s0, s1, s7, s8, i0]
  rw [List.take_of_length_le (by omega)] at hn
  exact ⟨by rw [findIdx_no hn], hE⟩
theorem iFunc_ok {v : DV} {l : List Nat} {f : Nat → Bool} {g : FuncId} {a c : List DV} {H : DH} (hl : l.length < 1000000000) (hv : SlV 1 v (l.map intV)) (hg : ∀ x ∈ l, ∀ H1, Ext H H1 → WC cfg g (a ++ [intV x] ++ c) H1 fun v H' => v = .bool (f x) ∧ Ext H1 H') :
  WC cfg 86 [v, .fn (.func g) a c] H fun v H' => v = .bool (l.any f) ∧ Ext H H' := by
 refine WC_of (show Has cfg 86 9 [.tmp 4] _ from ⟨by kernel_rfl, Tryz.f86, Tryz.func86, rfl, rfl, rfl, by kernel_rfl⟩) (by simp) ?_
 simp -dsimp (disch := first | omega | (apply DrawYes.mk; decide +kernel)) only [go_sem]
 refine call (iFunc0_ok hl hv hg) ?_
 rintro _ H1 ⟨rfl, hE⟩
 simp -dsimp (disch := first | omega | (apply DrawYes.mk; decide +kernel)) only [go_sem]
 refine ⟨?_, hE⟩
 have := fidx_any (f := f) (l := l)
 cases h : l.any f with
 | true => rw [decide_eq_true (this.2 h)]
 | false => rw [decide_eq_false (fun h2 => by rw [this.1 h2] at h; cases h)]
theorem sFunc0_ok {v : DV} {l : List (List UInt8)} {f : (List UInt8) → Bool} {g : FuncId} {a c : List DV} {H : DH} (hl : l.length < 1000000000) (hv : SlV 1 v (l.map DV.str)) (hg : ∀ x ∈ l, ∀ H1, Ext H H1 → WC cfg g (a ++ [DV.str x] ++ c) H1 fun v H' => v = .bool (f x) ∧ Ext H1 H') :
  WC cfg 75 [v, .fn (.func g) a c] H fun v H' => v = .int .i64 (match l.findIdx? f with | some i => (i : Int) | none => -1) ∧ Ext H H' := by
 refine WC_of (show Has cfg 75 19 [.tmp 4] _ from ⟨by kernel_rfl, Tryz.f75, Tryz.func75, rfl, rfl, rfl, by kernel_rfl⟩) (by simp) ?_
 have hlen := fun H' => hv.len (H := H') (t := 38) und_38
 rw [List.length_map] at hlen
 simp -dsimp (disch := first | omega | (apply DrawYes.mk; decide +kernel)) only [go_sem, hlen]
 refine Y_loop (α := Nat) (fun k σ H' => Ext H H' ∧ k ≤ l.length ∧ (∀ y ∈ l.take k, f y = false) ∧ σ 0 = v ∧ σ 1 = .fn (.func g) a c ∧ σ 7 = .int .i64 l.length ∧ σ 8 = .int .i64 k) (fun k => l.length - k) 0 ?_ ?_
 ·simp -dsimp (disch := first | omega | (apply DrawYes.mk; decide +kernel)) only [go_sem]
  exact ⟨Ext.refl, Nat.zero_le _, by simp⟩
 rintro k σ H1 ⟨hE, hk, hn, s0, s1, s7, s8⟩
 by_cases hlt : k < l.length
 ·have i0 : (k : Int) < l.length := by omega
  obtain ⟨id, off, rfl⟩ : ∃ id off, v = .sl id 1 off (l.map DV.str) := by
   rcases hv with ⟨_, h⟩ | h
   ·rw [List.map_eq_nil_iff] at h; rw [h] at hlt; simp at hlt
   ·exact h
  have hgl : l[k]? = some l[k] := List.getElem?_eq_getElem hlt
  have hmem : l[k] ∈ l := List.getElem_mem hlt
  generalize l[k] = x at hgl hmem
  have hgm : (l.map DV.str)[k]? = some (DV.str x) := by rw [List.getElem?_map, hgl]; rfl
  simp -dsimp (disch := first | omega | (apply DrawYes.mk; decide +kernel)) only [go_sem, s0, s1, s7, s8, i0, hgm, Nat.zero_add]
  refine And.intro (by omega) ?_
  refine call (hg x hmem H1 hE) ?_
  rintro _ H2 ⟨rfl, hE2⟩
  cases hx : f x with
  | true =>
   simp -dsimp (disch := first | omega | (apply DrawYes.mk; decide +kernel)) only [go_sem, s0, s1, s7, s8, i0]
   refine ⟨?_, hE.trans hE2⟩
   rw [findIdx_at hgl hx hn]
  | false =>
   simp -dsimp (disch := first | omega | (apply DrawYes.mk; decide +kernel)) only [go_sem, s0, s1, s7, s8, i0]
   refine ⟨k + 1, ⟨hE.trans hE2, by omega, ?_, rfl⟩, by omega⟩
   intro y hy
   rw [List.take_add_one, hgl] at hy
   rcases List.mem_append.1 hy with hy | hy
   ·exact hn y hy
   ·simp only [Option.toList_some, List.mem_singleton] at hy; subst hy; exact hx
 ·have i0 : ¬ (k : Int) < l.length := by omega
  simp -dsimp (disch := first | omega | (apply DrawYes.mk; decide +kernel)) only [go_sem, s0, s1, s7, s8, i0]
  rw [List.take_of_length_le (by omega)] at hn
  exact ⟨by rw [findIdx_no hn], hE⟩
theorem sFunc_ok {v : DV} {l : List (List UInt8)} {f : (List UInt8) → Bool} {g : FuncId} {a c : List DV} {H : DH} (hl : l.length < 1000000000) (hv : SlV 1 v (l.map DV.str)) (hg : ∀ x ∈ l, ∀ H1, Ext H H1 → WC cfg g (a ++ [DV.str x] ++ c) H1 fun v H' => v = .bool (f x) ∧ Ext H1 H') :
  WC cfg 91 [v, .fn (.func g) a c] H fun v H' => v = .bool (l.any f) ∧ Ext H H' := by
 refine WC_of (show Has cfg 91 9 [.tmp 4] _ from ⟨by kernel_rfl, Tryz.f91, Tryz.func91, rfl, rfl, rfl, by kernel_rfl⟩) (by simp) ?_
 simp -dsimp (disch := first | omega | (apply DrawYes.mk; decide +kernel)) only [go_sem]
 refine call (sFunc0_ok hl hv hg) ?_
 rintro _ H1 ⟨rfl, hE⟩
 simp -dsimp (disch := first | omega | (apply DrawYes.mk; decide +kernel)) only [go_sem]
 refine ⟨?_, hE⟩
 have := fidx_any (f := f) (l := l)
 cases h : l.any f with
 | true => rw [decide_eq_true (this.2 h)]
 | false => rw [decide_eq_false (fun h2 => by rw [this.1 h2] at h; cases h)]
theorem iIndex_ok {id off : Nat} {l : List Nat} {x : Nat} {H : DH} (hl : l.length < 1000000000) : WC cfg 114 [.sl id 1 off (l.map intV), .int .i64 x] H fun v H' => v = .bool (decide (x ∈ l)) ∧ H' = H := by
 refine WC_of (show Has cfg 114 9 [.tmp 4] _ from ⟨by kernel_rfl, Tryz.f114, Tryz.func114, rfl, rfl, rfl, by kernel_rfl⟩) (by simp) ?_
 simp -dsimp (disch := first | omega | (apply DrawYes.mk; decide +kernel)) only [go_sem]
 refine call (K := fun v H' => v = .int .i64 (match l.findIdx? (· == x) with | some i => (i : Int) | none => -1) ∧ H' = H) ?_ ?_
 ·refine WC_of (show Has cfg 132 19 [.tmp 4] _ from ⟨by kernel_rfl, Tryz.f132, Tryz.func132, rfl, rfl, rfl, by kernel_rfl⟩) (by simp) ?_
  simp -dsimp (disch := first | omega | (apply DrawYes.mk; decide +kernel)) only [go_sem, List.length_map]
  refine Y_loop (α := Nat) (fun k σ H' => H' = H ∧ k ≤ l.length ∧ (∀ y ∈ l.take k, (y == x) = false) ∧ σ 0 = .sl id 1 off (l.map intV) ∧ σ 1 = .int .i64 x ∧ σ 7 = .int .i64 l.length ∧ σ 8 = .int .i64 k) (fun k => l.length - k) 0 ?_ ?_
  ·simp -dsimp (disch := first | omega | (apply DrawYes.mk; decide +kernel)) only [go_sem, List.length_map]
   simp
  rintro k σ H1 ⟨rfl, hk, hn, s0, s1, s7, s8⟩
  by_cases hlt : k < l.length
  ·have i0 : (k : Int) < l.length := by omega
   have hgl : l[k]? = some l[k] := List.getElem?_eq_getElem hlt
   generalize l[k] = y at hgl
   have hgm : (l.map intV)[k]? = some (.int .i64 y) := by rw [List.getElem?_map, hgl]; rfl
   by_cases hy : y = x
   ·have b1 : ((x : Int) == (y : Int)) = true := by simp [hy]
    simp -dsimp (disch := first | omega | (apply DrawYes.mk; decide +kernel)) only [go_sem, s0, s1, s7, s8, i0, hgm, b1]
    refine And.intro (by omega) ?_
    rw [findIdx_at hgl (by simpa using hy) hn]
   ·have b1 : ((x : Int) == (y : Int)) = false := by simp; omega
    simp -dsimp (disch := first | omega | (apply DrawYes.mk; decide +kernel)) only [go_sem, s0, s1, s7, s8, i0, hgm, b1]
    repeat refine And.intro (by omega) ?_
    refine ⟨k + 1, ⟨by omega, ?_, rfl⟩, by omega⟩
    intro z hz
    rw [List.take_add_one, hgl] at hz
    rcases List.mem_append.1 hz with hz | hz
    ·exact hn z hz
    ·simp only [Option.toList_some, List.mem_singleton] at hz; subst hz; simpa using hy
  ·have i0 : ¬ (k : Int) < l.length := by omega
   simp -dsimp (disch := first | omega | (apply DrawYes.mk; decide +kernel)) only [go_sem, s0, s1, s7, s8, i0]
   rw [List.take_of_length_le (by omega)] at hn
   rw [findIdx_no hn]
 ·rintro _ _ ⟨rfl, rfl⟩
  simp -dsimp (disch := first | omega | (apply DrawYes.mk; decide +kernel)) only [go_sem]
  have := fidx_any (f := (· == x)) (l := l)
  by_cases h : x ∈ l
  ·rw [decide_eq_true h, decide_eq_true (this.2 (by simpa using h))]
  ·rw [decide_eq_false h, decide_eq_false (fun h2 => h (by simpa using this.1 h2))]
end Go.Proofs.YtcknfhhbijlobaaGreatDoor.D
