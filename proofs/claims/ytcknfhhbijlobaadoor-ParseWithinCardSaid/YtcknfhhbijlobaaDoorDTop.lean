/- D: from the evaluator to the machine; functions without a body. -/
import Derived.Test.YtcknfhhbijlobaaDoorDLib
import Derived.Lib.Bytealg
import Derived.Laws.Externs
import Derived.Below
namespace Go.Proofs.YtcknfhhbijlobaaDoor.D
open Go
set_option linter.unusedVariables false
set_option linter.unusedSimpArgs false

def H0 : DH := { next := 1, m := fun _ => none }
def G0 : Ghost := { im := fun _ _ => none, ρ := fun _ => none, place := fun _ _ => none }
theorem rel0 (w : World) : Rel G0 H0 w where
  wf b _ := ⟨rfl, rfl, fun _ => rfl⟩
  im B o v h := by cases h
  cells b T cs h := by cases h
  tips b T n cl h := by cases h
  iters b s pos h := by cases h
  maps b es h := by cases h
  rows b T cs h := by cases h
  inj b b' B h := by simp [ownR, H0] at h
  z := ⟨Nat.one_pos, rfl⟩
theorem top {C : Cfg} (TO : TabOk C.P C.T) (XO : ExtOk C.P C.ext) (NO : NameOk C.P) (DO : DrawOk C.P C.T C.draw) {f : FuncId} {args : List DV} (hx : C.ext f = none) {K : DV → DH → Prop} (h : WC C f args H0 K) {w : World} {vs : List Value} (hv : VL G0 args vs) {v : Value}
    (hk : ∀ d H, K d H → d = .bool true) : Calls C.P f vs.toArray w fun e w' => e = .returned (.bool true) ∧ Go.RowKit.Below w.heap.size w w' := by
  obtain ⟨d, H', h1, h2⟩ := h
  obtain rfl := hk _ _ h2
  refine (calls_of TO XO NO DO hx h1 (rel0 w) hv).mono ?_
  rintro e w' ⟨v, G', rfl, hV, hS⟩
  cases hV
  exact ⟨rfl, ⟨hS.os, hS.tape, hS.output, hS.size, fun B hB => hS.blk B hB (fun b => by simp [ownR, H0])⟩⟩

/-- What a function without a body does. -/
theorem ext_of {P : Program} {f : FuncId} {fn : Func} {e : Array Value → Sem Value} {x : List DV → DH → Option (DV × DH)} (hf : P.funcs[f]? = some fn) (hname : (fn.name == "runtime.NumGoroutine") = false) (hb : fn.body.isNone = true) (hn : Extern.findNext fn = none) (he : Extern.find fn = some e)
    (hx : ∀ args H d H', x args H = some (d, H') → H' = H ∧ ∀ G w vs, VL G args vs → ∃ v, (e vs.toArray).run P w = .ok v w ∧ V G d v) :
    ∀ args H d H', x args H = some (d, H') → ∀ G w vs, Rel G H w → VL G args vs → Good P G H w H' d ((callFunc f vs.toArray).run P w) := by
  intro args H d H' h G w vs r hv
  obtain ⟨rfl, h2⟩ := hx args H d H' h
  obtain ⟨v, h3, h4⟩ := h2 G w vs hv
  rw [run_callFunc_extern hf hname hb hn he, h3]
  exact ⟨G, h4, Step.refl r⟩
def extIndexByte : List DV → DH → Option (DV × DH)
  | [.str s, .int .u8 c], H => some (.int .i64 (Lib.indexByte s c.toNat.toUInt8), H)
  | _, _ => none
def extCount : List DV → DH → Option (DV × DH)
  | [.str s, .int .u8 c], H => some (.int .i64 (Lib.countByte s c.toNat.toUInt8 : Nat), H)
  | _, _ => none
theorem extCount_ok {P : Program} : ∀ args H d H', extCount args H = some (d, H') → H' = H ∧ ∀ G w vs, VL G args vs → ∃ v, (Extern.BytealgCount.count vs.toArray).run P w = .ok v w ∧ V G d v := by
  intro args H d H' h
  unfold extCount at h
  split at h
  · rename_i s c
    simp only [Option.some.injEq, Prod.mk.injEq] at h
    obtain ⟨rfl, rfl⟩ := h
    refine ⟨rfl, fun G w vs hv => ?_⟩
    obtain ⟨a, l, rfl, h1, h2⟩ := hv.cons_inv
    obtain ⟨b, l, rfl, h3, h4⟩ := h2.cons_inv
    obtain rfl := h4.nil_inv
    cases h1; cases h3
    exact ⟨_, Lib.run_countString _ _ w, .int _ _⟩
  · cases h
def extSame : List DV → DH → Option (DV × DH)
  | [v], H => some (v, H)
  | _, _ => none
theorem extIndexByte_ok {P : Program} : ∀ args H d H', extIndexByte args H = some (d, H') → H' = H ∧ ∀ G w vs, VL G args vs → ∃ v, (Extern.BytealgIndexByte.indexByte vs.toArray).run P w = .ok v w ∧ V G d v := by
  intro args H d H' h
  unfold extIndexByte at h
  split at h
  · rename_i s c
    simp only [Option.some.injEq, Prod.mk.injEq] at h
    obtain ⟨rfl, rfl⟩ := h
    refine ⟨rfl, fun G w vs hv => ?_⟩
    obtain ⟨a, l, rfl, h1, h2⟩ := hv.cons_inv
    obtain ⟨b, l, rfl, h3, h4⟩ := h2.cons_inv
    obtain rfl := h4.nil_inv
    cases h1; cases h3
    exact ⟨_, Lib.run_indexByteString _ _ w, .int _ _⟩
  · cases h
theorem extSame_ok {P : Program} : ∀ args H d H', extSame args H = some (d, H') → H' = H ∧ ∀ G w vs, VL G args vs → ∃ v, (Extern.AbiNoEscape.same vs.toArray).run P w = .ok v w ∧ V G d v := by
  intro args H d H' h
  unfold extSame at h
  split at h
  · simp only [Option.some.injEq, Prod.mk.injEq] at h
    obtain ⟨rfl, rfl⟩ := h
    refine ⟨rfl, fun G w vs hv => ?_⟩
    obtain ⟨a, l, rfl, h1, h2⟩ := hv.cons_inv
    obtain rfl := h2.nil_inv
    exact ⟨a, rfl, h1⟩
  · cases h
end Go.Proofs.YtcknfhhbijlobaaDoor.D
