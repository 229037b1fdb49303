/-
  Maps of the call's own, keyed by numbers, as assertions. No program is named here.
-/
import Derived.Test.YtgepekailoopeaaSep
import Derived.MapKept
import Derived.Carry
namespace Go.Proofs.Ytgepekailoopeaa
open Go.RowKit
set_option linter.unusedVariables false
set_option linter.unusedSimpArgs false
def objA (g : Nat) (o : Obj) : Asr where
  holds h F := (∀ b, F b ↔ b = g) ∧ h[g]? = some o
  loc h h' F hs := fun ⟨h1, h2⟩ => ⟨h1, (hs g ((h1 g).2 rfl)).trans h2⟩
section
variable {P : Program} {w0 w : World} {O : Nat → Prop} {L : List Asr}
theorem Sep.obj_heap {g : Nat} {o : Obj} (h : Sep w0 w O (objA g o :: L)) : w.heap[g]? = some o := by
  obtain ⟨F, ⟨_, p⟩, _⟩ := h.get
  exact p
theorem Sep.newMap (h : Sep w0 w O L) (t : TypeId) : ∃ r w', (Instr.makeMap t none).run P w = .ok (.map (some r)) w' ∧ Sep w0 w' O (objA r (.map #[] 0) :: L) :=
  ⟨w.heap.size, w.alloc (.map #[] 0), run_makeMap t w, h.emp.upd rfl rfl rfl (by simp) fun F hF _ => ⟨⟨fun b => b = w.heap.size, ⟨fun _ => Iff.rfl, heap_alloc_new w _⟩, fun b hb => ⟨.inr (by omega), by simp; omega⟩⟩, fun b hb _ => Below.heap_alloc w _ b hb⟩⟩
theorem Sep.mapPut {r ck : Nat} {es : Array MapEntry} (h : Sep w0 w O (objA r (.map es ck) :: L)) (mty kt et : TypeId) (kd : IntKind) (x : Int) (val : Value) (hm : P.underlying mty = some (.map kt et)) (hk : P.underlying kt = some (.int kd))
    (hf : Instr.findNow (.int kd) (.int kd x) es.toList 0 = some none) :
    ∃ w', (Instr.mapUpdate mty (.map (some r)) (.int kd x) val).run P w = .ok () w' ∧ Sep w0 w' O (objA r (.map (es.push { key := .int kd x, val := val, born := ck }) (ck + 1)) :: L) := by
  have hb := h.obj_heap
  have hc : (Instr.checkKey false 10000 kt (.int kd x)).run P w = .ok () w := MapKept.run_checkKey (k := .int kd x) hk (by simp [MapKept.IsKey]) false 9999
  refine ⟨{ w with heap := w.heap.setIfInBounds r (.map (es.push { key := .int kd x, val := val, born := ck }) (ck + 1)) }, ?_, ?_⟩
  · simp [Instr.mapUpdate, run_underlying hm, MapKept.run_getObj_map hb, hc, MapKept.run_findKey hk hf, MapKept.run_setObj_map _ hb, Result.andThen]
  · refine h.upd rfl rfl rfl (by simp) fun F ⟨e, p⟩ hlt => ⟨⟨F, ⟨e, (MapKept.heap_set hb).1⟩, fun b hb' => ⟨.inl hb', by simpa using hlt b hb'⟩⟩, fun b _ hn => (MapKept.heap_set hb).2 b fun e' => hn ((e b).2 e')⟩
theorem Sep.mapGet {r ck : Nat} {es : Array MapEntry} (h : Sep w0 w O (objA r (.map es ck) :: L)) (mty kt et : TypeId) (kd : IntKind) (x : Int) (hm : P.underlying mty = some (.map kt et)) (hk : P.underlying kt = some (.int kd)) {i : Nat} {v : Value}
    (hf : Instr.findNow (.int kd) (.int kd x) es.toList 0 = some (some (i, v))) : (Instr.lookup mty (.map (some r)) (.int kd x) true).run P w = .ok (.tuple #[v, .bool true]) w := by
  have hb := h.obj_heap
  have hc : (Instr.checkKey es.isEmpty 10000 kt (.int kd x)).run P w = .ok () w := MapKept.run_checkKey (k := .int kd x) hk (by simp [MapKept.IsKey]) _ 9999
  simp [Instr.lookup, run_underlying hm, MapKept.run_getObj_map hb, hc, MapKept.run_findKey hk hf, Result.andThen]
theorem Sep.mapMiss {r ck : Nat} {es : Array MapEntry} (h : Sep w0 w O (objA r (.map es ck) :: L)) (mty kt et : TypeId) (kd : IntKind) (x : Int) (hm : P.underlying mty = some (.map kt et)) (hk : P.underlying kt = some (.int kd)) {info : TypeInfo} {z : Value} (hi : P.info? et = some info) (hz : info.zero = some z)
    (hf : Instr.findNow (.int kd) (.int kd x) es.toList 0 = some none) : (Instr.lookup mty (.map (some r)) (.int kd x) true).run P w = .ok (.tuple #[z, .bool false]) w := by
  have hb := h.obj_heap
  have hc : (Instr.checkKey es.isEmpty 10000 kt (.int kd x)).run P w = .ok () w := MapKept.run_checkKey (k := .int kd x) hk (by simp [MapKept.IsKey]) _ 9999
  simp [Instr.lookup, run_underlying hm, MapKept.run_getObj_map hb, hc, MapKept.run_findKey hk hf, Result.andThen, zeroValue, typeInfo, hi, hz]
end
end Go.Proofs.Ytgepekailoopeaa
