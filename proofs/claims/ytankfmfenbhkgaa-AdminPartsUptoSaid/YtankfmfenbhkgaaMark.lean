/-
  '[]byte("..")' of a constant: a marked row that is read.
-/
import Derived.Test.YtankfmfenbhkgaaOrdA
import Derived.Lib.SlBytesConst
namespace Go.Proofs.Ytankfmfenbhkgaa
open Go.RowKit
set_option linter.unusedVariables false
set_option linter.unusedSimpArgs false
section
variable {w0 w : World} {O : Nat → Prop} {L : List Asr}
theorem Sep.mark (h : Sep w0 w O L) (cs : Array Value) (t : TypeId) (fr : Nat × Nat) (n : Nat) (hs : cs.size = n) {B : Nat} (hB : w.heap.size = B) : Sep w0 (w.alloc (.cells cs t fr)) O (ro 1 (some ⟨B, 0, none⟩) n cs.toList :: L) := by
  subst hB
  refine h.emp.upd rfl rfl rfl (by simp) fun F hF _ => ⟨⟨fun b => b = w.heap.size, ⟨by simpa using hs, fun _ => ⟨_, rfl, rfl, fun j u hu => ?_⟩⟩, fun b hb => ⟨.inr (by omega), by simp; omega⟩⟩, fun b hb _ => Below.heap_alloc w _ b hb⟩
  rw [add_at]
  have := cell_of_row (w.alloc (.cells cs t fr)) w.heap.size j cs t fr (heap_alloc_new w _)
  exact this.trans (by simpa using hu)
theorem Rb.r0 {size n : Nat} {A : Option Addr} {xs : List Value} : Rb w0 O (Go.Proofs.Ytankfmfenbhkgaa.ro size A n xs :: L) size A n xs := .ro (List.mem_cons_self ..)
theorem const_bytes (w : World) (C : Array Value) (n c : Nat) :
    (convert 25 25 (.slice (some ⟨w.heap.size, 0, none⟩) n c)).run Try.prog (w.alloc (.cells C 5)) = .ok (.slice (some ⟨w.heap.size, 0, none⟩) n c) (w.alloc (.cells C 5 (C.size, C.size + 1))) :=
  Lib.run_convert_bytes_const w _ _ C n c Try.underlying25 Try.underlying5
theorem const_bytes2 (w : World) (o : Obj) (C : Array Value) (n c : Nat) :
    (convert 25 25 (.slice (some ⟨w.heap.size + 1, 0, none⟩) n c)).run Try.prog ((w.alloc o).alloc (.cells C 5)) = .ok (.slice (some ⟨w.heap.size + 1, 0, none⟩) n c) ((w.alloc o).alloc (.cells C 5 (C.size, C.size + 1))) := by
  have := const_bytes (w.alloc o) C n c
  simpa using this
end
end Go.Proofs.Ytankfmfenbhkgaa
