/-
  '[]byte(s)' of a string that is no constant: a marked row that is read.
-/
import Derived.Test.YtgepekailoopeaaMark
import Derived.Test.YtgepekailoopeaaAppStr
import Derived.Lib.ConvBytes
namespace Go.Proofs.Ytgepekailoopeaa
open Go.RowKit
set_option linter.unusedVariables false
set_option linter.unusedSimpArgs false
section
variable {w0 w : World} {O : Nat → Prop} {L : List Asr}
theorem own_ro {e : TypeId} {size : Nat} {A : Option Addr} {n c : Nat} {xs : List Value} (h : Sep w0 w O (own e size A n c xs :: L)) : Sep w0 w O (ro size A n xs :: L) := h.imp (own_gives e size A n c xs)
theorem Sep.ronil (h : Sep w0 w O L) {size : Nat} {A : Option Addr} : Sep w0 w O (ro size A 0 [] :: L) := h.emp.imp fun _ F _ => ⟨by simp, fun hn => absurd hn (by decide)⟩
theorem Sep.strb {P : Program} (h : Sep w0 w O L) (src dst e : TypeId) (s : ByteArray) {u : TypeDesc} (hs : P.underlying src = some u) (hd : P.underlying dst = some (.slice e)) (he : P.underlying e = some (.int .u8)) :
    ∃ A c w', (convert src dst (.string s)).run P w = .ok (.slice A s.size c) w' ∧ Sep w0 w' O (ro 1 A s.size (by8 (strInts s)) :: L) ∧ s.size ≤ c := by
  have hcap : s.size ≤ grownCap w s.size 0 e := grownCap_ge w s.size 0 e
  refine ⟨_, _, _, Lib.run_convert_string_bytes w src dst e s hs hd he, ?_, hcap⟩
  refine h.emp.upd rfl rfl rfl (by rw [Lib.bytesWorld_size]; omega) fun F hF _ => ⟨⟨fun b => b = w.heap.size, ⟨by rw [kv_len, strInts_len, Nat.mul_one], fun _ => ⟨_, rfl, rfl, fun j u hu => ?_⟩⟩, fun b hb => ⟨.inr (by omega), by rw [Lib.bytesWorld_size]; omega⟩⟩, fun b hb _ => Lib.bytesWorld_at_old w e s b hb⟩
  rw [add_at]
  have hj : j < s.size := by
    rcases Nat.lt_or_ge j s.size with h | h
    · exact h
    · rw [List.getElem?_eq_none (by rw [kv_len, strInts_len]; exact h)] at hu; cases hu
  have := Lib.bytesWorld_cell w e s j hj
  have hlt : j < s.data.toList.length := by rw [Array.length_toList]; exact hj
  have hu' : u = .int .u8 (s.data.toList.getD j 0).toNat := by
    have h2 : (kv .u8 (strInts s))[j]? = some (.int .u8 (s.data.toList[j]).toNat) := by simp [kv, strInts, hj]
    rw [h2] at hu
    injection hu with hu
    rw [← hu, List.getD_eq_getElem?_getD, List.getElem?_eq_getElem hlt]
    rfl
  rw [hu']
  exact this
end
end Go.Proofs.Ytgepekailoopeaa
