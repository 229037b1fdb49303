/-
  A slice of bytes as a string.
-/
import Derived.Test.YtepooiiaijbljaaSep
import Derived.Test.YtepooiiaijbljaaNum
import Derived.Laws.BytesArg
namespace Go.Proofs.Ytepooiiaijbljaa
open Go.RowKit
set_option linter.unusedVariables false
set_option linter.unusedSimpArgs false

theorem run_stru {P : Program} {w : World} {F : Nat → Prop} {A : Option Addr} {n c : Nat} {l : List Int} (hr : Rd w.heap F 1 A n (kv .u8 l)) (src dst e : TypeId)
    (hs : P.underlying src = some (.slice e)) (he : P.underlying e = some (.int .u8)) (hd : P.underlying dst = some .string) :
    (convert src dst (.slice A n c)).run P w = .ok (.string (strOfNums l)) w := by
  rcases A with _ | ad
  · have h0 : n = 0 := by
      rcases Nat.eq_zero_or_pos n with h0 | h0
      · exact h0
      · obtain ⟨ad, h, _⟩ := hr.2 h0
        cases h
    subst h0
    have : l = [] := by simpa [kv] using hr.1
    subst this
    exact run_convert_bytes_nil w src e hs he 0 c dst hd
  · have hl : (loadCells ad n).run P w = .ok (l.map (Value.int .u8)).toArray w := by
      have hlen : (l.map (Value.int .u8)).length = n := by have := hr.1; simpa [kv] using this
      have := run_loadCells_list (P := P) w ad (l.map (Value.int .u8)) (fun j v hj => by
        rcases Nat.eq_zero_or_pos n with h0 | h0
        · have : l.map (Value.int .u8) = [] := List.eq_nil_of_length_eq_zero (by omega)
          rw [this] at hj; cases hj
        · obtain ⟨ad', h, _, hc⟩ := hr.2 h0
          injection h with h; subst h
          exact hc j v hj)
      rwa [hlen] at this
    rw [run_convert_bytes_string w src dst e _ n c hs he hd, run_bytesToString w ad n c l hl, foldl_push_bytes]
    simp [strOfNums, ByteArray.empty, ByteArray.emptyWithCapacity]
    rfl

end Go.Proofs.Ytepooiiaijbljaa
