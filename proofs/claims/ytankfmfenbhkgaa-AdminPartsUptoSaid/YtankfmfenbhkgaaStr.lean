/-
  A slice of bytes as a string.
-/
import Derived.Test.YtankfmfenbhkgaaOrdA
import Derived.Test.YtankfmfenbhkgaaNum
import Derived.Laws.BytesArg
namespace Go.Proofs.Ytankfmfenbhkgaa
open Go.RowKit
set_option linter.unusedVariables false
set_option linter.unusedSimpArgs false

theorem run_str {P : Program} {w : World} {F : Nat → Prop} {A : Option Addr} {n c : Nat} {l : List Int} (hr : Rd w.heap F 1 A n (by8 l)) (src dst e : TypeId)
    (hs : P.underlying src = some (.slice e)) (he : P.underlying e = some (.int .u8)) (hd : P.underlying dst = some .string) :
    (convert src dst (.slice A n c)).run P w = .ok (.string (strOfNums l)) w := by
  rcases A with _ | ad
  · have h0 : n = 0 := by
      rcases Nat.eq_zero_or_pos n with h0 | h0
      · exact h0
      · obtain ⟨ad, h, _⟩ := hr.2 h0
        cases h
    subst h0
    have : l = [] := by simpa [kv] using hr.1
    subst this
    exact run_convert_bytes_nil w src e hs he 0 c dst hd
  · have hl : (loadCells ad n).run P w = .ok (l.map (Value.int .u8)).toArray w := by
      have hlen : (l.map (Value.int .u8)).length = n := by have := hr.1; simpa [kv] using this
      have := run_loadCells_list (P := P) w ad (l.map (Value.int .u8)) (fun j v hj => by
        rcases Nat.eq_zero_or_pos n with h0 | h0
        · have : l.map (Value.int .u8) = [] := List.eq_nil_of_length_eq_zero (by omega)
          rw [this] at hj; cases hj
        · obtain ⟨ad', h, _, hc⟩ := hr.2 h0
          injection h with h; subst h
          exact hc j v hj)
      rwa [hlen] at this
    rw [run_convert_bytes_string w src dst e _ n c hs he hd, run_bytesToString w ad n c l hl, foldl_push_bytes]
    simp [strOfNums, ByteArray.empty, ByteArray.emptyWithCapacity]
    rfl

theorem u8_inj {a b : Int} (ha : 0 ≤ a ∧ a < 256) (hb : 0 ≤ b ∧ b < 256) (h : UInt8.ofNat a.toNat = UInt8.ofNat b.toNat) : a = b := by
  have := congrArg UInt8.toNat h
  simp at this
  omega
theorem str_inj : ∀ {a b : List Int}, Byt a → Byt b → (strOfNums a).data.toList = (strOfNums b).data.toList → a = b := by
  intro a
  induction a with
  | nil => intro b _ _ h; cases b <;> simp [strOfNums] at h ⊢
  | cons x a ih =>
    intro b ha hb h
    cases b with
    | nil => simp [strOfNums] at h
    | cons y b =>
      simp only [strOfNums_data, List.map_cons, List.cons.injEq] at h
      rw [u8_inj (ha x (by simp)) (hb y (by simp)) h.1, ih (fun z hz => ha z (by simp [hz])) (fun z hz => hb z (by simp [hz])) h.2]
end Go.Proofs.Ytankfmfenbhkgaa
