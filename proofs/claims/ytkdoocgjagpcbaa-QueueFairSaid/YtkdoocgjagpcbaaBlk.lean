/-
  Small steps over blocks and rows.
-/
import Derived.Test.YtkdoocgjagpcbaaProg
import Derived.Test.YtkdoocgjagpcbaaSep
import Derived.KernelRfl
import Derived.WalkSpells
namespace Go.Proofs.Ytkdoocgjagpcbaa
open Go.RowKit
set_option linter.unusedVariables false
set_option linter.unusedSimpArgs false
section
variable {w0 w : World} {O : Nat → Prop} {L : List Asr}
theorem Sep.blkAt {g : Nat} {t : TypeId} {cs : Array Value} (h : Sep w0 w O (blk g t cs :: L)) (i : Nat) {v : Value} (hv : cs[i]? = some v) : w.cell? ⟨g, i, none⟩ = some v := (h.blk_cell i).trans hv
theorem Sep.allocAt (h : Sep w0 w O L) (cs : Array Value) (t : TypeId) {B : Nat} (hB : w.heap.size = B) : Sep w0 (w.alloc (.cells cs t)) O (blk B t cs :: L) := by subst hB; exact h.alloc cs t
theorem Sep.own_pre {e : TypeId} {size : Nat} {A : Option Addr} {n c m : Nat} {xs : List Value} (h : Sep w0 w O (own e size A n c xs :: L)) (hm : m ≤ n) : Sep w0 w O (own e size A m c (xs.take (m * size)) :: L) := by
  refine h.imp ?_
  rintro hp F ⟨hF, h1, h2⟩
  refine ⟨hF, ?_, ?_⟩
  · rw [List.length_take, h1]; exact Nat.min_eq_left (Nat.mul_le_mul_right _ hm)
  · rcases h2 with ⟨rfl, rfl, rfl⟩ | ⟨g, cur, rfl, hg, h3, h4, h5, h6⟩
    · exact .inl ⟨rfl, by omega, rfl⟩
    · refine .inr ⟨g, cur, rfl, hg, by omega, h4, h5, ?_⟩
      rw [← h6, List.take_take, Nat.min_eq_left (Nat.mul_le_mul_right _ hm)]
theorem Sep.own_ge {e : TypeId} {size : Nat} {A : Option Addr} {n c : Nat} {xs : List Value} (h : Sep w0 w O (own e size A n c xs :: L)) : n ≤ c := by
  obtain ⟨F, ⟨_, _, h⟩, _⟩ := h.get
  rcases h with ⟨_, rfl, rfl⟩ | ⟨g, cur, _, _, h, _⟩
  · exact Nat.le_refl _
  · exact h
theorem Sep.own_max {e : TypeId} {size : Nat} {A : Option Addr} {n c : Nat} {xs : List Value} (h : Sep w0 w O (own e size A n c xs :: L)) : c ≤ maxLen := by
  obtain ⟨F, ⟨_, _, h⟩, _⟩ := h.get
  rcases h with ⟨_, rfl, rfl⟩ | ⟨g, cur, _, _, _, h, _⟩
  · exact Nat.zero_le _
  · exact h
theorem Sep.kpre {e : TypeId} {A : Option Addr} {c m : Nat} {k : IntKind} {xs : List Int} (h : Sep w0 w O (own e 1 A xs.length c (kv k xs) :: L)) (hm : m ≤ xs.length) : Sep w0 w O (own e 1 A m c (kv k (xs.take m)) :: L) := by
  have := h.own_pre hm
  rwa [Nat.mul_one, kv_take] at this
theorem Rb.noneNil {size n : Nat} {xs : List Value} (hr : Rb w0 O L size none n xs) (HS : Sep w0 w O L) : n = 0 ∧ xs = [] := by
  have h0 : n = 0 := by
    rcases Nat.eq_zero_or_pos n with h0 | h0
    · exact h0
    · obtain ⟨ad, h, _⟩ := (hr.read HS).2 h0
      cases h
  subst h0
  exact ⟨rfl, List.eq_nil_of_length_eq_zero (by simpa using hr.len HS)⟩
end
end Go.Proofs.Ytkdoocgjagpcbaa
