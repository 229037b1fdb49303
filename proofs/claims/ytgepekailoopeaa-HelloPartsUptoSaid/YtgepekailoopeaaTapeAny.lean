/-
  order.Tape's Numbers at any arguments: one contract each.
-/
import Derived.Test.YtgepekailoopeaaOrdD
import Derived.Test.YtgepekailoopeaaTapePT
namespace Go.Proofs.Ytgepekailoopeaa
open Go.RowKit
set_option linter.unusedVariables false
set_option linter.unusedSimpArgs false

def numL (take : Bool) (l zs : List Int) : Got :=
  if (∀ z ∈ zs, 1 ≤ z ∧ z ≤ 8) ∧ tot (zs.map Int.toNat) ≤ l.length then ⟨true, cut l (zs.map Int.toNat), if take then l.drop (tot (zs.map Int.toNat)) else l⟩ else ⟨false, [], l⟩
theorem numL_len (b : Bool) (l zs : List Int) : (numL b l zs).l.length ≤ l.length := by
  unfold numL; split
  · cases b <;> simp
  · exact Nat.le_refl _
theorem numL_dlen (b : Bool) (l zs : List Int) : (numL b l zs).d.length ≤ zs.length := by
  unfold numL; split
  · simp [cut_len]
  · exact Nat.zero_le _
theorem numL_byt (b : Bool) {l : List Int} (h : Byt l) (zs : List Int) : Byt (numL b l zs).l := by
  unfold numL; split
  · cases b
    · exact h
    · exact h.drop _
  · exact h

section
variable {w0 w : World} {O : Nat → Prop} {L : List Asr}
theorem nats_of {zs : List Int} (h : ∀ z ∈ zs, 1 ≤ z ∧ z ≤ 8) : (zs.map Int.toNat).map Int.ofNat = zs ∧ ∀ s ∈ zs.map Int.toNat, 1 ≤ s ∧ s ≤ 8 := by
  constructor
  · induction zs with
    | nil => rfl
    | cons z zs ih =>
      have h1 := h z (by simp)
      rw [List.map_cons, List.map_cons, ih fun y hy => h y (by simp [hy])]
      congr 1
      exact Int.toNat_of_nonneg (by omega)
  · intro s hs
    obtain ⟨z, hz, rfl⟩ := List.mem_map.1 hs
    have h1 := h z hz
    omega

theorem numbers_any {g : Nat} {l : List Int} {b : Bool} {A : Option Addr} {n c : Nat} {zs : List Int} (HS : Sep w0 w O (Go.Proofs.Ytgepekailoopeaa.tape g l :: L)) (hr : Rb w0 O L 1 A n (iv zs)) (hn : n ≤ 17592186044416) (hb : Byt l) (hl : l.length ≤ 140737488355328) :
    Calls Try.prog 74 #[.pointer (some ⟨g, 0, none⟩), .bool b, .slice A n c] w fun e w' => ∃ A' c', e = .returned (.tuple #[.slice A' (numL b l zs).d.length c', .bool (numL b l zs).ok]) ∧ Sep w0 w' O (own 58 1 A' (numL b l zs).d.length c' (uv (numL b l zs).d) :: Go.Proofs.Ytgepekailoopeaa.tape g (numL b l zs).l :: L) := by
  have hzl := hr.klen HS.drop
  have hr' := hr.cons (P := Go.Proofs.Ytgepekailoopeaa.tape g l)
  by_cases h8 : ∀ z ∈ zs, 1 ≤ z ∧ z ≤ 8
  · obtain ⟨h1, h2⟩ := nats_of h8
    have hlen : (zs.map Int.toNat).length = n := by simp [hzl]
    have hz : Sizes A w0 O L (zs.map Int.toNat) := ⟨by rw [h1, hlen]; exact hr, h2, by omega⟩
    have hz' : Sizes A w0 O (Go.Proofs.Ytgepekailoopeaa.tape g l :: L) (zs.map Int.toNat) := ⟨by rw [h1, hlen]; exact hr', h2, by omega⟩
    by_cases ht : tot (zs.map Int.toNat) ≤ l.length
    · have e : numL b l zs = ⟨true, cut l (zs.map Int.toNat), if b then l.drop (tot (zs.map Int.toNat)) else l⟩ := by unfold numL; rw [if_pos ⟨h8, ht⟩]
      rw [e]
      show Calls _ _ _ _ fun e w' => ∃ A' c', e = .returned (.tuple #[.slice A' (cut l (zs.map Int.toNat)).length c', .bool true]) ∧ Sep w0 w' O (own 58 1 A' (cut l (zs.map Int.toNat)).length c' (uv (cut l (zs.map Int.toNat))) :: Go.Proofs.Ytgepekailoopeaa.tape g (if b then l.drop (tot (zs.map Int.toNat)) else l) :: L)
      rw [cut_len, ← hlen]
      cases b
      · exact numbers_peek HS hz hb ht hl
      · exact numbers_take HS hz hb ht hl
    · have e : numL b l zs = ⟨false, [], l⟩ := by unfold numL; rw [if_neg fun h => ht h.2]
      rw [e, ← hlen]
      refine (numbers_fail HS hz' ?_).mono ?_
      · cases b
        · exact peek_no HS (by omega)
        · exact take_no HS (by omega)
      · rintro e w' ⟨rfl, rfl⟩
        exact ⟨none, 0, rfl, HS.nil _ _⟩
  · have e : numL b l zs = ⟨false, [], l⟩ := by unfold numL; rw [if_neg fun h => h8 h.1]
    rw [e]
    refine (numbers_bad HS hr' hn ?_).mono ?_
    · simpa only [Classical.not_forall, exists_prop] using h8
    · rintro e w' ⟨rfl, rfl⟩
      exact ⟨none, 0, rfl, HS.nil _ _⟩

end
end Go.Proofs.Ytgepekailoopeaa
