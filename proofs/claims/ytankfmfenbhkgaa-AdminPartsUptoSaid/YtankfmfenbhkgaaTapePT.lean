/-
  order.Tape's Peek and Take at any arguments: one contract each.
-/
import Derived.Test.YtankfmfenbhkgaaOrdC
namespace Go.Proofs.Ytankfmfenbhkgaa
open Go.RowKit
set_option linter.unusedVariables false
set_option linter.unusedSimpArgs false

/-- what Peek and Take answer, and what is left -/
structure Got where
  ok : Bool
  d : List Int
  l : List Int
def askL (take : Bool) (l : List Int) (m : Int) : Got := if 0 ≤ m ∧ m ≤ l.length then ⟨true, l.take m.toNat, if take then l.drop m.toNat else l⟩ else ⟨false, [], l⟩
theorem askL_len (b : Bool) (l : List Int) (m : Int) : (askL b l m).l.length ≤ l.length := by
  unfold askL; split
  · cases b <;> simp
  · exact Nat.le_refl _
theorem askL_dlen (b : Bool) (l : List Int) (m : Int) : (askL b l m).d.length ≤ l.length := by
  unfold askL; split
  · simp only [List.length_take]; omega
  · exact Nat.zero_le _
theorem askL_all (b : Bool) (l : List Int) : (askL b l (l.length : Int)).ok = true ∧ (askL b l (l.length : Int)).d = l := by
  unfold askL; rw [if_pos (by omega)]; simp
theorem askL_byt (b : Bool) {l : List Int} (h : Byt l) (m : Int) : Byt (askL b l m).l ∧ Byt (askL b l m).d := by
  unfold askL; split
  · refine ⟨?_, h.take _⟩
    cases b
    · exact h
    · exact h.drop _
  · exact ⟨h, fun x hx => by cases hx⟩
section
variable {w0 w : World} {O : Nat → Prop} {L : List Asr}

theorem peek_any {g : Nat} {l : List Int} {m : Int} (HS : Sep w0 w O (Go.Proofs.Ytankfmfenbhkgaa.tape g l :: L)) (hl : l.length ≤ 140737488355328) :
    Calls Try.prog 38 #[.pointer (some ⟨g, 0, none⟩), .int .i64 m] w fun e w' => ∃ A' c', e = .returned (.tuple #[.slice A' (askL false l m).d.length c', .bool (askL false l m).ok]) ∧ Sep w0 w' O (own 5 1 A' (askL false l m).d.length c' (by8 (askL false l m).d) :: Go.Proofs.Ytankfmfenbhkgaa.tape g (askL false l m).l :: L) := by
  by_cases h : 0 ≤ m ∧ m ≤ l.length
  · obtain ⟨n, rfl⟩ := Int.eq_ofNat_of_zero_le h.1
    have hn : n ≤ l.length := by omega
    have e : askL false l (n : Int) = ⟨true, l.take n, l⟩ := by unfold askL; rw [if_pos h]; simp
    rw [e]
    show Calls _ _ _ _ fun e w' => ∃ A' c', e = .returned (.tuple #[.slice A' (l.take n).length c', .bool true]) ∧ Sep w0 w' O (own 5 1 A' (l.take n).length c' (by8 (l.take n)) :: Go.Proofs.Ytankfmfenbhkgaa.tape g l :: L)
    rw [List.length_take, Nat.min_eq_left hn]
    exact peek_yes HS hn hl
  · have e : askL false l m = ⟨false, [], l⟩ := by unfold askL; rw [if_neg h]
    rw [e]
    refine (peek_no HS (by omega)).mono ?_
    rintro e w' ⟨rfl, rfl⟩
    exact ⟨none, 0, rfl, HS.nil _ _⟩
theorem take_any {g : Nat} {l : List Int} {m : Int} (HS : Sep w0 w O (Go.Proofs.Ytankfmfenbhkgaa.tape g l :: L)) (hl : l.length ≤ 140737488355328) :
    Calls Try.prog 42 #[.pointer (some ⟨g, 0, none⟩), .int .i64 m] w fun e w' => ∃ A' c', e = .returned (.tuple #[.slice A' (askL true l m).d.length c', .bool (askL true l m).ok]) ∧ Sep w0 w' O (own 5 1 A' (askL true l m).d.length c' (by8 (askL true l m).d) :: Go.Proofs.Ytankfmfenbhkgaa.tape g (askL true l m).l :: L) := by
  by_cases h : 0 ≤ m ∧ m ≤ l.length
  · obtain ⟨n, rfl⟩ := Int.eq_ofNat_of_zero_le h.1
    have hn : n ≤ l.length := by omega
    have e : askL true l (n : Int) = ⟨true, l.take n, l.drop n⟩ := by unfold askL; rw [if_pos h]; simp
    rw [e]
    show Calls _ _ _ _ fun e w' => ∃ A' c', e = .returned (.tuple #[.slice A' (l.take n).length c', .bool true]) ∧ Sep w0 w' O (own 5 1 A' (l.take n).length c' (by8 (l.take n)) :: Go.Proofs.Ytankfmfenbhkgaa.tape g (l.drop n) :: L)
    rw [List.length_take, Nat.min_eq_left hn]
    exact take_yes HS hn hl
  · have e : askL true l m = ⟨false, [], l⟩ := by unfold askL; rw [if_neg h]
    rw [e]
    refine (take_no HS (by omega)).mono ?_
    rintro e w' ⟨rfl, rfl⟩
    exact ⟨none, 0, rfl, HS.nil _ _⟩

theorem Sep.blk_at {g : Nat} {t : TypeId} {cs : Array Value} (h : Sep w0 w O (blk g t cs :: L)) (i : Nat) {v : Value} (hv : cs[i]? = some v) : w.cell? ⟨g, i, none⟩ = some v := (h.blk_cell i).trans hv
end
end Go.Proofs.Ytankfmfenbhkgaa
