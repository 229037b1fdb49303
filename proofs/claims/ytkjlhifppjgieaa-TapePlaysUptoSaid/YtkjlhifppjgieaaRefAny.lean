/-
  The reference's Tape at any arguments: one contract each.
-/
import Derived.Test.YtkjlhifppjgieaaRefN
import Derived.Test.YtkjlhifppjgieaaTapeAny
namespace Go.Proofs.Ytkjlhifppjgieaa
open Go.RowKit
set_option linter.unusedVariables false
set_option linter.unusedSimpArgs false
section
variable {w0 w : World} {O : Nat → Prop} {L : List Asr}

theorem rpeek_any {g : Nat} {l : List Int} {m : Int} (HS : Sep w0 w O (rtape g l :: L)) (hl : l.length ≤ 140737488355328) :
    Calls Try.prog 24 #[.pointer (some ⟨g, 0, none⟩), .int .i64 m] w fun e w' => ∃ A' c', e = .returned (.tuple #[.slice A' (askL false l m).d.length c', .bool (askL false l m).ok]) ∧ Sep w0 w' O (own 5 1 A' (askL false l m).d.length c' (by8 (askL false l m).d) :: rtape g (askL false l m).l :: L) := by
  by_cases h : 0 ≤ m ∧ m ≤ l.length
  · obtain ⟨n, rfl⟩ := Int.eq_ofNat_of_zero_le h.1
    have hn : n ≤ l.length := by omega
    have e : askL false l (n : Int) = ⟨true, l.take n, l⟩ := by unfold askL; rw [if_pos h]; simp
    rw [e]
    show Calls _ _ _ _ fun e w' => ∃ A' c', e = .returned (.tuple #[.slice A' (l.take n).length c', .bool true]) ∧ Sep w0 w' O (own 5 1 A' (l.take n).length c' (by8 (l.take n)) :: rtape g l :: L)
    rw [List.length_take, Nat.min_eq_left hn]
    exact rpeek_yes HS hn hl
  · have e : askL false l m = ⟨false, [], l⟩ := by unfold askL; rw [if_neg h]
    rw [e]
    refine (rpeek_no HS (by omega)).mono ?_
    rintro e w' ⟨rfl, rfl⟩
    exact ⟨none, 0, rfl, HS.nil _ _⟩
theorem rtake_any {g : Nat} {l : List Int} {m : Int} (HS : Sep w0 w O (rtape g l :: L)) (hl : l.length ≤ 140737488355328) :
    Calls Try.prog 25 #[.pointer (some ⟨g, 0, none⟩), .int .i64 m] w fun e w' => ∃ A' c', e = .returned (.tuple #[.slice A' (askL true l m).d.length c', .bool (askL true l m).ok]) ∧ Sep w0 w' O (own 5 1 A' (askL true l m).d.length c' (by8 (askL true l m).d) :: rtape g (askL true l m).l :: L) := by
  by_cases h : 0 ≤ m ∧ m ≤ l.length
  · obtain ⟨n, rfl⟩ := Int.eq_ofNat_of_zero_le h.1
    have hn : n ≤ l.length := by omega
    have e : askL true l (n : Int) = ⟨true, l.take n, l.drop n⟩ := by unfold askL; rw [if_pos h]; simp
    rw [e]
    show Calls _ _ _ _ fun e w' => ∃ A' c', e = .returned (.tuple #[.slice A' (l.take n).length c', .bool true]) ∧ Sep w0 w' O (own 5 1 A' (l.take n).length c' (by8 (l.take n)) :: rtape g (l.drop n) :: L)
    rw [List.length_take, Nat.min_eq_left hn]
    exact rtake_yes HS hn hl
  · have e : askL true l m = ⟨false, [], l⟩ := by unfold askL; rw [if_neg h]
    rw [e]
    refine (rtake_no HS (by omega)).mono ?_
    rintro e w' ⟨rfl, rfl⟩
    exact ⟨none, 0, rfl, HS.nil _ _⟩

theorem rnumbers_any {g : Nat} {l : List Int} {b : Bool} {A : Option Addr} {n c : Nat} {zs : List Int} (HS : Sep w0 w O (rtape g l :: L)) (hr : Rb w0 O L 1 A n (iv zs)) (hn : n ≤ 17592186044416) (hb : Byt l) (hl : l.length ≤ 140737488355328) :
    Calls Try.prog 26 #[.pointer (some ⟨g, 0, none⟩), .bool b, .slice A n c] w fun e w' => ∃ A' c', e = .returned (.tuple #[.slice A' (numL b l zs).d.length c', .bool (numL b l zs).ok]) ∧ Sep w0 w' O (own 23 1 A' (numL b l zs).d.length c' (uv (numL b l zs).d) :: rtape g (numL b l zs).l :: L) := by
  have hzl := hr.klen HS.drop
  have hr' := hr.cons (P := rtape g l)
  by_cases h8 : ∀ z ∈ zs, 1 ≤ z ∧ z ≤ 8
  · obtain ⟨h1, h2⟩ := nats_of h8
    have hlen : (zs.map Int.toNat).length = n := by simp [hzl]
    have hz : Sizes A w0 O L (zs.map Int.toNat) := ⟨by rw [h1, hlen]; exact hr, h2, by omega⟩
    have hz' : Sizes A w0 O (rtape g l :: L) (zs.map Int.toNat) := ⟨by rw [h1, hlen]; exact hr', h2, by omega⟩
    by_cases ht : tot (zs.map Int.toNat) ≤ l.length
    · have e : numL b l zs = ⟨true, cut l (zs.map Int.toNat), if b then l.drop (tot (zs.map Int.toNat)) else l⟩ := by unfold numL; rw [if_pos ⟨h8, ht⟩]
      rw [e]
      show Calls _ _ _ _ fun e w' => ∃ A' c', e = .returned (.tuple #[.slice A' (cut l (zs.map Int.toNat)).length c', .bool true]) ∧ Sep w0 w' O (own 23 1 A' (cut l (zs.map Int.toNat)).length c' (uv (cut l (zs.map Int.toNat))) :: rtape g (if b then l.drop (tot (zs.map Int.toNat)) else l) :: L)
      rw [cut_len, ← hlen]
      exact rnumbers_ok HS hz hb ht hl
    · have e : numL b l zs = ⟨false, [], l⟩ := by unfold numL; rw [if_neg fun h => ht h.2]
      rw [e, ← hlen]
      refine (rnumbers_short HS hz (by omega)).mono ?_
      · rintro e w' ⟨rfl, rfl⟩
        exact ⟨none, 0, rfl, HS.nil _ _⟩
  · have e : numL b l zs = ⟨false, [], l⟩ := by unfold numL; rw [if_neg fun h => h8 h.1]
    rw [e]
    refine (rnumbers_bad HS hr' hn ?_).mono ?_
    · simpa only [Classical.not_forall, exists_prop] using h8
    · rintro e w' ⟨rfl, rfl⟩
      exact ⟨none, 0, rfl, HS.nil _ _⟩

end
end Go.Proofs.Ytkjlhifppjgieaa
