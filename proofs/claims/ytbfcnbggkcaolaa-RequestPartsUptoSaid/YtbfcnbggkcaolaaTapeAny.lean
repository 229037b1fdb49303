/-
  order.Tape's Peek, Take and Numbers at any arguments: one contract each.
-/
import Derived.Test.YtbfcnbggkcaolaaOrdD
namespace Go.Proofs.Ytbfcnbggkcaolaa
open Go.RowKit
set_option linter.unusedVariables false
set_option linter.unusedSimpArgs false

/-- what Peek and Take answer, and what is left -/
structure Got where
  ok : Bool
  d : List Int
  l : List Int
def askL (take : Bool) (l : List Int) (m : Int) : Got := if 0 ≤ m ∧ m ≤ l.length then ⟨true, l.take m.toNat, if take then l.drop m.toNat else l⟩ else ⟨false, [], l⟩
def numL (take : Bool) (l zs : List Int) : Got :=
  if (∀ z ∈ zs, 1 ≤ z ∧ z ≤ 8) ∧ tot (zs.map Int.toNat) ≤ l.length then ⟨true, cut l (zs.map Int.toNat), if take then l.drop (tot (zs.map Int.toNat)) else l⟩ else ⟨false, [], l⟩
theorem askL_len (b : Bool) (l : List Int) (m : Int) : (askL b l m).l.length ≤ l.length := by
  unfold askL; split
  · cases b <;> simp
  · exact Nat.le_refl _
theorem numL_len (b : Bool) (l zs : List Int) : (numL b l zs).l.length ≤ l.length := by
  unfold numL; split
  · cases b <;> simp
  · exact Nat.le_refl _
theorem numL_dlen (b : Bool) (l zs : List Int) : (numL b l zs).d.length ≤ zs.length := by
  unfold numL; split
  · simp [cut_len]
  · exact Nat.zero_le _
theorem askL_dlen (b : Bool) (l : List Int) (m : Int) : (askL b l m).d.length ≤ l.length := by
  unfold askL; split
  · simp only [List.length_take]; omega
  · exact Nat.zero_le _
theorem askL_all (b : Bool) (l : List Int) : (askL b l (l.length : Int)).ok = true ∧ (askL b l (l.length : Int)).d = l := by
  unfold askL; rw [if_pos (by omega)]; simp
theorem askL_byt (b : Bool) {l : List Int} (h : Byt l) (m : Int) : Byt (askL b l m).l ∧ Byt (askL b l m).d := by
  unfold askL; split
  · refine ⟨?_, h.take _⟩
    cases b
    · exact h
    · exact h.drop _
  · exact ⟨h, fun x hx => by cases hx⟩
theorem numL_byt (b : Bool) {l : List Int} (h : Byt l) (zs : List Int) : Byt (numL b l zs).l := by
  unfold numL; split
  · cases b
    · exact h
    · exact h.drop _
  · exact h

section
variable {w0 w : World} {O : Nat → Prop} {L : List Asr}

theorem peek_any {g : Nat} {l : List Int} {m : Int} (HS : Sep w0 w O (Go.Proofs.Ytbfcnbggkcaolaa.tape g l :: L)) (hl : l.length ≤ 140737488355328) :
    Calls Try.prog 42 #[.pointer (some ⟨g, 0, none⟩), .int .i64 m] w fun e w' => ∃ A' c', e = .returned (.tuple #[.slice A' (askL false l m).d.length c', .bool (askL false l m).ok]) ∧ Sep w0 w' O (own 5 1 A' (askL false l m).d.length c' (by8 (askL false l m).d) :: Go.Proofs.Ytbfcnbggkcaolaa.tape g (askL false l m).l :: L) := by
  by_cases h : 0 ≤ m ∧ m ≤ l.length
  · obtain ⟨n, rfl⟩ := Int.eq_ofNat_of_zero_le h.1
    have hn : n ≤ l.length := by omega
    have e : askL false l (n : Int) = ⟨true, l.take n, l⟩ := by unfold askL; rw [if_pos h]; simp
    rw [e]
    show Calls _ _ _ _ fun e w' => ∃ A' c', e = .returned (.tuple #[.slice A' (l.take n).length c', .bool true]) ∧ Sep w0 w' O (own 5 1 A' (l.take n).length c' (by8 (l.take n)) :: Go.Proofs.Ytbfcnbggkcaolaa.tape g l :: L)
    rw [List.length_take, Nat.min_eq_left hn]
    exact peek_yes HS hn hl
  · have e : askL false l m = ⟨false, [], l⟩ := by unfold askL; rw [if_neg h]
    rw [e]
    refine (peek_no HS (by omega)).mono ?_
    rintro e w' ⟨rfl, rfl⟩
    exact ⟨none, 0, rfl, HS.nil _ _⟩
theorem take_any {g : Nat} {l : List Int} {m : Int} (HS : Sep w0 w O (Go.Proofs.Ytbfcnbggkcaolaa.tape g l :: L)) (hl : l.length ≤ 140737488355328) :
    Calls Try.prog 40 #[.pointer (some ⟨g, 0, none⟩), .int .i64 m] w fun e w' => ∃ A' c', e = .returned (.tuple #[.slice A' (askL true l m).d.length c', .bool (askL true l m).ok]) ∧ Sep w0 w' O (own 5 1 A' (askL true l m).d.length c' (by8 (askL true l m).d) :: Go.Proofs.Ytbfcnbggkcaolaa.tape g (askL true l m).l :: L) := by
  by_cases h : 0 ≤ m ∧ m ≤ l.length
  · obtain ⟨n, rfl⟩ := Int.eq_ofNat_of_zero_le h.1
    have hn : n ≤ l.length := by omega
    have e : askL true l (n : Int) = ⟨true, l.take n, l.drop n⟩ := by unfold askL; rw [if_pos h]; simp
    rw [e]
    show Calls _ _ _ _ fun e w' => ∃ A' c', e = .returned (.tuple #[.slice A' (l.take n).length c', .bool true]) ∧ Sep w0 w' O (own 5 1 A' (l.take n).length c' (by8 (l.take n)) :: Go.Proofs.Ytbfcnbggkcaolaa.tape g (l.drop n) :: L)
    rw [List.length_take, Nat.min_eq_left hn]
    exact take_yes HS hn hl
  · have e : askL true l m = ⟨false, [], l⟩ := by unfold askL; rw [if_neg h]
    rw [e]
    refine (take_no HS (by omega)).mono ?_
    rintro e w' ⟨rfl, rfl⟩
    exact ⟨none, 0, rfl, HS.nil _ _⟩

theorem nats_of {zs : List Int} (h : ∀ z ∈ zs, 1 ≤ z ∧ z ≤ 8) : (zs.map Int.toNat).map Int.ofNat = zs ∧ ∀ s ∈ zs.map Int.toNat, 1 ≤ s ∧ s ≤ 8 := by
  constructor
  · induction zs with
    | nil => rfl
    | cons z zs ih =>
      have h1 := h z (by simp)
      rw [List.map_cons, List.map_cons, ih fun y hy => h y (by simp [hy])]
      congr 1
      exact Int.toNat_of_nonneg (by omega)
  · intro s hs
    obtain ⟨z, hz, rfl⟩ := List.mem_map.1 hs
    have h1 := h z hz
    omega

theorem numbers_any {g : Nat} {l : List Int} {b : Bool} {A : Option Addr} {n c : Nat} {zs : List Int} (HS : Sep w0 w O (Go.Proofs.Ytbfcnbggkcaolaa.tape g l :: L)) (hr : Rb w0 O L 1 A n (iv zs)) (hn : n ≤ 17592186044416) (hb : Byt l) (hl : l.length ≤ 140737488355328) :
    Calls Try.prog 39 #[.pointer (some ⟨g, 0, none⟩), .bool b, .slice A n c] w fun e w' => ∃ A' c', e = .returned (.tuple #[.slice A' (numL b l zs).d.length c', .bool (numL b l zs).ok]) ∧ Sep w0 w' O (own 22 1 A' (numL b l zs).d.length c' (uv (numL b l zs).d) :: Go.Proofs.Ytbfcnbggkcaolaa.tape g (numL b l zs).l :: L) := by
  have hzl := hr.klen HS.drop
  have hr' := hr.cons (P := Go.Proofs.Ytbfcnbggkcaolaa.tape g l)
  by_cases h8 : ∀ z ∈ zs, 1 ≤ z ∧ z ≤ 8
  · obtain ⟨h1, h2⟩ := nats_of h8
    have hlen : (zs.map Int.toNat).length = n := by simp [hzl]
    have hz : Sizes A w0 O L (zs.map Int.toNat) := ⟨by rw [h1, hlen]; exact hr, h2, by omega⟩
    have hz' : Sizes A w0 O (Go.Proofs.Ytbfcnbggkcaolaa.tape g l :: L) (zs.map Int.toNat) := ⟨by rw [h1, hlen]; exact hr', h2, by omega⟩
    by_cases ht : tot (zs.map Int.toNat) ≤ l.length
    · have e : numL b l zs = ⟨true, cut l (zs.map Int.toNat), if b then l.drop (tot (zs.map Int.toNat)) else l⟩ := by unfold numL; rw [if_pos ⟨h8, ht⟩]
      rw [e]
      show Calls _ _ _ _ fun e w' => ∃ A' c', e = .returned (.tuple #[.slice A' (cut l (zs.map Int.toNat)).length c', .bool true]) ∧ Sep w0 w' O (own 22 1 A' (cut l (zs.map Int.toNat)).length c' (uv (cut l (zs.map Int.toNat))) :: Go.Proofs.Ytbfcnbggkcaolaa.tape g (if b then l.drop (tot (zs.map Int.toNat)) else l) :: L)
      rw [cut_len, ← hlen]
      cases b
      · exact numbers_peek HS hz hb ht hl
      · exact numbers_take HS hz hb ht hl
    · have e : numL b l zs = ⟨false, [], l⟩ := by unfold numL; rw [if_neg fun h => ht h.2]
      rw [e, ← hlen]
      refine (numbers_fail HS hz' ?_).mono ?_
      · cases b
        · exact peek_no HS (by omega)
        · exact take_no HS (by omega)
      · rintro e w' ⟨rfl, rfl⟩
        exact ⟨none, 0, rfl, HS.nil _ _⟩
  · have e : numL b l zs = ⟨false, [], l⟩ := by unfold numL; rw [if_neg fun h => h8 h.1]
    rw [e]
    refine (numbers_bad HS hr' hn ?_).mono ?_
    · simpa only [Classical.not_forall, exists_prop] using h8
    · rintro e w' ⟨rfl, rfl⟩
      exact ⟨none, 0, rfl, HS.nil _ _⟩

theorem Sep.blk_at {g : Nat} {t : TypeId} {cs : Array Value} (h : Sep w0 w O (blk g t cs :: L)) (i : Nat) {v : Value} (hv : cs[i]? = some v) : w.cell? ⟨g, i, none⟩ = some v := (h.blk_cell i).trans hv
end
end Go.Proofs.Ytbfcnbggkcaolaa
