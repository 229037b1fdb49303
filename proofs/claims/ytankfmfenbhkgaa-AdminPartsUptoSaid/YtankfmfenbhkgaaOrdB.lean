/-
  Contracts of order.Tape's Peek and Take.
-/
import Derived.Test.YtankfmfenbhkgaaOrdA
namespace Go.Proofs.Ytankfmfenbhkgaa
open Go.RowKit
set_option linter.unusedVariables false
set_option linter.unusedSimpArgs false
theorem by8_take (l : List Int) (n : Nat) : (by8 l).take n = by8 (l.take n) := kv_take _ _ _
theorem by8_drop (l : List Int) (n : Nat) : (by8 l).drop n = by8 (l.drop n) := kv_drop _ _ _
section
variable {w0 w : World} {O : Nat → Prop} {L : List Asr}

set_option maxHeartbeats 400000 in
theorem peek_no {g : Nat} {l : List Int} {n : Int} (HS : Sep w0 w O (Go.Proofs.Ytankfmfenbhkgaa.tape g l :: L)) (hn : n < 0 ∨ (l.length : Int) < n) :
    Calls Try.prog 38 #[.pointer (some ⟨g, 0, none⟩), .int .i64 n] w fun e w' => e = .returned (.tuple #[.slice none 0 0, .bool false]) ∧ w = w' := by
  obtain ⟨A, c, HS⟩ := HS.untape
  have hc := HS.blk_cell 0
  simp only [List.getElem?_toArray, List.getElem?_cons_zero] at hc
  by_cases h0 : n < 0
  · go_enter Try.func38, Try.ntmps38
    go_wp2
    go_ret2
    exact ⟨rfl, rfl⟩
  · have h2 : (l.length : Int) < n := by omega
    go_enter Try.func38, Try.ntmps38
    go_wp2
    go_ret2
    exact ⟨rfl, rfl⟩

set_option maxHeartbeats 400000 in
theorem peek_yes {g : Nat} {l : List Int} {n : Nat} (HS : Sep w0 w O (Go.Proofs.Ytankfmfenbhkgaa.tape g l :: L)) (hn : n ≤ l.length) (hl : l.length ≤ 140737488355328) :
    Calls Try.prog 38 #[.pointer (some ⟨g, 0, none⟩), .int .i64 n] w fun e w' => ∃ A' c', e = .returned (.tuple #[.slice A' n c', .bool true]) ∧ Sep w0 w' O (own 5 1 A' n c' (by8 (l.take n)) :: Go.Proofs.Ytankfmfenbhkgaa.tape g l :: L) := by
  obtain ⟨A, c, HS⟩ := HS.untape
  have hc := HS.blk_cell 0
  simp only [List.getElem?_toArray, List.getElem?_cons_zero] at hc
  have hle := own_le HS.up1
  have hr : Rb w0 O (blk g 82 #[.slice A l.length c] :: own 5 1 A l.length c (by8 l) :: L) 1 A n ((by8 l).take (n * 1)) := (Rb.own (e := 5) (c := c) (by simp)).take hn
  have h0 : ¬ ((n : Int) < 0) := by omega
  have h2 : ¬ ((l.length : Int) < n) := by omega
  go_enter Try.func38, Try.ntmps38
  go_wp2_with fail
  refine (clone_calls (fun u hu => by8_one l u (List.mem_of_mem_take hu)) HS hr (by omega)).mono ?_
  rintro e w1 ⟨A', c', rfl, HS1⟩
  go_wp2
  go_ret2
  refine ⟨_, _, rfl, ?_⟩
  have := (HS1.dn2.tape rfl rfl).up1
  rwa [Nat.mul_one, by8_take] at this

set_option maxHeartbeats 400000 in
theorem take_no {g : Nat} {l : List Int} {n : Int} (HS : Sep w0 w O (Go.Proofs.Ytankfmfenbhkgaa.tape g l :: L)) (hn : n < 0 ∨ (l.length : Int) < n) :
    Calls Try.prog 42 #[.pointer (some ⟨g, 0, none⟩), .int .i64 n] w fun e w' => e = .returned (.tuple #[.slice none 0 0, .bool false]) ∧ w = w' := by
  go_enter Try.func42, Try.ntmps42
  go_wp2_with fail
  refine (peek_no HS hn).mono ?_
  rintro e w1 ⟨rfl, rfl⟩
  go_wp2
  go_ret2
  exact ⟨rfl, rfl⟩

set_option maxHeartbeats 1000000 in
set_option maxRecDepth 100000 in
theorem take_yes {g : Nat} {l : List Int} {n : Nat} (HS : Sep w0 w O (Go.Proofs.Ytankfmfenbhkgaa.tape g l :: L)) (hn : n ≤ l.length) (hl : l.length ≤ 140737488355328) :
    Calls Try.prog 42 #[.pointer (some ⟨g, 0, none⟩), .int .i64 n] w fun e w' => ∃ A' c', e = .returned (.tuple #[.slice A' n c', .bool true]) ∧ Sep w0 w' O (own 5 1 A' n c' (by8 (l.take n)) :: Go.Proofs.Ytankfmfenbhkgaa.tape g (l.drop n) :: L) := by
  obtain ⟨i0, hi0, hz0, hz1, hz2⟩ := info_parts info_u8
  go_enter Try.func42, Try.ntmps42
  go_wp2_with fail
  refine (peek_yes HS hn hl).mono ?_
  rintro e w1 ⟨A', c', rfl, HS1⟩
  clear HS
  obtain ⟨A, c, HS2⟩ := HS1.up1.untape
  have hc := HS2.blk_cell 0
  have hf := HS2.blk_frozen 0
  simp only [List.getElem?_toArray, List.getElem?_cons_zero] at hc
  have hle := own_le HS2.up1
  have HL := HS2.lit #[] 5 1 0 rfl (Nat.zero_le _)
  have hr : Rb w0 O (own 5 1 (some ⟨w1.heap.size, 0, none⟩) 0 0 [] :: blk g 82 #[.slice A l.length c] :: own 5 1 A l.length c (by8 l) :: own 5 1 A' n c' (by8 (l.take n)) :: L) 1 (if c = n then A else A.map (·.add n)) (l.length - n) (by8 (l.drop n)) := by
    have := (Rb.own (w0 := w0) (O := O) (L := own 5 1 (some ⟨w1.heap.size, 0, none⟩) 0 0 [] :: blk g 82 #[.slice A l.length c] :: own 5 1 A l.length c (by8 l) :: own 5 1 A' n c' (by8 (l.take n)) :: L) (e := 5) (c := c) (A := A) (by simp)).tail1 (by8_len l) hn hle
    rwa [by8_drop] at this
  have hrd := hr.read HL
  have hc2 := HL.up1.blk_cell 0
  simp only [List.getElem?_toArray, List.getElem?_cons_zero] at hc2
  go_wp2_with (at_builtin; refine wpList_append_sep rfl (.tmp 16) (.tmp 22) 25 rfl 5 i0 _ 1 1 Try.underlying25 hi0 hz0 hz1 hz2 rfl (by decide) rfl HL rfl hrd (by8_one _) (by simp only [maxLen]; omega) (by omega) (Nat.zero_add _) rfl ?_; intro A2 c2 w2 HS3 hsz1; have hc1 := HS3.up1.blk_cell 0; have hf1 := HS3.up1.blk_frozen 0; simp only [List.getElem?_toArray, List.getElem?_cons_zero] at hc1)
  all_goals
    go_ret2
    exact ⟨_, _, rfl, ((HS3.up1.blk_set 0 _).tape (by simp) rfl).up1.drop.up1⟩
end
end Go.Proofs.Ytankfmfenbhkgaa
