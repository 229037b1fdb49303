/-
  Contracts of the reference of layer 1: Put, Push, Peek, Take, Numbers.
-/
import Derived.Test.YtkjlhifppjgieaaRefA
import Derived.Test.YtkjlhifppjgieaaOrdD
import Derived.Deep.QuietTactic
import Derived.BigQuiet
namespace Go.Proofs.Ytkjlhifppjgieaa
open Go.RowKit
set_option linter.unusedVariables false
set_option linter.unusedSimpArgs false
abbrev rtape (g : Nat) (l : List Int) : Asr := tapeT 50 g l

theorem be_rev_get (s : Nat) (x : Int) (j : Nat) (hj : j < s) : (be s x).take (j + 1) = (be s x).take j ++ [((be s x).reverse)[s - 1 - j]'(by simp [be_len]; omega)] := by
  rw [List.take_succ_eq_append_getElem (by simp [be_len]; omega)]
  congr 2
  rw [List.getElem_reverse]
  congr 1
  simp [be_len]; omega
theorem be_low (j : Nat) (x : Int) : (be (j + 1) x).reverse = (be j x).reverse ++ [x / 256 ^ j % 256] := by
  induction j generalizing x with
  | zero => simp [be]
  | succ j ih =>
    have h1 : be (j + 1 + 1) x = be (j + 1) (x / 256) ++ [x % 256] := rfl
    have h2 : be (j + 1) x = be j (x / 256) ++ [x % 256] := rfl
    rw [h1, List.reverse_append, ih, h2, List.reverse_append]
    have h3 : x / 256 / 256 ^ j = x / 256 ^ (j + 1) := by rw [Int.ediv_ediv_of_nonneg (by decide), Int.pow_succ, Int.mul_comm]
    rw [h3]; simp

section
variable {w0 w : World} {O : Nat → Prop} {L : List Asr}

set_option maxHeartbeats 400000 in
theorem rput_bad {A : Option Addr} {n c : Nat} {xs : List Value} {x s : Int} (h1 : ∀ u ∈ xs, u.oneCell' = true) (HS : Sep w0 w O L) (hr : Rb w0 O L 1 A n xs) (hn : n ≤ 140737488355320) (hs : ¬ (1 ≤ s ∧ s ≤ 8)) :
    Calls Try.prog 22 #[.slice A n c, .int .u64 x, .int .i64 s] w fun e w' => ∃ A' c', e = .returned (.slice A' n c') ∧ Sep w0 w' O (own 5 1 A' n c' xs :: L) := by
  obtain ⟨i0, hi0, hz0, hz1, hz2⟩ := info_parts info_u8
  have HN := HS.nil 5 1
  have hrd := hr.read HS
  have key : s < 1 ∨ 8 < s := by omega
  rcases key with k | k
  · go_enter Try.func22, Try.ntmps22
    go_wp2_with (at_builtin; refine wpList_append_sep rfl (.tmp 11) (.tmp 12) 22 rfl 5 i0 _ 1 1 Try.underlying22 hi0 hz0 hz1 hz2 rfl (by decide) rfl HN rfl hrd h1 (by simp only [maxLen]; omega) (by omega) (Nat.zero_add n) rfl ?_; intro A1 c1 w1 HS1 hsz1)
    go_ret
    exact ⟨_, _, rfl, HS1⟩
  · have k' : ¬ s < 1 := by omega
    go_enter Try.func22, Try.ntmps22
    go_wp2_with (at_builtin; refine wpList_append_sep rfl (.tmp 11) (.tmp 12) 22 rfl 5 i0 _ 1 1 Try.underlying22 hi0 hz0 hz1 hz2 rfl (by decide) rfl HN rfl hrd h1 (by simp only [maxLen]; omega) (by omega) (Nat.zero_add n) rfl ?_; intro A1 c1 w1 HS1 hsz1)
    go_ret
    exact ⟨_, _, rfl, HS1⟩

set_option maxHeartbeats 1000000 in
theorem rput_ok {A : Option Addr} {n c : Nat} {l : List Int} {x : Int} {s : Nat} (HS : Sep w0 w O L) (hr : Rb w0 O L 1 A n (by8 l)) (hn : n ≤ 140737488355320) (h1 : 1 ≤ s) (h8 : s ≤ 8) (hx0 : 0 ≤ x) (hx1 : x < 18446744073709551616) :
    Calls Try.prog 22 #[.slice A n c, .int .u64 x, .int .i64 s] w fun e w' => ∃ A' c', e = .returned (.slice A' (n + s) c') ∧ Sep w0 w' O (own 5 1 A' (n + s) c' (by8 (l ++ be s x)) :: L) := by
  obtain ⟨i0, hi0, hz0, hz1, hz2⟩ := info_parts info_u8
  have HN := HS.nil 5 1
  have hrd := hr.read HS
  have k1 : ¬ (s : Int) < 1 := by omega
  have k2 : ¬ 8 < (s : Int) := by omega
  go_enter Try.func22, Try.ntmps22
  go_wp2_with (at_builtin; refine wpList_append_sep rfl (.tmp 11) (.tmp 12) 22 rfl 5 i0 _ 1 1 Try.underlying22 hi0 hz0 hz1 hz2 rfl (by decide) rfl HN rfl hrd (by8_one l) (by simp only [maxLen]; omega) (by omega) (Nat.zero_add n) rfl ?_; intro A1 c1 w1 HS1 hsz1)
  clear hrd HN
  go_loopw [1, 8, 9] (fun u v i wr => ∃ (j : Nat) (A2 : Option Addr) (c2 : Nat), j ≤ s ∧ i = .int .i64 j ∧ u = .int .u64 (x / 256 ^ j) ∧ v = .slice A2 j c2 ∧ Sep w0 wr O (own 5 1 A2 j c2 (by8 (be j x).reverse) :: own 5 1 A1 n c1 (by8 l) :: L)) (fun _ _ i _ => s - (intOf i).toNat)
  case atStart => exact ⟨0, none, 0, Nat.zero_le _, rfl, by simp, rfl, by simpa [be, kv] using HS1.nil 5 1⟩
  case round =>
    obtain ⟨j, A2, c2, hj, rfl, rfl, rfl, HS2⟩ := hrel
    by_cases hlt : j < s
    · have hy0 : 0 ≤ x / 256 ^ j := Int.ediv_nonneg hx0 (Int.pow_nonneg (by decide))
      have hy1 : x / 256 ^ j < 18446744073709551616 := Int.lt_of_le_of_lt (Int.ediv_le_self _ hx0) hx1
      have HL := hid (be_low j x)
      have HP : Aside (x / 256 ^ (j + 1) = x / 256 ^ j / 256) := ⟨by rw [Int.ediv_ediv_of_nonneg (Int.pow_nonneg (by decide)), Int.pow_succ]⟩
      generalize hyy : x / 256 ^ j = y at *
      clear hyy
      have HA : Sep w0 (wr.alloc (.cells #[.int .u8 (y % 256)] 5)) O (own 5 1 A2 j c2 (by8 (be j x).reverse) :: own 5 1 (some ⟨wr.heap.size, 0, none⟩) 1 1 (by8 [y % 256]) :: own 5 1 A1 n c1 (by8 l) :: L) := (HS2.lit #[.int .u8 (y % 256)] 5 1 1 rfl (by decide)).up1
      go_wp2_with (at_builtin; go_loud (refine wpList_append_sep rfl (.tmp 26) (.tmp 30) 22 rfl 5 i0 _ 1 1 Try.underlying22 hi0 hz0 hz1 hz2 rfl (by decide) rfl HA rfl HA.rd1 (by8_one [_]) (by simp only [maxLen]; omega) (by omega) rfl ((by8_append _ _).trans (by rw [← HL.out])) ?_); intro A3 c3 w3 HS3 hsz3)
      go_roundw
      case rel => exact ⟨j + 1, A3, c3, by omega, by go_num, by rw [HP.out], rfl, HS3.up1.drop⟩
      case measure => simp [intOf]; omega
    · obtain rfl : j = s := by omega
      go_wp2
      go_loopw [7, 10] (fun v i wr' => ∃ (m q : Nat) (A3 : Option Addr) (c3 : Nat), m + q = j ∧ i = .int .i64 ((q : Int) - 1) ∧ v = .slice A3 (n + m) c3 ∧ Sep w0 wr' O (own 5 1 A3 (n + m) c3 (by8 (l ++ (be j x).take m)) :: own 5 1 A2 j c2 (by8 (be j x).reverse) :: L)) (fun _ i _ => (intOf i + 1).toNat)
      case atStart => exact ⟨0, j, A1, c1, by omega, rfl, rfl, by simpa using HS2.up1⟩
      case round =>
        obtain ⟨m, q, A3, c3, hq, rfl, rfl, HS3⟩ := hrel
        rcases q with _ | q
        · obtain rfl : m = j := by omega
          go_wp2
          go_ret
          exact ⟨_, _, rfl, by have := HS3.up1.drop; rwa [List.take_of_length_le (by simp [be_len])] at this⟩
        · rw [show ((q + 1 : Nat) : Int) - 1 = q from by omega]
          have hrl : ((be j x).reverse).length = j := by simp [be_len]
          obtain ⟨ad, rfl, hcell⟩ := (Rb.i1 (w0 := w0) (O := O) (k := c2) (A := A2) (n := j) (xs := by8 (be j x).reverse) (e := 5) (size := 1)).elem HS3 (show q < _ by rw [hrl]; omega)
          have HG := hid (be_rev_get j x m (by omega))
          have hqq : j - 1 - m = q := by omega
          simp only [hqq] at HG
          generalize ((be j x).reverse)[q]'(by rw [hrl]; omega) = y at *
          clear hqq
          have HA : Sep w0 (wr.alloc (.cells #[.int .u8 y] 5)) O (own 5 1 A3 (n + m) c3 (by8 (l ++ (be j x).take m)) :: own 5 1 (some ⟨wr.heap.size, 0, none⟩) 1 1 (by8 [y]) :: own 5 1 (some ad) j c2 (by8 (be j x).reverse) :: L) := (HS3.lit #[.int .u8 y] 5 1 1 rfl (by decide)).up1
          go_wp2_with (at_builtin; go_loud (refine wpList_append_sep rfl (.tmp 40) (.tmp 45) 22 rfl 5 i0 _ 1 1 Try.underlying22 hi0 hz0 hz1 hz2 rfl (by decide) rfl HA rfl HA.rd1 (by8_one [_]) (by simp only [maxLen]; omega) (by omega) (Nat.add_assoc n m 1) ((by8_append _ _).trans (by rw [List.append_assoc, ← HG.out])) ?_); intro A4 c4 w4 HS4 hsz4)
          go_roundw
          case rel => exact ⟨m + 1, q, A4, c4, by omega, rfl, rfl, HS4.up1.drop⟩
          case measure => simp [intOf]

set_option maxHeartbeats 400000 in
theorem rpush_calls {g : Nat} {l m : List Int} {A2 : Option Addr} {c2 n2 : Nat} (HS : Sep w0 w O (rtape g l :: L)) (hr : Rb w0 O L 1 A2 n2 (by8 m)) (hb : l.length + n2 ≤ 140737488355328) :
    Calls Try.prog 23 #[.pointer (some ⟨g, 0, none⟩), .slice A2 n2 c2] w fun e w' => e = .returned (.tuple #[]) ∧ Sep w0 w' O (rtape g (l ++ m) :: L) := by
  obtain ⟨i0, hi0, hz0, hz1, hz2⟩ := info_parts info_u8
  have hrd := hr.read HS.drop
  have hml := hr.klen HS.drop
  obtain ⟨A, c, HS⟩ := HS.untape
  have hc := HS.blk_cell 0
  simp only [List.getElem?_toArray, List.getElem?_cons_zero] at hc
  have HM := hid hml
  clear hml
  go_enter Try.func23, Try.ntmps23
  go_wp2_with (at_builtin; refine wpList_append_sep rfl (.tmp 8) (.tmp 9) 22 rfl 5 i0 _ 1 1 Try.underlying22 hi0 hz0 hz1 hz2 rfl (by decide) rfl HS.up1 rfl hrd (by8_one m) (by simp only [maxLen]; omega) (by omega) rfl (by8_append l m) ?_; intro A' c' w1 HS1 hsz1; have hc1 := HS1.up1.blk_cell 0; have hf1 := HS1.up1.blk_frozen 0; simp only [List.getElem?_toArray, List.getElem?_cons_zero] at hc1)
  go_end0
  exact ⟨rfl, (HS1.up1.blk_set 0 _).tape (by simp [HM.out]) rfl⟩

set_option maxHeartbeats 400000 in
theorem rpeek_no {g : Nat} {l : List Int} {n : Int} (HS : Sep w0 w O (rtape g l :: L)) (hn : n < 0 ∨ (l.length : Int) < n) :
    Calls Try.prog 24 #[.pointer (some ⟨g, 0, none⟩), .int .i64 n] w fun e w' => e = .returned (.tuple #[.slice none 0 0, .bool false]) ∧ w = w' := by
  obtain ⟨A, c, HS⟩ := HS.untape
  have hc := HS.blk_cell 0
  simp only [List.getElem?_toArray, List.getElem?_cons_zero] at hc
  by_cases h0 : n < 0
  · go_enter Try.func24, Try.ntmps24
    go_wp2
    go_ret2
    exact ⟨rfl, rfl⟩
  · have h2 : (l.length : Int) < n := by omega
    go_enter Try.func24, Try.ntmps24
    go_wp2
    go_ret2
    exact ⟨rfl, rfl⟩

set_option maxHeartbeats 400000 in
theorem rpeek_yes {g : Nat} {l : List Int} {n : Nat} (HS : Sep w0 w O (rtape g l :: L)) (hn : n ≤ l.length) (hl : l.length ≤ 140737488355328) :
    Calls Try.prog 24 #[.pointer (some ⟨g, 0, none⟩), .int .i64 n] w fun e w' => ∃ A' c', e = .returned (.tuple #[.slice A' n c', .bool true]) ∧ Sep w0 w' O (own 5 1 A' n c' (by8 (l.take n)) :: rtape g l :: L) := by
  obtain ⟨i0, hi0, hz0, hz1, hz2⟩ := info_parts info_u8
  obtain ⟨A, c, HS⟩ := HS.untape
  have hc := HS.blk_cell 0
  simp only [List.getElem?_toArray, List.getElem?_cons_zero] at hc
  have hle := own_le HS.up1
  have hrd := ((Rb.i1 (w0 := w0) (O := O) (L := L) (a := blk g 50 #[.slice A l.length c]) (e := 5) (size := 1) (A := A) (n := l.length) (k := c) (xs := by8 l)).ktake hn).read HS
  have HN := HS.nil 5 1
  have h0 : ¬ ((n : Int) < 0) := by omega
  have h2 : ¬ ((l.length : Int) < n) := by omega
  go_enter Try.func24, Try.ntmps24
  go_wp2_with (at_builtin; refine wpList_append_sep rfl (.tmp 18) (.tmp 24) 22 rfl 5 i0 _ 1 1 Try.underlying22 hi0 hz0 hz1 hz2 rfl (by decide) rfl HN rfl hrd (by8_one _) (by simp only [maxLen]; omega) (by omega) (Nat.zero_add n) rfl ?_; intro A1 c1 w1 HS1 hsz1)
  go_ret2
  exact ⟨_, _, rfl, (HS1.dn2.tape rfl rfl).up1⟩

set_option maxHeartbeats 400000 in
theorem rtake_no {g : Nat} {l : List Int} {n : Int} (HS : Sep w0 w O (rtape g l :: L)) (hn : n < 0 ∨ (l.length : Int) < n) :
    Calls Try.prog 25 #[.pointer (some ⟨g, 0, none⟩), .int .i64 n] w fun e w' => e = .returned (.tuple #[.slice none 0 0, .bool false]) ∧ w = w' := by
  go_enter Try.func25, Try.ntmps25
  go_wp2_with fail
  refine (rpeek_no HS hn).mono ?_
  rintro e w1 ⟨rfl, rfl⟩
  go_wp2
  go_ret2
  exact ⟨rfl, rfl⟩

set_option maxHeartbeats 400000 in
theorem rtake_yes {g : Nat} {l : List Int} {n : Nat} (HS : Sep w0 w O (rtape g l :: L)) (hn : n ≤ l.length) (hl : l.length ≤ 140737488355328) :
    Calls Try.prog 25 #[.pointer (some ⟨g, 0, none⟩), .int .i64 n] w fun e w' => ∃ A' c', e = .returned (.tuple #[.slice A' n c', .bool true]) ∧ Sep w0 w' O (own 5 1 A' n c' (by8 (l.take n)) :: rtape g (l.drop n) :: L) := by
  obtain ⟨i0, hi0, hz0, hz1, hz2⟩ := info_parts info_u8
  go_enter Try.func25, Try.ntmps25
  go_wp2_with fail
  refine (rpeek_yes HS hn hl).mono ?_
  rintro e w1 ⟨A', c', rfl, HS1⟩
  clear HS
  obtain ⟨A, c, HS2⟩ := HS1.up1.untape
  have hc := HS2.blk_cell 0
  have hf := HS2.blk_frozen 0
  simp only [List.getElem?_toArray, List.getElem?_cons_zero] at hc
  have hle := own_le HS2.up1
  have HN := HS2.nil 5 1
  have hrd := ((Rb.i1 (w0 := w0) (O := O) (L := own 5 1 A' n c' (by8 (l.take n)) :: L) (a := blk g 50 #[.slice A l.length c]) (e := 5) (size := 1) (A := A) (n := l.length) (k := c) (xs := by8 l)).ktail rfl hn hle).read HS2
  go_wp2_with (at_builtin; go_loud (refine wpList_append_sep rfl (.tmp 17) (.tmp 23) 22 rfl 5 i0 _ 1 1 Try.underlying22 hi0 hz0 hz1 hz2 rfl (by decide) rfl HN rfl hrd (by8_one _) (by simp only [maxLen]; omega) (by omega) (Nat.zero_add _) rfl ?_); intro A2 c2 w2 HS3 hsz1; have hc1 := HS3.up1.blk_cell 0; have hf1 := HS3.up1.blk_frozen 0; simp only [List.getElem?_toArray, List.getElem?_cons_zero] at hc1)
  all_goals
    go_ret2
    exact ⟨_, _, rfl, ((HS3.up1.blk_set 0 _).tape (by simp) rfl).up1.drop.up1⟩
end
end Go.Proofs.Ytkjlhifppjgieaa
