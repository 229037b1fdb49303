/-
  Contracts of order.Get and order.Put.
-/
import Derived.Test.YtankfmfenbhkgaaOrdB
import Derived.Test.YtankfmfenbhkgaaNum
namespace Go.Proofs.Ytankfmfenbhkgaa
open Go.RowKit
set_option linter.unusedVariables false
set_option linter.unusedSimpArgs false
section
variable {w0 w : World} {O : Nat → Prop} {L : List Asr}

theorem get_size (A : Option Addr) (n c : Nat) (s : Int) (w : World) (hs : ¬ (1 ≤ s ∧ s ≤ 8)) :
    Calls Try.prog 41 #[.slice A n c, .int .i64 s] w fun e w' => e = .returned (.tuple #[.int .u64 0, .int .i64 1]) ∧ w = w' := by
  have hd : decide (1 ≤ s ∧ s ≤ 8) = false := decide_eq_false hs
  go_enter Try.func41, Try.ntmps41
  go_wp2_with fail
  refine (right_calls _ _).mono ?_
  rintro e w1 ⟨rfl, rfl⟩
  rw [hd]
  go_wp2
  go_ret2
  exact ⟨rfl, rfl⟩

theorem get_short (A : Option Addr) (n c : Nat) (s : Int) (w : World) (hs : 1 ≤ s ∧ s ≤ 8) (hn : (n : Int) < s) :
    Calls Try.prog 41 #[.slice A n c, .int .i64 s] w fun e w' => e = .returned (.tuple #[.int .u64 0, .int .i64 4]) ∧ w = w' := by
  have hd : decide (1 ≤ s ∧ s ≤ 8) = true := decide_eq_true hs
  go_enter Try.func41, Try.ntmps41
  go_wp2_with fail
  refine (right_calls _ _).mono ?_
  rintro e w1 ⟨rfl, rfl⟩
  rw [hd]
  go_wp2
  go_ret2
  exact ⟨rfl, rfl⟩

theorem num_small {l : List Int} (h : Byt l) {s : Nat} (hs : s ≤ 8) (k : Nat) (hk : k < s) : 0 ≤ num (l.take k) ∧ num (l.take k) < 72057594037927936 := by
  have h1 := num_bd (l.take k) (h.take k)
  have h2 : (256 : Int) ^ (l.take k).length ≤ 256 ^ 7 := by
    have : (l.take k).length ≤ 7 := by rw [List.length_take]; omega
    have h4 : (256 : Nat) ^ (l.take k).length ≤ 256 ^ 7 := Nat.pow_le_pow_right (by decide) this
    have e : ∀ m : Nat, ((256 : Int) ^ m) = ((256 ^ m : Nat) : Int) := fun m => by rw [Int.natCast_pow]; rfl
    rw [e, e]
    exact Int.ofNat_le.2 h4
  have h3 : (256 : Int) ^ 7 = 72057594037927936 := by decide
  omega

set_option maxHeartbeats 800000 in
theorem get_ok {A : Option Addr} {n c : Nat} {l : List Int} {s : Nat} (HS : Sep w0 w O L) (hr : Rb w0 O L 1 A n (by8 l)) (hb : Byt l) (hc : n ≤ c) (h1 : 1 ≤ s) (h8 : s ≤ 8) (hn : s ≤ n) :
    Calls Try.prog 41 #[.slice A n c, .int .i64 s] w fun e w' => e = .returned (.tuple #[.int .u64 (num (l.take s)), .int .i64 0]) ∧ w = w' := by
  have hl : l.length = n := by have := hr.len HS; simpa [kv] using this
  have hd : decide (1 ≤ (s : Int) ∧ (s : Int) ≤ 8) = true := decide_eq_true (by omega)
  go_enter Try.func41, Try.ntmps41
  go_wp2_with fail
  refine (right_calls _ _).mono ?_
  rintro e w1 ⟨rfl, rfl⟩
  rw [hd]
  go_wp2
  go_loop [6, 20] (fun a i => ∃ k : Nat, k ≤ s ∧ i = .int .i64 k ∧ a = .int .u64 (num (l.take k))) (fun _ i => s - (intOf i).toNat)
  case atStart => exact ⟨0, Nat.zero_le _, rfl, rfl⟩
  case round =>
    obtain ⟨k, hk, rfl, rfl⟩ := hrel
    by_cases hlt : k < s
    · have hb1 := num_small hb h8 k hlt
      obtain ⟨ad, u, rfl, hu, hcell⟩ := hr.at_ HS (show k < n by omega)
      have hkl : k < l.length := by omega
      have hu' : u = .int .u8 l[k] := by
        have : (by8 l)[k]? = some (.int .u8 l[k]) := by simp [kv, hkl]
        rw [this] at hu; injection hu with hu; exact hu.symm
      subst hu'
      have hx := hb l[k] (List.getElem_mem _)
      generalize hxx : l[k] = x at *
      have HT : Hid (num (l.take (k + 1)) = bits .or .u64 (IntKind.u64.wrap (num (l.take k) * 256)) x) := by
        have : l.take (k + 1) = l.take k ++ [x] := by rw [List.take_succ_eq_append_getElem hkl, hxx]
        rw [this, num_snoc, u64_wrap_id (x := num (l.take k) * 256) (by omega) (by omega), or_byte _ _ hb1.1 hb1.2 hx.1 hx.2]; trivial
      clear hxx hu hb1
      go_wp2
      go_round
      case rel => exact ⟨k + 1, by omega, by go_num, by rw [HT.out]⟩
      case measure => simp [intOf]; omega
    · obtain rfl : k = s := by omega
      go_wp2
      go_ret2
      exact ⟨rfl, rfl⟩

theorem put_bad {A : Option Addr} {n c : Nat} {xs : List Value} {x s : Int} (h1 : ∀ u ∈ xs, u.oneCell' = true) (HS : Sep w0 w O L) (hr : Rb w0 O L 1 A n xs) (hn : n ≤ 140737488355320) (hs : ¬ (1 ≤ s ∧ s ≤ 8)) :
    Calls Try.prog 39 #[.slice A n c, .int .u64 x, .int .i64 s] w fun e w' => ∃ A' c', e = .returned (.slice A' n c') ∧ Sep w0 w' O (own 5 1 A' n c' xs :: L) := by
  have hd : decide (1 ≤ s ∧ s ≤ 8) = false := decide_eq_false hs
  go_enter Try.func39, Try.ntmps39
  go_wp2_with fail
  refine (clone_calls h1 HS hr (by omega)).mono ?_
  rintro e w1 ⟨A', c', rfl, HS1⟩
  go_wp2_with fail
  refine (right_calls _ _).mono ?_
  rintro e w2 ⟨rfl, rfl⟩
  rw [hd]
  go_wp2
  go_ret
  exact ⟨_, _, rfl, HS1⟩

set_option maxHeartbeats 800000 in
theorem put_ok {A : Option Addr} {n c : Nat} {l : List Int} {x : Int} {s : Nat} (HS : Sep w0 w O L) (hr : Rb w0 O L 1 A n (by8 l)) (hn : n ≤ 140737488355320) (h1 : 1 ≤ s) (h8 : s ≤ 8) (hx0 : 0 ≤ x) (hx1 : x < 18446744073709551616) :
    Calls Try.prog 39 #[.slice A n c, .int .u64 x, .int .i64 s] w fun e w' => ∃ A' c', e = .returned (.slice A' (n + s) c') ∧ Sep w0 w' O (own 5 1 A' (n + s) c' (by8 (l ++ be s x)) :: L) := by
  obtain ⟨i0, hi0, hz0, hz1, hz2⟩ := info_parts info_u8
  have hd : decide (1 ≤ (s : Int) ∧ (s : Int) ≤ 8) = true := decide_eq_true (by omega)
  go_enter Try.func39, Try.ntmps39
  go_wp2_with fail
  refine (clone_calls (by8_one l) HS hr (by omega)).mono ?_
  rintro e w1 ⟨A', c', rfl, HS1⟩
  go_wp2_with fail
  refine (right_calls _ _).mono ?_
  rintro e w2 ⟨rfl, rfl⟩
  rw [hd]
  go_wp2
  go_loopw [7, 8] (fun v i wr => ∃ (j m : Nat) (A2 : Option Addr) (c2 : Nat), j + m = s ∧ i = .int .i64 ((m : Int) - 1) ∧ v = .slice A2 (n + j) c2 ∧ Sep w0 wr O (own 5 1 A2 (n + j) c2 (by8 (l ++ be j (x / 256 ^ m))) :: L)) (fun _ i _ => (intOf i + 1).toNat)
  case atStart => exact ⟨0, s, A', c', by omega, rfl, rfl, by simpa [be] using HS1⟩
  case round =>
    obtain ⟨j, m, A2, c2, hj, rfl, rfl, HS2⟩ := hrel
    rcases m with _ | m
    · obtain rfl : j = s := by omega
      go_wp2
      go_ret
      exact ⟨_, _, rfl, by simpa using HS2⟩
    · rw [show ((m + 1 : Nat) : Int) - 1 = m from by omega]
      have HL : Sep w0 (wr.alloc (.cells #[.int .u8 (x / 2 ^ (8 * m) % 256)] 5)) O (own 5 1 A2 (n + j) c2 (by8 (l ++ be j (x / 256 ^ (m + 1)))) :: own 5 1 (some ⟨wr.heap.size, 0, none⟩) 1 1 (by8 [x / 2 ^ (8 * m) % 256]) :: L) := (HS2.lit #[.int .u8 (x / 2 ^ (8 * m) % 256)] 5 1 1 rfl (by decide)).up1
      have hrd := HL.rd1
      go_wp2_with (at_builtin; go_loud (refine wpList_append_sep rfl (.tmp 21) (.tmp 28) 25 rfl 5 i0 _ 1 1 Try.underlying25 hi0 hz0 hz1 hz2 rfl (by decide) rfl HL rfl hrd (by8_one [_]) (by simp only [maxLen]; omega) (by omega) (Nat.add_assoc n j 1) ((by8_append _ _).trans (by rw [List.append_assoc, ← be_next])) ?_); intro A3 c3 w3 HS3 hsz3)
      go_roundw
      case rel => exact ⟨j + 1, m, A3, c3, by omega, rfl, rfl, HS3.up1.drop⟩
      case measure => simp [intOf]
end
end Go.Proofs.Ytankfmfenbhkgaa
