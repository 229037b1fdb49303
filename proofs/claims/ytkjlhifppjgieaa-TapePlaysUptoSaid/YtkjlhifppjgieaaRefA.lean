/-
  Contracts of the reference of layer 1: Get, Put.
-/
import Derived.Test.YtkjlhifppjgieaaOrdC
namespace Go.Proofs.Ytkjlhifppjgieaa
open Go.RowKit
set_option linter.unusedVariables false
set_option linter.unusedSimpArgs false
section
variable {w0 w : World} {O : Nat → Prop} {L : List Asr}

theorem rget_size (A : Option Addr) (n c : Nat) (s : Int) (w : World) (hs : ¬ (1 ≤ s ∧ s ≤ 8)) :
    Calls Try.prog 11 #[.slice A n c, .int .i64 s] w fun e w' => e = .returned (.tuple #[.int .u64 0, .int .i64 1]) ∧ w = w' := by
  by_cases h1 : s < 1
  · go_enter Try.func11, Try.ntmps11
    go_wp2
    go_ret2
    exact ⟨rfl, rfl⟩
  · have h8 : 8 < s := by omega
    go_enter Try.func11, Try.ntmps11
    go_wp2
    go_ret2
    exact ⟨rfl, rfl⟩

theorem rget_short (A : Option Addr) (n c : Nat) (s : Int) (w : World) (hs : 1 ≤ s ∧ s ≤ 8) (hn : (n : Int) < s) :
    Calls Try.prog 11 #[.slice A n c, .int .i64 s] w fun e w' => e = .returned (.tuple #[.int .u64 0, .int .i64 4]) ∧ w = w' := by
  have h1 : ¬ s < 1 := by omega
  have h8 : ¬ 8 < s := by omega
  go_enter Try.func11, Try.ntmps11
  go_wp2
  go_ret2
  exact ⟨rfl, rfl⟩

set_option maxHeartbeats 800000 in
theorem rget_ok {A : Option Addr} {n c : Nat} {l : List Int} {s : Nat} (HS : Sep w0 w O L) (hr : Rb w0 O L 1 A n (by8 l)) (hb : Byt l) (h1 : 1 ≤ s) (h8 : s ≤ 8) (hn : s ≤ n) :
    Calls Try.prog 11 #[.slice A n c, .int .i64 s] w fun e w' => e = .returned (.tuple #[.int .u64 (num (l.take s)), .int .i64 0]) ∧ w = w' := by
  have hl : l.length = n := by have := hr.len HS; simpa [kv] using this
  have h1' : ¬ (s : Int) < 1 := by omega
  have h8' : ¬ 8 < (s : Int) := by omega
  have hn' : ¬ (n : Int) < s := by omega
  go_enter Try.func11, Try.ntmps11
  go_wp2
  go_loop [6, 7] (fun a i => ∃ k : Nat, k ≤ s ∧ i = .int .i64 k ∧ a = .int .u64 (num (l.take k))) (fun _ i => s - (intOf i).toNat)
  case atStart => exact ⟨0, Nat.zero_le _, rfl, rfl⟩
  case round =>
    obtain ⟨k, hk, rfl, rfl⟩ := hrel
    by_cases hlt : k < s
    · have hb1 := num_small hb h8 k hlt
      obtain ⟨ad, u, rfl, hu, hcell⟩ := hr.at_ HS (show k < n by omega)
      have hkl : k < l.length := by omega
      have hu' : u = .int .u8 l[k] := by
        have : (by8 l)[k]? = some (.int .u8 l[k]) := by simp [kv, hkl]
        rw [this] at hu; injection hu with hu; exact hu.symm
      subst hu'
      have hx := hb l[k] (List.getElem_mem _)
      generalize hxx : l[k] = x at *
      have HT : Aside (num (l.take (k + 1)) = 256 * num (l.take k) + x) := ⟨by
        have : l.take (k + 1) = l.take k ++ [x] := by rw [List.take_succ_eq_append_getElem hkl, hxx]
        rw [this, num_snoc]⟩
      clear hxx hu
      generalize num (l.take k) = N at *
      obtain ⟨hb1, hb2⟩ := hb1
      obtain ⟨hx1, hx2⟩ := hx
      have hkn : k < n := by omega
      go_wp2
      go_round
      case rel => exact ⟨k + 1, by omega, by go_num, by rw [HT.out]⟩
      case measure => simp [intOf]; omega
    · obtain rfl : k = s := by omega
      go_wp2
      go_ret2
      exact ⟨rfl, rfl⟩
end
end Go.Proofs.Ytkjlhifppjgieaa
