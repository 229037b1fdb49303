/-
  Contract of the law's 'same': two rows of numbers are compared.
-/
import Derived.Test.YtkjlhifppjgieaaOrdD
import Derived.Deep.QuietTactic
import Derived.BigQuiet
namespace Go.Proofs.Ytkjlhifppjgieaa
open Go.RowKit
set_option linter.unusedVariables false
set_option linter.unusedSimpArgs false
section
variable {w0 w : World} {O : Nat → Prop} {L : List Asr}

set_option maxHeartbeats 800000 in
theorem same_calls {A B : Option Addr} {n c m d : Nat} {a b : List Int} (HS : Sep w0 w O L) (ha : Rb w0 O L 1 A n (uv a)) (hb : Rb w0 O L 1 B m (uv b)) (hn : n ≤ 17592186044416) (hnc : n ≤ c) (hmd : m ≤ d) :
    Calls Try.prog 17 #[.slice A n c, .slice B m d] w fun e w' => e = .returned (.bool (decide (a = b))) ∧ ∃ q, w' = w.drewN q := by
  have la := ha.klen HS
  have lb := hb.klen HS
  have HLA := hid la; have HLB := hid lb
  by_cases hnm : n = m
  · subst hnm
    clear la lb
    go_enter Try.func17, Try.ntmps17
    go_wp2
    go_loopw [13] (fun i wr => ∃ k : Nat, k ≤ n ∧ i = .int .i64 k ∧ Aside (a.take k = b.take k) ∧ ∃ q, wr = w.drewN q) (fun i _ => n - (intOf i).toNat)
    case atStart => exact ⟨0, Nat.zero_le _, rfl, ⟨by simp⟩, 0, rfl⟩
    case round =>
      obtain ⟨k, hk, rfl, HE, q, rfl⟩ := hrel
      by_cases hlt : k < n
      · obtain ⟨ad, x, rfl, hx, _, hcx⟩ := ha.elemn HS hlt
        obtain ⟨bd, y, rfl, hy, _, hcy⟩ := hb.elemn HS hlt
        have HX := hid hx; have HY := hid hy
        clear hx hy
        by_cases hxy : x = y
        · have hne : (!(x == y)) = false := by simp [hxy]
          subst hxy
          go_wp2_with fail
          go_quiet (fail)
          go_wp2
          go_roundw
          case rel => exact ⟨k + 1, by omega, by go_num, ⟨by rw [List.take_add_one, List.take_add_one, HE.out, HX.out, HY.out]⟩, q + nq, rfl⟩
          case measure => simp [intOf]; omega
        · have hne : (!(x == y)) = true := by simp [hxy]
          have hd : decide (a = b) = false := decide_eq_false fun e => hxy (by
            have h1 := HX.out; rw [e, HY.out] at h1; injection h1 with h1; exact h1.symm)
          have HD := hid hd
          clear hd
          go_wp2_with fail
          go_quiet (fail)
          go_wp2
          go_ret
          exact ⟨by rw [HD.out]; rfl, q + nq, World.drewN_drewN _ _ _⟩
      · obtain rfl : k = n := by omega
        have hd : decide (a = b) = true := decide_eq_true (by
          have h1 := HE.out
          rwa [List.take_of_length_le (by have := HLA.out; omega), List.take_of_length_le (by have := HLB.out; omega)] at h1)
        have HD := hid hd
        clear hd
        go_wp2
        go_ret
        exact ⟨by rw [HD.out]; rfl, q, rfl⟩
  · have hd : decide (a = b) = false := decide_eq_false fun e => hnm (by rw [← la, ← lb, e])
    have HD := hid hd
    have hne : ((n : Int) == (m : Int)) = false := by rw [beq_eq_false_iff_ne]; omega
    clear hd la lb
    go_enter Try.func17, Try.ntmps17
    go_wp2
    go_ret
    exact ⟨by rw [HD.out]; rfl, 0, rfl⟩
end
end Go.Proofs.Ytkjlhifppjgieaa
