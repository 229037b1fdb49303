/-
  Contract of codes.Check.
-/
import Derived.Test.YtbfcnbggkcaolaaOrdA
namespace Go.Proofs.Ytbfcnbggkcaolaa
open Go.RowKit
set_option linter.unusedVariables false
set_option linter.unusedSimpArgs false

/-- P21.4 -/
def chk (k f : Int) : Int := if (0 ≤ k ∧ k ≤ 4 ∧ (f = 0 ∨ f = 1)) ∨ (k = 6 ∧ 0 ≤ f ∧ f ≤ 3) then 0 else 1

theorem bv_split (x m : BitVec 64) : x = (x &&& m) ||| (x &&& ~~~m) := by
  ext i hi
  simp
  cases x[i] <;> cases m[i] <;> simp
theorem i64_wrap_zero (n : Nat) (h : n < 18446744073709551616) : (IntKind.i64.wrap (n : Int) == 0) = decide (n = 0) := by
  rcases Nat.eq_zero_or_pos n with h0 | h0
  · subst h0; rfl
  · have hd : decide (n = 0) = false := decide_eq_false (by omega)
    rw [hd]
    simp [IntKind.wrap, IntKind.bits, IntKind.signed]
    split <;> omega
theorem andNot_mask {f : Int} (j : Nat) (hj : j = 1 ∨ j = 2) (h1 : -9223372036854775808 ≤ f) (h2 : f < 9223372036854775808) :
    (bits .andNot .i64 f (2 ^ j - 1 : Nat) == 0) = decide (0 ≤ f ∧ f ≤ ((2 ^ j - 1 : Nat) : Int)) := by
  show (IntKind.i64.wrap ((BitVec.ofInt 64 f &&& ~~~BitVec.ofInt 64 ((2 ^ j - 1 : Nat) : Int)).toNat : Int) == 0) = _
  rw [i64_wrap_zero _ (BitVec.isLt _)]
  have hx : (BitVec.ofInt 64 f).toNat = (f % 18446744073709551616).toNat := by simp [BitVec.toNat_ofInt]
  have hm : (BitVec.ofInt 64 ((2 ^ j - 1 : Nat) : Int)).toNat = 2 ^ j - 1 := by rcases hj with rfl | rfl <;> decide
  rw [decide_eq_decide]
  constructor
  · intro h
    have h0 : BitVec.ofInt 64 f &&& ~~~BitVec.ofInt 64 ((2 ^ j - 1 : Nat) : Int) = 0#64 := BitVec.eq_of_toNat_eq (by rw [h]; rfl)
    have e := bv_split (BitVec.ofInt 64 f) (BitVec.ofInt 64 ((2 ^ j - 1 : Nat) : Int))
    rw [h0, BitVec.or_zero] at e
    have e2 := congrArg BitVec.toNat e
    rw [BitVec.toNat_and, hm, hx, Nat.and_two_pow_sub_one_eq_mod] at e2
    rcases hj with rfl | rfl <;> omega
  · rintro ⟨h3, h4⟩
    obtain ⟨n, rfl⟩ := Int.eq_ofNat_of_zero_le h3
    rcases hj with rfl | rfl
    · have : n = 0 ∨ n = 1 := by omega
      rcases this with rfl | rfl <;> decide
    · have : n = 0 ∨ n = 1 ∨ n = 2 ∨ n = 3 := by omega
      rcases this with rfl | rfl | rfl | rfl <;> decide
theorem andNot1 {f : Int} (h1 : -9223372036854775808 ≤ f) (h2 : f < 9223372036854775808) : (bits .andNot .i64 f 1 == 0) = decide (0 ≤ f ∧ f ≤ 1) := andNot_mask 1 (.inl rfl) h1 h2
theorem andNot3 {f : Int} (h1 : -9223372036854775808 ≤ f) (h2 : f < 9223372036854775808) : (bits .andNot .i64 f 3 == 0) = decide (0 ≤ f ∧ f ≤ 3) := andNot_mask 2 (.inr rfl) h1 h2

set_option maxHeartbeats 1000000 in
theorem codes_check (k f : Int) (w : World) (h1 : -9223372036854775808 ≤ f) (h2 : f < 9223372036854775808) :
    Calls Try.prog 43 #[.int .i64 k, .int .i64 f] w fun e w' => e = .returned (.int .i64 (chk k f)) ∧ w = w' := by
  have a1 := hid (andNot1 h1 h2)
  have a3 := hid (andNot3 h1 h2)
  have hk : k = 0 ∨ k = 1 ∨ k = 2 ∨ k = 3 ∨ k = 4 ∨ k = 6 ∨ (k ≠ 0 ∧ k ≠ 1 ∧ k ≠ 2 ∧ k ≠ 3 ∧ k ≠ 4 ∧ k ≠ 6) := by omega
  rcases hk with rfl | rfl | rfl | rfl | rfl | rfl | ⟨k0, k1, k2, k3, k4, k6⟩
  case inr.inr.inr.inr.inr.inr =>
    have r0 : (k == 0) = false := beq_eq_false_iff_ne.2 k0
    have r1 : (k == 1) = false := beq_eq_false_iff_ne.2 k1
    have r2 : (k == 2) = false := beq_eq_false_iff_ne.2 k2
    have r3 : (k == 3) = false := beq_eq_false_iff_ne.2 k3
    have r4 : (k == 4) = false := beq_eq_false_iff_ne.2 k4
    have r6 : (k == 6) = false := beq_eq_false_iff_ne.2 k6
    have hc : chk k f = 1 := by unfold chk; rw [if_neg]; omega
    rw [hc]
    clear k0 k1 k2 k3 k4 k6
    go_enter Try.func43, Try.ntmps43
    go_wp2
    go_ret
    exact ⟨rfl, rfl⟩
  case inr.inr.inr.inr.inr.inl =>
    by_cases h : 0 ≤ f ∧ f ≤ 3
    · have hc : chk 6 f = 0 := by unfold chk; rw [if_pos]; omega
      have b3 : (bits .andNot .i64 f (bits .or .i64 1 2) != 0) = false := by show (!(bits .andNot .i64 f 3 == 0)) = false; rw [a3.out, decide_eq_true h]; rfl
      rw [hc]
      go_enter Try.func43, Try.ntmps43
      go_wp2
      go_ret
      exact ⟨rfl, rfl⟩
    · have hc : chk 6 f = 1 := by unfold chk; rw [if_neg]; omega
      have b3 : (bits .andNot .i64 f (bits .or .i64 1 2) != 0) = true := by show (!(bits .andNot .i64 f 3 == 0)) = true; rw [a3.out, decide_eq_false h]; rfl
      rw [hc]
      go_enter Try.func43, Try.ntmps43
      go_wp2
      go_ret
      exact ⟨rfl, rfl⟩
  all_goals
    by_cases h : 0 ≤ f ∧ f ≤ 1
    · rw [show chk _ f = 0 by unfold chk; rw [if_pos]; omega]
      have b1 : (bits .andNot .i64 f 1 != 0) = false := by show (!(bits .andNot .i64 f 1 == 0)) = false; rw [a1.out, decide_eq_true h]; rfl
      go_enter Try.func43, Try.ntmps43
      go_wp2
      go_ret
      exact ⟨rfl, rfl⟩
    · rw [show chk _ f = 1 by unfold chk; rw [if_neg]; omega]
      have b1 : (bits .andNot .i64 f 1 != 0) = true := by show (!(bits .andNot .i64 f 1 == 0)) = true; rw [a1.out, decide_eq_false h]; rfl
      go_enter Try.func43, Try.ntmps43
      go_wp2
      go_ret
      exact ⟨rfl, rfl⟩
end Go.Proofs.Ytbfcnbggkcaolaa
