/-
  Contracts of request's rules and of request.Check.
-/
import Derived.Test.YtbfcnbggkcaolaaCodesChk
import Derived.Deep.QuietTactic
import Derived.BigQuiet
namespace Go.Proofs.Ytbfcnbggkcaolaa
open Go.RowKit
set_option linter.unusedVariables false
set_option linter.unusedSimpArgs false

/-- a request, a volume, a command asked, as cells -/
abbrev reqC (fl kd ck off len : Int) (D : Value) : List Value := [.int .i64 fl, .int .i64 kd, .int .u64 ck, .int .u64 off, .int .u32 len, D]
abbrev volC (id : Int) (nm : ByteArray) (size root : Int) (fixed : Bool) (orig : Int) : List Value := [.int .u64 id, .string nm, .int .u64 size, .int .u64 root, .bool fixed, .int .u64 orig]
abbrev reqV (fl kd ck off len : Int) (D : Value) : Value := .agg #[.int .i64 fl, .int .i64 kd, .int .u64 ck, .int .u64 off, .int .u32 len, D]
abbrev volV (id : Int) (nm : ByteArray) (size root : Int) (fixed : Bool) (orig : Int) : Value := .agg #[.int .u64 id, .string nm, .int .u64 size, .int .u64 root, .bool fixed, .int .u64 orig]
abbrev askV (fl kd ck off len : Int) (D : Value) (id : Int) (nm : ByteArray) (size root : Int) (fixed : Bool) (orig : Int) : Value :=
  .agg #[.int .i64 fl, .int .i64 kd, .int .u64 ck, .int .u64 off, .int .u32 len, D, .int .u64 id, .string nm, .int .u64 size, .int .u64 root, .bool fixed, .int .u64 orig]

def chg (kd : Int) : Bool := kd == 1 || kd == 4 || kd == 6
def within (off n size : Int) : Bool := decide (off ≤ size) && decide (n ≤ size - off)

section
variable {w0 w : World} {O : Nat → Prop} {L : List Asr}

theorem changes_calls (kd : Int) (w : World) : Calls Try.prog 12 #[.int .i64 kd] w fun e w' => e = .returned (.bool (chg kd)) ∧ w = w' := by
  have hk : kd = 1 ∨ kd = 4 ∨ kd = 6 ∨ (kd ≠ 1 ∧ kd ≠ 4 ∧ kd ≠ 6) := by omega
  rcases hk with rfl | rfl | rfl | ⟨h1, h4, h6⟩
  case inr.inr.inr =>
    have r1 : (kd == 1) = false := beq_eq_false_iff_ne.2 h1
    have r4 : (kd == 4) = false := beq_eq_false_iff_ne.2 h4
    have r6 : (kd == 6) = false := beq_eq_false_iff_ne.2 h6
    have hc : chg kd = false := by unfold chg; rw [r1, r4, r6]; rfl
    rw [hc]
    clear h1 h4 h6
    go_enter Try.func12, Try.ntmps12
    go_wp2
    go_ret
    exact ⟨rfl, rfl⟩
  all_goals
    go_enter Try.func12, Try.ntmps12
    go_wp2
    go_ret
    exact ⟨rfl, rfl⟩

theorem within_calls (off n size : Int) (w : World) (h0 : 0 ≤ off) (h1 : off < 18446744073709551616) (h2 : 0 ≤ size) (h3 : size < 18446744073709551616) :
    Calls Try.prog 44 #[.int .u64 off, .int .u64 n, .int .u64 size] w fun e w' => e = .returned (.bool (within off n size)) ∧ w = w' := by
  by_cases h : off ≤ size
  · have hc : within off n size = decide (n ≤ size - off) := by unfold within; rw [decide_eq_true h]; rfl
    rw [hc]
    go_enter Try.func44, Try.ntmps44
    go_wp2
    go_ret
    exact ⟨rfl, rfl⟩
  · have hc : within off n size = false := by unfold within; rw [decide_eq_false h]; rfl
    rw [hc]
    go_enter Try.func44, Try.ntmps44
    go_wp2
    go_ret
    exact ⟨rfl, rfl⟩

variable {fl kd ck off len : Int} {D : Value} {id : Int} {nm : ByteArray} {size root : Int} {fixed : Bool} {orig : Int}

def rPlain (kd off len : Int) : Int := if kd = 3 ∧ ¬ (off = 0 ∧ len = 0) then 1 else 0
def rLong (kd len : Int) : Int := if (kd = 0 ∨ kd = 1) ∧ 4096 < len then 3 else 0
def rFixed (kd : Int) (fixed : Bool) : Int := if fixed = true ∧ chg kd = true then 30 else 0
def rWithin (kd off len size : Int) : Int := if kd ≠ 3 ∧ kd ≠ 2 ∧ within off len size = false then 31 else 0

theorem rule_code (HS : Sep w0 w O L) (h1 : -9223372036854775808 ≤ fl) (h2 : fl < 9223372036854775808) :
    Calls Try.prog 27 #[askV fl kd ck off len D id nm size root fixed orig] w fun e w' => e = .returned (.int .i64 (chk kd fl)) ∧ Sep w0 w' O L := by
  go_enter Try.func27, Try.ntmps27
  go_wp2_with fail
  refine (codes_check kd fl _ h1 h2).mono ?_
  rintro e w1 ⟨rfl, rfl⟩
  go_wp2
  go_ret
  exact ⟨rfl, HS.alloc_ _⟩

theorem rule_plain (HS : Sep w0 w O L) :
    Calls Try.prog 28 #[askV fl kd ck off len D id nm size root fixed orig] w fun e w' => e = .returned (.int .i64 (rPlain kd off len)) ∧ Sep w0 w' O L := by
  by_cases h3 : kd = 3
  · subst h3
    by_cases ho : off = 0
    · subst ho
      by_cases hl : len = 0
      · subst hl
        go_enter Try.func28, Try.ntmps28
        go_wp2
        go_ret
        exact ⟨rfl, HS.alloc_ _⟩
      · have hl' : (len != 0) = true := bne_iff_ne.2 hl
        rw [show rPlain 3 0 len = 1 by unfold rPlain; rw [if_pos]; simp [hl]]
        clear hl
        go_enter Try.func28, Try.ntmps28
        go_wp2
        go_ret
        exact ⟨rfl, HS.alloc_ _⟩
    · have ho' : (off != 0) = true := bne_iff_ne.2 ho
      rw [show rPlain 3 off len = 1 by unfold rPlain; rw [if_pos]; simp [ho]]
      clear ho
      go_enter Try.func28, Try.ntmps28
      go_wp2
      go_ret
      exact ⟨rfl, HS.alloc_ _⟩
  · have h3' : (kd == 3) = false := beq_eq_false_iff_ne.2 h3
    rw [show rPlain kd off len = 0 by unfold rPlain; rw [if_neg]; simp [h3]]
    clear h3
    go_enter Try.func28, Try.ntmps28
    go_wp2
    go_ret
    exact ⟨rfl, HS.alloc_ _⟩

theorem rule_long (HS : Sep w0 w O L) :
    Calls Try.prog 29 #[askV fl kd ck off len D id nm size root fixed orig] w fun e w' => e = .returned (.int .i64 (rLong kd len)) ∧ Sep w0 w' O L := by
  have hk : (kd = 0 ∨ kd = 1) ∨ (kd ≠ 0 ∧ kd ≠ 1) := by omega
  rcases hk with hk | ⟨h0, h1⟩
  · by_cases hl : 4096 < len
    · rw [show rLong kd len = 3 by unfold rLong; rw [if_pos ⟨hk, hl⟩]]
      rcases hk with rfl | rfl
      all_goals
        go_enter Try.func29, Try.ntmps29
        go_wp2
        go_ret
        exact ⟨rfl, HS.alloc_ _⟩
    · rw [show rLong kd len = 0 by unfold rLong; rw [if_neg fun h => hl h.2]]
      rcases hk with rfl | rfl
      all_goals
        go_enter Try.func29, Try.ntmps29
        go_wp2
        go_ret
        exact ⟨rfl, HS.alloc_ _⟩
  · have r0 : (kd == 0) = false := beq_eq_false_iff_ne.2 h0
    have r1 : (kd == 1) = false := beq_eq_false_iff_ne.2 h1
    rw [show rLong kd len = 0 by unfold rLong; rw [if_neg]; omega]
    clear h0 h1
    go_enter Try.func29, Try.ntmps29
    go_wp2
    go_ret
    exact ⟨rfl, HS.alloc_ _⟩

theorem rule_fixed (HS : Sep w0 w O L) :
    Calls Try.prog 30 #[askV fl kd ck off len D id nm size root fixed orig] w fun e w' => e = .returned (.int .i64 (rFixed kd fixed)) ∧ Sep w0 w' O L := by
  cases fixed
  · go_enter Try.func30, Try.ntmps30
    go_wp2
    go_ret
    exact ⟨rfl, HS.alloc_ _⟩
  · cases hc : chg kd
    · rw [show rFixed kd true = 0 by unfold rFixed; rw [if_neg]; simp [hc]]
      have HC := hid hc
      clear hc
      go_enter Try.func30, Try.ntmps30
      go_wp2_with fail
      refine (changes_calls kd _).mono ?_
      rintro e w1 ⟨rfl, rfl⟩
      rw [HC.out]
      go_wp2
      go_ret
      exact ⟨rfl, HS.alloc_ _⟩
    · rw [show rFixed kd true = 30 by unfold rFixed; rw [if_pos]; simp [hc]]
      have HC := hid hc
      clear hc
      go_enter Try.func30, Try.ntmps30
      go_wp2_with fail
      refine (changes_calls kd _).mono ?_
      rintro e w1 ⟨rfl, rfl⟩
      rw [HC.out]
      go_wp2
      go_ret
      exact ⟨rfl, HS.alloc_ _⟩

theorem rule_within (HS : Sep w0 w O L) (l0 : 0 ≤ len) (l1 : len < 4294967296) (h0 : 0 ≤ off) (h1 : off < 18446744073709551616) (h2 : 0 ≤ size) (h3 : size < 18446744073709551616) :
    Calls Try.prog 31 #[askV fl kd ck off len D id nm size root fixed orig] w fun e w' => e = .returned (.int .i64 (rWithin kd off len size)) ∧ Sep w0 w' O L := by
  have hk : kd = 3 ∨ kd = 2 ∨ (kd ≠ 3 ∧ kd ≠ 2) := by omega
  rcases hk with rfl | rfl | ⟨k3, k2⟩
  · rw [show rWithin 3 off len size = 0 by unfold rWithin; rw [if_neg]; simp]
    go_enter Try.func31, Try.ntmps31
    go_wp2
    go_ret
    exact ⟨rfl, HS.alloc_ _⟩
  · rw [show rWithin 2 off len size = 0 by unfold rWithin; rw [if_neg]; simp]
    go_enter Try.func31, Try.ntmps31
    go_wp2
    go_ret
    exact ⟨rfl, HS.alloc_ _⟩
  · have r3 : (kd != 3) = true := bne_iff_ne.2 k3
    have r2 : (kd != 2) = true := bne_iff_ne.2 k2
    cases hc : within off len size
    · rw [show rWithin kd off len size = 31 by unfold rWithin; rw [if_pos ⟨k3, k2, hc⟩]]
      have HC := hid hc
      clear hc k3 k2
      go_enter Try.func31, Try.ntmps31
      go_wp2_with fail
      refine (within_calls off len size _ h0 h1 h2 h3).mono ?_
      rintro e w1 ⟨rfl, rfl⟩
      rw [HC.out]
      go_wp2
      go_ret
      exact ⟨rfl, HS.alloc_ _⟩
    · rw [show rWithin kd off len size = 0 by unfold rWithin; rw [if_neg]; simp [hc]]
      have HC := hid hc
      clear hc k3 k2
      go_enter Try.func31, Try.ntmps31
      go_wp2_with fail
      refine (within_calls off len size _ h0 h1 h2 h3).mono ?_
      rintro e w1 ⟨rfl, rfl⟩
      rw [HC.out]
      go_wp2
      go_ret
      exact ⟨rfl, HS.alloc_ _⟩
end
end Go.Proofs.Ytbfcnbggkcaolaa
