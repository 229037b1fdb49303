/-
  Contracts of cisternref21.Check and cisternref23.Check.
-/
import Derived.Test.YtbfcnbggkcaolaaReqCheck
namespace Go.Proofs.Ytbfcnbggkcaolaa
open Go.RowKit
set_option linter.unusedVariables false
set_option linter.unusedSimpArgs false

theorem chk_kinds {k f : Int} (h : chk k f = 0) : k = 0 ∨ k = 1 ∨ k = 2 ∨ k = 3 ∨ k = 4 ∨ k = 6 := by
  unfold chk at h; split at h <;> omega
theorem chk_one {k f : Int} (h : chk k f ≠ 0) : chk k f = 1 := by
  unfold chk at h ⊢; split at h <;> simp_all

section
variable {w0 w : World} {O : Nat → Prop} {L : List Asr}

set_option maxHeartbeats 1000000 in
theorem rchk_calls (k f : Int) (w : World) : Calls Try.prog 32 #[.int .i64 k, .int .i64 f] w fun e w' => e = .returned (.int .i64 (chk k f)) ∧ w = w' := by
  have hk : k < 0 ∨ 6 < k ∨ k = 5 ∨ k = 6 ∨ k = 0 ∨ k = 1 ∨ k = 2 ∨ k = 3 ∨ k = 4 := by omega
  have hf : f = 0 ∨ f = 1 ∨ f = 2 ∨ f = 3 ∨ (f ≠ 0 ∧ f ≠ 1 ∧ f ≠ 2 ∧ f ≠ 3) := by omega
  rcases hk with h | h | rfl | rfl | hk
  · rw [show chk k f = 1 by unfold chk; rw [if_neg]; omega]
    go_enter Try.func32, Try.ntmps32
    go_wp2
    go_ret
    exact ⟨rfl, rfl⟩
  · rw [show chk k f = 1 by unfold chk; rw [if_neg]; omega]
    have h0 : ¬ k < 0 := by omega
    have h5 : (k == 5) = false := by rw [beq_eq_false_iff_ne]; omega
    go_enter Try.func32, Try.ntmps32
    go_wp2
    go_ret
    exact ⟨rfl, rfl⟩
  · rw [show chk 5 f = 1 by unfold chk; rw [if_neg]; omega]
    go_enter Try.func32, Try.ntmps32
    go_wp2
    go_ret
    exact ⟨rfl, rfl⟩
  · rcases hf with rfl | rfl | rfl | rfl | ⟨f0, f1, f2, f3⟩
    case inr.inr.inr.inr =>
      rw [show chk 6 f = 1 by unfold chk; rw [if_neg]; omega]
      have r0 : (f == 0) = false := beq_eq_false_iff_ne.2 f0
      have r1 : (f == 1) = false := beq_eq_false_iff_ne.2 f1
      have r2 : (f == 2) = false := beq_eq_false_iff_ne.2 f2
      have r3 : (f == 3) = false := beq_eq_false_iff_ne.2 f3
      clear f0 f1 f2 f3
      go_enter Try.func32, Try.ntmps32
      go_wp2
      go_ret
      exact ⟨rfl, rfl⟩
    all_goals
      go_enter Try.func32, Try.ntmps32
      go_wp2
      go_ret
      exact ⟨rfl, rfl⟩
  · by_cases h01 : f = 0 ∨ f = 1
    · rcases h01 with rfl | rfl
      all_goals
        rcases hk with rfl | rfl | rfl | rfl | rfl
        all_goals
          go_enter Try.func32, Try.ntmps32
          go_wp2
          go_ret
          exact ⟨rfl, rfl⟩
    · have r0 : (f == 0) = false := by rw [beq_eq_false_iff_ne]; omega
      have r1 : (f == 1) = false := by rw [beq_eq_false_iff_ne]; omega
      have hc : chk k f = 1 := by unfold chk; rw [if_neg]; omega
      rw [hc]
      clear h01 hf hc
      rcases hk with rfl | rfl | rfl | rfl | rfl
      all_goals
        go_enter Try.func32, Try.ntmps32
        go_wp2
        go_ret
        exact ⟨rfl, rfl⟩

variable {fl kd ck off len : Int} {D : Value} {id : Int} {nm : ByteArray} {size root : Int} {fixed : Bool} {orig : Int}

/-- the last test: the range -/
theorem within_gt {off len size : Int} (h : off ≤ size) : within off len size = !decide (size - off < len) := by
  unfold within; rw [decide_eq_true h]
  by_cases h2 : len ≤ size - off
  · rw [decide_eq_true h2, decide_eq_false (by omega)]; rfl
  · rw [decide_eq_false h2, decide_eq_true (by omega)]; rfl

set_option maxHeartbeats 4000000 in
theorem rcheck_calls (HS : Sep w0 w O L) (l0 : 0 ≤ len) (l1 : len < 4294967296) (h0 : 0 ≤ off) (h1 : off < 18446744073709551616) (h2 : 0 ≤ size) (h3 : size < 18446744073709551616) :
    Calls Try.prog 11 #[reqV fl kd ck off len D, volV id nm size root fixed orig] w fun e w' => e = .returned (.int .i64 (reqCheck fl kd off len size fixed)) ∧ Sep w0 w' O L := by
  have HSb : ∀ (a b : Array Value) (s t : TypeId), Sep w0 ((w.alloc (.cells a s)).alloc (.cells b t)) O L := fun a b s t => (HS.alloc_ _).alloc_ _
  have HT := hid HSb
  clear HSb
  by_cases hc : chk kd fl = 0
  · have HC := hid hc
    have hk := chk_kinds hc
    rcases hk with rfl | rfl | rfl | rfl | rfl | rfl
    · skip
      by_cases gl : 4096 < len
      · skip
        rw [show reqCheck fl 0 off len size fixed = 3 by simp [reqCheck, firstBad, HC.out, rPlain, rLong, rFixed, rWithin, chg, within, gl]; try omega]
        clear hc
        go_enter Try.func11, Try.ntmps11
        go_wp2_with fail
        refine (rchk_calls 0 fl _).mono ?_
        rintro e w1 ⟨rfl, rfl⟩
        rw [HC.out]
        go_wp2
        go_ret
        exact ⟨rfl, HT.out _ _ _ _⟩
      · skip
        cases fixed
        all_goals
          by_cases g1 : size < off
          · have g1' : ¬ off ≤ size := by omega
            rw [show reqCheck fl 0 off len size _ = 31 by simp [reqCheck, firstBad, HC.out, rPlain, rLong, rFixed, rWithin, chg, within, g1']; try omega]
            clear hc g1'
            go_enter Try.func11, Try.ntmps11
            go_wp2_with fail
            refine (rchk_calls 0 fl _).mono ?_
            rintro e w1 ⟨rfl, rfl⟩
            rw [HC.out]
            go_wp2
            go_ret
            exact ⟨rfl, HT.out _ _ _ _⟩
          · by_cases g2 : size - off < len
            · have g1' : off ≤ size := by omega
              have g2' : ¬ len ≤ size - off := by omega
              rw [show reqCheck fl 0 off len size _ = 31 by simp [reqCheck, firstBad, HC.out, rPlain, rLong, rFixed, rWithin, chg, within, g1', g2']; try omega]
              clear hc g1' g2'
              go_enter Try.func11, Try.ntmps11
              go_wp2_with fail
              refine (rchk_calls 0 fl _).mono ?_
              rintro e w1 ⟨rfl, rfl⟩
              rw [HC.out]
              go_wp2
              go_ret
              exact ⟨rfl, HT.out _ _ _ _⟩
            · have g1' : off ≤ size := by omega
              have g2' : len ≤ size - off := by omega
              rw [show reqCheck fl 0 off len size _ = 0 by simp [reqCheck, firstBad, HC.out, rPlain, rLong, rFixed, rWithin, chg, within, g1', g2', gl]; try omega]
              clear hc g1' g2'
              go_enter Try.func11, Try.ntmps11
              go_wp2_with fail
              refine (rchk_calls 0 fl _).mono ?_
              rintro e w1 ⟨rfl, rfl⟩
              rw [HC.out]
              go_wp2
              go_ret
              exact ⟨rfl, HT.out _ _ _ _⟩
    · skip
      by_cases gl : 4096 < len
      · skip
        rw [show reqCheck fl 1 off len size fixed = 3 by simp [reqCheck, firstBad, HC.out, rPlain, rLong, rFixed, rWithin, chg, within, gl]; try omega]
        clear hc
        go_enter Try.func11, Try.ntmps11
        go_wp2_with fail
        refine (rchk_calls 1 fl _).mono ?_
        rintro e w1 ⟨rfl, rfl⟩
        rw [HC.out]
        go_wp2
        go_ret
        exact ⟨rfl, HT.out _ _ _ _⟩
      · skip
        cases fixed
        · skip
          by_cases g1 : size < off
          · have g1' : ¬ off ≤ size := by omega
            rw [show reqCheck fl 1 off len size _ = 31 by simp [reqCheck, firstBad, HC.out, rPlain, rLong, rFixed, rWithin, chg, within, g1']; try omega]
            clear hc g1'
            go_enter Try.func11, Try.ntmps11
            go_wp2_with fail
            refine (rchk_calls 1 fl _).mono ?_
            rintro e w1 ⟨rfl, rfl⟩
            rw [HC.out]
            go_wp2
            go_ret
            exact ⟨rfl, HT.out _ _ _ _⟩
          · by_cases g2 : size - off < len
            · have g1' : off ≤ size := by omega
              have g2' : ¬ len ≤ size - off := by omega
              rw [show reqCheck fl 1 off len size _ = 31 by simp [reqCheck, firstBad, HC.out, rPlain, rLong, rFixed, rWithin, chg, within, g1', g2']; try omega]
              clear hc g1' g2'
              go_enter Try.func11, Try.ntmps11
              go_wp2_with fail
              refine (rchk_calls 1 fl _).mono ?_
              rintro e w1 ⟨rfl, rfl⟩
              rw [HC.out]
              go_wp2
              go_ret
              exact ⟨rfl, HT.out _ _ _ _⟩
            · have g1' : off ≤ size := by omega
              have g2' : len ≤ size - off := by omega
              rw [show reqCheck fl 1 off len size _ = 0 by simp [reqCheck, firstBad, HC.out, rPlain, rLong, rFixed, rWithin, chg, within, g1', g2', gl]; try omega]
              clear hc g1' g2'
              go_enter Try.func11, Try.ntmps11
              go_wp2_with fail
              refine (rchk_calls 1 fl _).mono ?_
              rintro e w1 ⟨rfl, rfl⟩
              rw [HC.out]
              go_wp2
              go_ret
              exact ⟨rfl, HT.out _ _ _ _⟩
        · skip
          rw [show reqCheck fl 1 off len size true = 30 by simp [reqCheck, firstBad, HC.out, rPlain, rLong, rFixed, rWithin, chg, within, gl]; try omega]
          clear hc
          go_enter Try.func11, Try.ntmps11
          go_wp2_with fail
          refine (rchk_calls 1 fl _).mono ?_
          rintro e w1 ⟨rfl, rfl⟩
          rw [HC.out]
          go_wp2
          go_ret
          exact ⟨rfl, HT.out _ _ _ _⟩
    · skip
      cases fixed
      all_goals
        rw [show reqCheck fl 2 off len size _ = 0 by simp [reqCheck, firstBad, HC.out, rPlain, rLong, rFixed, rWithin, chg, within]; try omega]
        clear hc
        go_enter Try.func11, Try.ntmps11
        go_wp2_with fail
        refine (rchk_calls 2 fl _).mono ?_
        rintro e w1 ⟨rfl, rfl⟩
        rw [HC.out]
        go_wp2
        go_ret
        exact ⟨rfl, HT.out _ _ _ _⟩
    · skip
      by_cases g1 : 0 < off
      · have g1' : ¬ off = 0 := by omega
        rw [show reqCheck fl 3 off len size fixed = 1 by simp [reqCheck, firstBad, HC.out, rPlain, rLong, rFixed, rWithin, chg, within, g1']; try omega]
        clear hc g1'
        go_enter Try.func11, Try.ntmps11
        go_wp2_with fail
        refine (rchk_calls 3 fl _).mono ?_
        rintro e w1 ⟨rfl, rfl⟩
        rw [HC.out]
        go_wp2
        go_ret
        exact ⟨rfl, HT.out _ _ _ _⟩
      · obtain rfl : off = 0 := by omega
        by_cases g2 : 0 < len
        · have g2' : ¬ len = 0 := by omega
          rw [show reqCheck fl 3 0 len size fixed = 1 by simp [reqCheck, firstBad, HC.out, rPlain, rLong, rFixed, rWithin, chg, within, g2']; try omega]
          clear hc g2'
          go_enter Try.func11, Try.ntmps11
          go_wp2_with fail
          refine (rchk_calls 3 fl _).mono ?_
          rintro e w1 ⟨rfl, rfl⟩
          rw [HC.out]
          go_wp2
          go_ret
          exact ⟨rfl, HT.out _ _ _ _⟩
        · obtain rfl : len = 0 := by omega
          cases fixed
          all_goals
            rw [show reqCheck fl 3 0 0 size _ = 0 by simp [reqCheck, firstBad, HC.out, rPlain, rLong, rFixed, rWithin, chg, within]; try omega]
            clear hc
            go_enter Try.func11, Try.ntmps11
            go_wp2_with fail
            refine (rchk_calls 3 fl _).mono ?_
            rintro e w1 ⟨rfl, rfl⟩
            rw [HC.out]
            go_wp2
            go_ret
            exact ⟨rfl, HT.out _ _ _ _⟩
    · skip
      cases fixed
      · skip
        by_cases g1 : size < off
        · have g1' : ¬ off ≤ size := by omega
          rw [show reqCheck fl 4 off len size _ = 31 by simp [reqCheck, firstBad, HC.out, rPlain, rLong, rFixed, rWithin, chg, within, g1']; try omega]
          clear hc g1'
          go_enter Try.func11, Try.ntmps11
          go_wp2_with fail
          refine (rchk_calls 4 fl _).mono ?_
          rintro e w1 ⟨rfl, rfl⟩
          rw [HC.out]
          go_wp2
          go_ret
          exact ⟨rfl, HT.out _ _ _ _⟩
        · by_cases g2 : size - off < len
          · have g1' : off ≤ size := by omega
            have g2' : ¬ len ≤ size - off := by omega
            rw [show reqCheck fl 4 off len size _ = 31 by simp [reqCheck, firstBad, HC.out, rPlain, rLong, rFixed, rWithin, chg, within, g1', g2']; try omega]
            clear hc g1' g2'
            go_enter Try.func11, Try.ntmps11
            go_wp2_with fail
            refine (rchk_calls 4 fl _).mono ?_
            rintro e w1 ⟨rfl, rfl⟩
            rw [HC.out]
            go_wp2
            go_ret
            exact ⟨rfl, HT.out _ _ _ _⟩
          · have g1' : off ≤ size := by omega
            have g2' : len ≤ size - off := by omega
            rw [show reqCheck fl 4 off len size _ = 0 by simp [reqCheck, firstBad, HC.out, rPlain, rLong, rFixed, rWithin, chg, within, g1', g2']; try omega]
            clear hc g1' g2'
            go_enter Try.func11, Try.ntmps11
            go_wp2_with fail
            refine (rchk_calls 4 fl _).mono ?_
            rintro e w1 ⟨rfl, rfl⟩
            rw [HC.out]
            go_wp2
            go_ret
            exact ⟨rfl, HT.out _ _ _ _⟩
      · skip
        rw [show reqCheck fl 4 off len size true = 30 by simp [reqCheck, firstBad, HC.out, rPlain, rLong, rFixed, rWithin, chg, within]; try omega]
        clear hc
        go_enter Try.func11, Try.ntmps11
        go_wp2_with fail
        refine (rchk_calls 4 fl _).mono ?_
        rintro e w1 ⟨rfl, rfl⟩
        rw [HC.out]
        go_wp2
        go_ret
        exact ⟨rfl, HT.out _ _ _ _⟩
    · skip
      cases fixed
      · skip
        by_cases g1 : size < off
        · have g1' : ¬ off ≤ size := by omega
          rw [show reqCheck fl 6 off len size _ = 31 by simp [reqCheck, firstBad, HC.out, rPlain, rLong, rFixed, rWithin, chg, within, g1']; try omega]
          clear hc g1'
          go_enter Try.func11, Try.ntmps11
          go_wp2_with fail
          refine (rchk_calls 6 fl _).mono ?_
          rintro e w1 ⟨rfl, rfl⟩
          rw [HC.out]
          go_wp2
          go_ret
          exact ⟨rfl, HT.out _ _ _ _⟩
        · by_cases g2 : size - off < len
          · have g1' : off ≤ size := by omega
            have g2' : ¬ len ≤ size - off := by omega
            rw [show reqCheck fl 6 off len size _ = 31 by simp [reqCheck, firstBad, HC.out, rPlain, rLong, rFixed, rWithin, chg, within, g1', g2']; try omega]
            clear hc g1' g2'
            go_enter Try.func11, Try.ntmps11
            go_wp2_with fail
            refine (rchk_calls 6 fl _).mono ?_
            rintro e w1 ⟨rfl, rfl⟩
            rw [HC.out]
            go_wp2
            go_ret
            exact ⟨rfl, HT.out _ _ _ _⟩
          · have g1' : off ≤ size := by omega
            have g2' : len ≤ size - off := by omega
            rw [show reqCheck fl 6 off len size _ = 0 by simp [reqCheck, firstBad, HC.out, rPlain, rLong, rFixed, rWithin, chg, within, g1', g2']; try omega]
            clear hc g1' g2'
            go_enter Try.func11, Try.ntmps11
            go_wp2_with fail
            refine (rchk_calls 6 fl _).mono ?_
            rintro e w1 ⟨rfl, rfl⟩
            rw [HC.out]
            go_wp2
            go_ret
            exact ⟨rfl, HT.out _ _ _ _⟩
      · skip
        rw [show reqCheck fl 6 off len size true = 30 by simp [reqCheck, firstBad, HC.out, rPlain, rLong, rFixed, rWithin, chg, within]; try omega]
        clear hc
        go_enter Try.func11, Try.ntmps11
        go_wp2_with fail
        refine (rchk_calls 6 fl _).mono ?_
        rintro e w1 ⟨rfl, rfl⟩
        rw [HC.out]
        go_wp2
        go_ret
        exact ⟨rfl, HT.out _ _ _ _⟩
  · have HC := hid (chk_one hc)
    rw [show reqCheck fl kd off len size fixed = 1 by unfold reqCheck; simp only [firstBad, HC.out]; simp]
    clear hc
    go_enter Try.func11, Try.ntmps11
    go_wp2_with fail
    refine (rchk_calls kd fl _).mono ?_
    rintro e w1 ⟨rfl, rfl⟩
    rw [HC.out]
    go_wp2
    go_ret
    exact ⟨rfl, HT.out _ _ _ _⟩
end
end Go.Proofs.Ytbfcnbggkcaolaa
