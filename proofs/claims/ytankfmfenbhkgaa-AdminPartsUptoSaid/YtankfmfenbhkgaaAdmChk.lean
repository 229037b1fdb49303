/-
  Contracts of admin.Check and cisternref24.Check.
-/
import Derived.Test.YtankfmfenbhkgaaAdmPut2
import Derived.Deep.DeepCutAuto
import Derived.Deep.QuietTactic
import Derived.BigQuiet
namespace Go.Proofs.Ytankfmfenbhkgaa
open Go.RowKit
set_option linter.unusedVariables false
set_option linter.unusedSimpArgs false

def adChk (kd : Int) (n a z f : Bool) : Int :=
  if kd = 1 ∨ kd = 4 then (if a || f then 1 else 0) else if kd = 2 then (if z then 1 else 0) else if kd = 3 then (if a || z || f then 1 else 0)
  else if kd = 5 ∨ kd = 6 then (if n || a || z || f then 1 else 0) else 1

section
variable {w0 w : World} {O : Nat → Prop} {L : List Asr} {kd ck size : Int} {nm au : ByteArray} {fixed : Bool}

set_option maxHeartbeats 4000000 in
theorem radchk_calls (HS : Sep w0 w O L) :
    Calls Try.prog 22 #[admV kd ck nm au size fixed] w fun e w' => e = .returned (.int .i64 (adChk kd (!nm.toList.isEmpty) (!au.toList.isEmpty) (size != 0) fixed)) ∧ Sep w0 w' O L := by
  have HSb := HS.alloc #[.int .i64 kd, .int .u64 ck, .string nm, .string au, .int .u64 size, .bool fixed] 24
  have a0 := HSb.blk_at 0 rfl
  obtain ⟨r, hr⟩ : ∃ r, r = adChk kd (!nm.toList.isEmpty) (!au.toList.isEmpty) (size != 0) fixed := ⟨_, rfl⟩
  rw [← hr]
  have HR := hid hr
  clear hr
  go_enter Try.func22, Try.ntmps22
  go_upto_region 1 with (fail)
  go_quiet (fail)
  go_upto_region 2 with (fail)
  generalize (!nm.toList.isEmpty) = bn at HR ⊢
  generalize (!au.toList.isEmpty) = ba at HR ⊢
  generalize (size != 0) = bz at HR ⊢
  have key : kd = 1 ∨ kd = 4 ∨ kd = 2 ∨ kd = 3 ∨ kd = 5 ∨ kd = 6 ∨ ((kd == 1) = false ∧ (kd == 4) = false ∧ (kd == 2) = false ∧ (kd == 3) = false ∧ (kd == 5) = false ∧ (kd == 6) = false) := by
    simp only [beq_eq_false_iff_ne]; omega
  rcases key with rfl | rfl | rfl | rfl | rfl | rfl | ⟨g1, g4, g2, g3, g5, g6⟩
  · cases ba <;> cases fixed
    all_goals
      go_wp2
      go_ret
      exact ⟨by rw [HR.out]; rfl, HSb.drop.drewN nq⟩
  · cases ba <;> cases fixed
    all_goals
      go_wp2
      go_ret
      exact ⟨by rw [HR.out]; rfl, HSb.drop.drewN nq⟩
  · cases bz
    all_goals
      go_wp2
      go_ret
      exact ⟨by rw [HR.out]; rfl, HSb.drop.drewN nq⟩
  · cases ba <;> cases bz <;> cases fixed
    all_goals
      go_wp2
      go_ret
      exact ⟨by rw [HR.out]; rfl, HSb.drop.drewN nq⟩
  · cases bn <;> cases ba <;> cases bz <;> cases fixed
    all_goals
      go_wp2
      go_ret
      exact ⟨by rw [HR.out]; rfl, HSb.drop.drewN nq⟩
  · cases bn <;> cases ba <;> cases bz <;> cases fixed
    all_goals
      go_wp2
      go_ret
      exact ⟨by rw [HR.out]; rfl, HSb.drop.drewN nq⟩
  · have e : adChk kd bn ba bz fixed = 1 := by
      simp only [beq_eq_false_iff_ne] at g1 g2 g3 g4 g5 g6
      unfold adChk
      rw [if_neg (by omega), if_neg (by omega), if_neg (by omega), if_neg (by omega)]
    have E := hid e
    clear e
    go_wp2
    go_ret
    exact ⟨by rw [HR.out, E.out]; rfl, HSb.drop.drewN nq⟩
end
end Go.Proofs.Ytankfmfenbhkgaa
