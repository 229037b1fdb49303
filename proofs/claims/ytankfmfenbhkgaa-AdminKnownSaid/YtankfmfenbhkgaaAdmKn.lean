/-
  The closed facts of AdminKnown.
-/
import Derived.Test.YtankfmfenbhkgaaLaw24
import Derived.Test.YtankfmfenbhkgaaAdmLaw2
import Derived.Test.YtankfmfenbhkgaaAdmNil
namespace Go.Proofs.Ytankfmfenbhkgaa
open Go.RowKit
set_option linter.unusedVariables false
set_option linter.unusedSimpArgs false
abbrev s16 : ByteArray := ByteArray.mk #[97, 98, 99, 100, 101, 102, 103, 104, 105, 106, 107, 108, 109, 110, 111, 112]
abbrev s17 : ByteArray := ByteArray.mk #[97, 98, 99, 100, 101, 102, 103, 104, 105, 106, 107, 108, 109, 110, 111, 112, 113]
abbrev kB : List Int := [67, 73, 83, 84, 255, 1, 0, 0, 0, 0, 0, 0, 0, 0, 255, 255, 255, 255, 255, 255, 255, 255, 16, 16, 97, 98, 99, 100, 101, 102, 103, 104, 105, 106, 107, 108, 109, 110, 111, 112, 97, 98, 99, 100, 101, 102, 103, 104, 105, 106, 107, 108, 109, 110, 111, 112]
abbrev kB2 : List Int := kB.set 5 2
abbrev kB3 : List Int := (kB2.set 5 1).set 23 17
abbrev kB4 : List Int := kB3.set 0 0
theorem kn1 : admBytes 255 0 s16 s16 18446744073709551615 true = kB := by decide
theorem kn2 : takeAdm kB2 = ⟨false, 5, 0, 0, noStr, noStr, 0, false, 0⟩ := by kernel_rfl
theorem kn3 : takeAdm kB3 = ⟨false, 3, 0, 0, noStr, noStr, 0, false, 0⟩ := by kernel_rfl
theorem kn4 : takeAdm (kB4.take 4) = ⟨false, 33, 0, 0, noStr, noStr, 0, false, 0⟩ := by kernel_rfl
def kP : List Int := ansBytes 0 0 0 (List.replicate 16 zV)
theorem kp_byt : Byt kP := of_decide_eq_true (by kernel_rfl)
theorem kp_len : kP.length = 441 := by kernel_rfl
def kP1 : List Int := kP.set 24 17
def kP2 : List Int := (kP1.set 24 1).set 49 2
theorem kp1_byt : Byt (kP1.take 25) := of_decide_eq_true (by kernel_rfl)
theorem kp2_byt : Byt kP2 := of_decide_eq_true (by kernel_rfl)
theorem kp3_byt : Byt (kP2.take 50) := of_decide_eq_true (by kernel_rfl)
theorem kp1_len : (kP1.take 25).length = 25 := by kernel_rfl
theorem kp2_len : kP2.length = 441 := by kernel_rfl
theorem kp3_len : (kP2.take 50).length = 50 := by kernel_rfl
theorem kp1_m : num ((kP1.take 25).take 4) = 1128878913 := by kernel_rfl
theorem kp2_m : num (kP2.take 4) = 1128878913 := by kernel_rfl
theorem kp3_m : num ((kP2.take 50).take 4) = 1128878913 := by kernel_rfl
theorem kp1_n : fN (kP1.take 25) 24 1 = (17 : Nat) := by kernel_rfl
theorem kp2_n : fN kP2 24 1 = (1 : Nat) := by kernel_rfl
theorem kp3_n : fN (kP2.take 50) 24 1 = (1 : Nat) := by kernel_rfl
theorem kp2_v : volsFrom kP2 25 1 = .error 5 := by kernel_rfl
theorem kp3_v : volsFrom (kP2.take 50) 25 1 = .error 0 := by kernel_rfl
theorem zV_ok : ∀ v ∈ List.replicate 16 zV, v.Ok := fun v hv => by
  rw [List.eq_of_mem_replicate hv]; exact ⟨by decide, by decide, by decide, by decide, by decide⟩
theorem zV_nm : ∀ v ∈ List.replicate 16 zV, v.nm.size ≤ 16 := fun v hv => by
  rw [List.eq_of_mem_replicate hv]; decide
theorem kc1 : adChk 1 (!aStr.toList.isEmpty) (!noStr.toList.isEmpty) ((0 : Int) != 0) false = 0 := by
  rw [ByteArray.toList_eq, ByteArray.toList_eq]; decide
theorem kc2 : adChk 7 (!noStr.toList.isEmpty) (!noStr.toList.isEmpty) ((0 : Int) != 0) false = 1 := by
  rw [ByteArray.toList_eq]; decide
theorem kc3 : adChk 3 (!noStr.toList.isEmpty) (!noStr.toList.isEmpty) ((1 : Int) != 0) false = 1 := by
  rw [ByteArray.toList_eq]; decide

end Go.Proofs.Ytankfmfenbhkgaa
