/-
  Contract of admin.Check, of any kind.
-/
import Derived.Test.YtankfmfenbhkgaaAdmChk5
import Derived.Test.YtankfmfenbhkgaaAdmChk6
namespace Go.Proofs.Ytankfmfenbhkgaa
open Go.RowKit
set_option linter.unusedVariables false
set_option linter.unusedSimpArgs false
section
variable {w0 w : World} {O : Nat → Prop} {L : List Asr} {kd ck size : Int} {nm au : ByteArray} {fixed : Bool}

set_option maxHeartbeats 2000000 in
theorem adchk_calls (HS : Sep w0 w O L) :
    Calls Try.prog 21 #[admV kd ck nm au size fixed] w fun e w' => e = .returned (.int .i64 (adChk kd (!nm.toList.isEmpty) (!au.toList.isEmpty) (size != 0) fixed)) ∧ Sep w0 w' O L := by
  have key : kd = 1 ∨ kd = 4 ∨ kd = 2 ∨ kd = 3 ∨ kd = 5 ∨ kd = 6 ∨ ((kd == 1) = false ∧ (kd == 4) = false ∧ (kd == 2) = false ∧ (kd == 3) = false ∧ (kd == 5) = false ∧ (kd == 6) = false) := by
    simp only [beq_eq_false_iff_ne]; omega
  rcases key with rfl | rfl | rfl | rfl | rfl | rfl | ⟨g1, g4, g2, g3, g5, g6⟩
  · exact adchk_1 HS
  · exact adchk_4 HS
  · exact adchk_2 HS
  · exact adchk_3 HS
  · exact adchk_5 HS
  · exact adchk_6 HS
  · have e : adChk kd (!nm.toList.isEmpty) (!au.toList.isEmpty) (size != 0) fixed = 1 := by
      simp only [beq_eq_false_iff_ne] at g1 g2 g3 g4 g5 g6
      unfold adChk
      rw [if_neg (by omega), if_neg (by omega), if_neg (by omega), if_neg (by omega)]
    rw [e]
    clear e
    have HT := hid (fun (a b : Array Value) (s t : TypeId) => (HS.alloc_ (.cells a s)).alloc_ (.cells b t))
    go_enter Try.func21, Try.ntmps21
    go_wp2
    go_ret
    exact ⟨rfl, HT.out _ _ _ _⟩
end
end Go.Proofs.Ytankfmfenbhkgaa
