/-
  Contract of admin.Check (by kinds).
-/
import Derived.Test.YtankfmfenbhkgaaAdmChk2
namespace Go.Proofs.Ytankfmfenbhkgaa
open Go.RowKit
set_option linter.unusedVariables false
set_option linter.unusedSimpArgs false
section
variable {w0 w : World} {O : Nat → Prop} {L : List Asr} {ck size : Int} {nm au : ByteArray} {fixed : Bool}

set_option maxHeartbeats 8000000 in
theorem adchk_5 (HS : Sep w0 w O L) :
    Calls Try.prog 21 #[admV 5 ck nm au size fixed] w fun e w' => e = .returned (.int .i64 (adChk 5 (!nm.toList.isEmpty) (!au.toList.isEmpty) (size != 0) fixed)) ∧ Sep w0 w' O L := by
  have HT := hid (fun (a b : Array Value) (s t : TypeId) => (HS.alloc_ (.cells a s)).alloc_ (.cells b t))
  obtain ⟨r, hr⟩ : ∃ r, r = adChk 5 (!nm.toList.isEmpty) (!au.toList.isEmpty) (size != 0) fixed := ⟨_, rfl⟩
  rw [← hr]
  clear HS
  have hz : size = 0 ∨ ((size == 0) = false ∧ (size != 0) = true) := by
    by_cases h : size = 0
    · exact .inl h
    · exact .inr ⟨beq_eq_false_iff_ne.2 h, bne_iff_ne.2 h⟩
  · cases en : nm.toList.isEmpty <;> cases ea : au.toList.isEmpty <;> rcases hz with rfl | ⟨ez, ez2⟩ <;> cases fixed
    all_goals
      rw [en, ea] at hr
      try rw [ez2] at hr
      have HR := hid hr
      clear hr
      go_enter Try.func21, Try.ntmps21
      go_wp2
      all_goals
        go_ret
        exact ⟨by rw [HR.out]; first | rfl | simp [adChk], HT.out _ _ _ _⟩
end
end Go.Proofs.Ytankfmfenbhkgaa
