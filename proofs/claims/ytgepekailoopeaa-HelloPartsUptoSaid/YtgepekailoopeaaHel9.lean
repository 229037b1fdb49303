/-
  Contract of hello.reads.
-/
import Derived.Test.YtgepekailoopeaaHel8
import Derived.Test.YtgepekailoopeaaMaps
namespace Go.Proofs.Ytgepekailoopeaa
open Go.RowKit
set_option linter.unusedVariables false
set_option linter.unusedSimpArgs false
abbrev fnV (n : Nat) : Value := .func (.func n) #[] #[]
abbrev readsM : Array MapEntry := #[⟨.int .u32 1, fnV 87, 0⟩, ⟨.int .u32 2, fnV 88, 1⟩, ⟨.int .u32 3, fnV 88, 2⟩, ⟨.int .u32 6, fnV 89, 3⟩, ⟨.int .u32 7, fnV 89, 4⟩]
section
variable {w0 w : World} {O : Nat → Prop} {L : List Asr}
set_option maxHeartbeats 2000000 in
set_option maxRecDepth 100000 in
theorem reads_calls (HS : Sep w0 w O L) :
    Calls Try.prog 77 #[] w fun e w' => ∃ r, e = .returned (.map (some r)) ∧ Sep w0 w' O (objA r (.map readsM 5) :: L) := by
  obtain ⟨r, w1, m0, H1⟩ := HS.newMap (P := Try.prog) 149
  obtain ⟨w2, m1, H2⟩ := H1.mapPut (P := Try.prog) 149 _ _ .u32 1 (fnV 87) Try.underlying149 Try.underlying22 (by rfl)
  obtain ⟨w3, m2, H3⟩ := H2.mapPut (P := Try.prog) 149 _ _ .u32 2 (fnV 88) Try.underlying149 Try.underlying22 (by rfl)
  obtain ⟨w4, m3, H4⟩ := H3.mapPut (P := Try.prog) 149 _ _ .u32 3 (fnV 88) Try.underlying149 Try.underlying22 (by rfl)
  obtain ⟨w5, m4, H5⟩ := H4.mapPut (P := Try.prog) 149 _ _ .u32 6 (fnV 89) Try.underlying149 Try.underlying22 (by rfl)
  obtain ⟨w6, m5, H6⟩ := H5.mapPut (P := Try.prog) 149 _ _ .u32 7 (fnV 89) Try.underlying149 Try.underlying22 (by rfl)
  clear HS H1 H2 H3 H4 H5
  go_enter Try.func77, Try.ntmps77
  go_wp2_with fail
  go_ret
  exact ⟨r, rfl, H6⟩
end
end Go.Proofs.Ytgepekailoopeaa
