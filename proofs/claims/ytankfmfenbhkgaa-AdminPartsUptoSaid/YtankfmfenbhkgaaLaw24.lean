/-
  The awake test of layer 24, and its tape.
-/
import Derived.Test.YtankfmfenbhkgaaAdmTake3
import Derived.Test.YtankfmfenbhkgaaAdmAns0
import Derived.Test.YtankfmfenbhkgaaAdmChk7
namespace Go.Proofs.Ytankfmfenbhkgaa
open Go.RowKit
set_option linter.unusedVariables false
set_option linter.unusedSimpArgs false
section
variable {w0 w : World} {O : Nat → Prop} {L : List Asr}

theorem ltape_calls {A : Option Addr} {n c : Nat} {l : List Int} (HS : Sep w0 w O L) (hr : Rb w0 O L 1 A n (by8 l)) (hl : l.length ≤ 140737488355328) :
    Calls Try.prog 11 #[.slice A n c] w fun e w' => ∃ g, e = .returned (.pointer (some ⟨g, 0, none⟩)) ∧ Sep w0 w' O (Go.Proofs.Ytankfmfenbhkgaa.tape g l :: L) := by
  go_enter Try.func11, Try.ntmps11
  go_wp2_with fail
  refine (new_calls HS).mono ?_
  rintro e w1 ⟨g, rfl, HS1⟩
  go_wp2_with fail
  refine (push_calls (m := l) HS1 hr (by have := hr.klen HS; simp only [List.length_nil, List.nil_append]; omega)).mono ?_
  rintro e w2 ⟨rfl, HS2⟩
  go_wp2
  go_ret
  exact ⟨g, rfl, HS2⟩

abbrev aStr : ByteArray := ByteArray.mk #[97]
abbrev wkB : List Int := [67, 73, 83, 84, 3, 0, 0, 0, 0, 0, 0, 0, 0, 7, 0, 0, 0, 0, 0, 0, 0, 0, 1, 0, 97]
abbrev wkB24 : List Int := [67, 73, 83, 84, 3, 0, 0, 0, 0, 0, 0, 0, 0, 7, 0, 0, 0, 0, 0, 0, 0, 0, 1, 0]
abbrev wkC : List Int := [67, 73, 83, 65, 0, 0, 0, 0, 0, 0, 0, 0, 0, 0, 0, 7, 0, 0, 0, 0, 0, 0, 0, 3, 0]
theorem wk1 : admBytes 3 7 aStr noStr 0 false = wkB := by decide
theorem wk2 : nput (ansHead 7 0 3 0) = wkC := by decide
theorem wk3 : takeAdm wkB = ⟨true, 0, 3, 7, aStr, noStr, 0, false, 25⟩ := by kernel_rfl
theorem wk5 : adChk 3 (!aStr.toList.isEmpty) (!noStr.toList.isEmpty) ((0 : Int) != 0) false = 0 := by
  rw [ByteArray.toList_eq, ByteArray.toList_eq]; decide
theorem wk6 : adChk 5 (!aStr.toList.isEmpty) (!noStr.toList.isEmpty) ((0 : Int) != 0) false = 1 := by
  rw [ByteArray.toList_eq, ByteArray.toList_eq]; decide
theorem wk4 : takeAdm wkB24 = noATk 0 := by kernel_rfl

set_option maxHeartbeats 4000000 in
set_option maxRecDepth 100000 in
theorem wakes_calls (HS : Sep w0 w O L) : Calls Try.prog 15 #[] w fun e w' => e = .returned (.bool true) ∧ Sep w0 w' O L := by
  go_enter Try.func15, Try.ntmps15
  go_wp2_with fail
  refine (adminput_ok (kd := 3) (ck := 7) (nm := aStr) (au := noStr) (size := 0) (fixed := false) HS (by decide) (by decide) (by decide) (by decide) (by decide)).mono ?_
  rintro e w1 ⟨A1, c1, rfl, HS1⟩
  rw [wk1] at HS1
  replace HS1 : Sep w0 w1 O (own 5 1 A1 25 c1 (by8 wkB) :: L) := HS1
  have hle := own_le HS1
  obtain ⟨g1, rfl⟩ := HS1.own_some (by decide)
  have b4 : w1.cell? ⟨g1, 4, none⟩ = some (.int .u8 3) := HS1.kcell (j := 4) (by decide) rfl
  have b13 : w1.cell? ⟨g1, 13, none⟩ = some (.int .u8 7) := HS1.kcell (j := 13) (by decide) rfl
  have b24 : w1.cell? ⟨g1, 24, none⟩ = some (.int .u8 97) := HS1.kcell (j := 24) (by decide) rfl
  have hsz : 24 + aStr.size + noStr.size = 25 := by decide
  rw [hsz]
  go_wp2_with fail
  refine (ltape_calls HS1 Rb.i0 (by decide)).mono ?_
  rintro e w2 ⟨g2, rfl, HS2⟩
  go_wp2_with fail
  refine (admtake_calls HS2 (by decide) (by decide)).mono ?_
  rintro e w3 ⟨rfl, HS3⟩
  rw [wk3] at HS3 ⊢
  clear b4 b13 b24
  have HS4 := HS3.alloc #[.int .i64 3, .int .u64 7, .string aStr, .string noStr, .int .u64 0, .bool false] 24
  have i1 : (24 : Int) ≤ c1 := by omega
  go_wp2_with fail
  have hrt := (Rb.i2 (a := blk w3.heap.size 24 #[.int .i64 3, .int .u64 7, .string aStr, .string noStr, .int .u64 0, .bool false]) (b := Go.Proofs.Ytankfmfenbhkgaa.tape g2 (wkB.drop 25)) (w0 := w0) (O := O) (e := 5) (A := some ⟨g1, 0, none⟩) (n := 25) (k := c1) (xs := by8 wkB) (L := L) (size := 1)).ktake (m := 24) (by decide)
  refine (ltape_calls (l := wkB24) HS4 hrt (by decide)).mono ?_
  rintro e w5 ⟨g5, rfl, HS5⟩
  go_wp2_with fail
  refine (admtake_calls HS5 (by decide) (by decide)).mono ?_
  rintro e w6 ⟨rfl, HS6⟩
  rw [wk4] at HS6 ⊢
  have HS7 := HS6.alloc zAdm 24
  go_wp2_with fail
  refine (putans0_calls (ck := 7) (er := 0) (id := 3) HS7 (by decide) (by decide) (by decide) (by decide) (by decide) (by decide)).mono ?_
  rintro e w8 ⟨A8, c8, rfl, HS8⟩
  rw [wk2] at HS8
  go_wp2_with fail
  refine (ltape_calls (l := wkC) HS8 Rb.i0 (by decide)).mono ?_
  rintro e w9 ⟨g9, rfl, HS9⟩
  go_wp2_with fail
  refine (takeans0_calls HS9 (by decide) (by decide) (by decide) (by decide) (by decide)).mono ?_
  rintro e w10 ⟨rfl, HS10⟩
  rw [show fN wkC 8 8 = 7 from by decide, show fN wkC 4 4 = 0 from by decide, show fN wkC 16 8 = 3 from by decide]
  have HS11 := HS10.alloc #[.int .u64 7, .int .u32 0, .int .u64 3, .slice none 0 0] 45
  have HX := HS11.sel 8 [5, 0]
  replace HX : Sep w0 (w10.alloc (.cells #[.int .u64 7, .int .u32 0, .int .u64 3, .slice none 0 0] 45)) O (blk w3.heap.size 24 #[.int .i64 3, .int .u64 7, .string aStr, .string noStr, .int .u64 0, .bool false] :: blk w10.heap.size 45 #[.int .u64 7, .int .u32 0, .int .u64 3, .slice none 0 0] :: L) := HX
  clear HS HS1 HS2 HS3 HS4 HS5 HS6 HS7 HS8 HS9 HS10 HS11 hrt
  have r0 := HX.blk_at 0 rfl
  have r1 := HX.blk_at 1 rfl
  have r2 := HX.blk_at 2 rfl
  have r3 := HX.blk_at 3 rfl
  have r4 := HX.blk_at 4 rfl
  have r5 := HX.blk_at 5 rfl
  have a2 := HX.up1.blk_at 2 rfl
  go_wp2_with fail
  refine (adchk_calls HX).mono ?_
  rintro e w12 ⟨rfl, HS12⟩
  rw [wk5]
  go_wp2_with fail
  refine (adchk_calls HS12).mono ?_
  rintro e w13 ⟨rfl, HS13⟩
  rw [wk6]
  go_wp2
  go_ret
  exact ⟨rfl, HS13.drop.drop⟩
end
end Go.Proofs.Ytankfmfenbhkgaa
