/-
  The awake test of layer 22, and its tape.
-/
import Derived.Test.YtgepekailoopeaaHelH
import Derived.Test.YtgepekailoopeaaHel5
namespace Go.Proofs.Ytgepekailoopeaa
open Go.RowKit
set_option linter.unusedVariables false
set_option linter.unusedSimpArgs false
section
variable {w0 w : World} {O : Nat → Prop} {L : List Asr}

theorem ltape_calls {A : Option Addr} {n c : Nat} {l : List Int} (HS : Sep w0 w O L) (hr : Rb w0 O L 1 A n (by8 l)) (hl : l.length ≤ 140737488355328) :
    Calls Try.prog 18 #[.slice A n c] w fun e w' => ∃ g, e = .returned (.pointer (some ⟨g, 0, none⟩)) ∧ Sep w0 w' O (Go.Proofs.Ytgepekailoopeaa.tape g l :: L) := by
  go_enter Try.func18, Try.ntmps18
  go_wp2_with fail
  refine (new_calls HS).mono ?_
  rintro e w1 ⟨g, rfl, HS1⟩
  go_wp2_with fail
  refine (push_calls (m := l) HS1 hr (by have := hr.klen HS; simp only [List.length_nil, List.nil_append]; omega)).mono ?_
  rintro e w2 ⟨rfl, HS2⟩
  go_wp2
  go_ret
  exact ⟨g, rfl, HS2⟩

abbrev aStr : ByteArray := ByteArray.mk #[97]
abbrev wkV : Vol := ⟨0, aStr, 512, 0, false, 0⟩
abbrev wkB : List Int := [73, 72, 65, 86, 69, 79, 80, 84, 0, 0, 0, 3, 0, 0, 0, 0]
abbrev wkR : List Int := [0, 0, 0, 1, 97, 0, 1, 0, 3]
theorem wk1 : rawB mOp [3] [] = wkB := by decide
theorem wk1e : rawE [] = 0 := by decide
theorem wk2 : readW 7 wkR = ⟨0, 7, aStr, [3]⟩ := by kernel_rfl
theorem wk3 : hlN wkB mOp 16 = 16 := by decide
theorem wk3e : hlE wkB mOp 16 = 0 := by decide
theorem wk3x : hlX wkB mOp 16 8 = 3 := by decide
theorem wk3d : hlD wkB mOp 16 = [] := by decide
theorem wk4 : ansR 7 aStr [3] [wkV] = [(7, 3, be 2 0 ++ be 8 512 ++ be 2 109), (7, 3, be 2 3 ++ be 4 1 ++ be 4 256 ++ be 4 4096), (7, 1, [])] := by kernel_rfl
theorem wkVok : wkV.Ok := by refine ⟨?_, ?_, ?_, ?_, ?_⟩ <;> decide

set_option maxHeartbeats 4000000 in
set_option maxRecDepth 100000 in
theorem wakes_calls (HS : Sep w0 w O L) : Calls Try.prog 26 #[] w fun e w' => e = .returned (.bool true) ∧ Sep w0 w' O L := by
  go_enter Try.func26, Try.ntmps26
  go_wp2_with fail
  refine (hPut_calls (op := 3) (d := []) HS Rb.nil (by decide) (by decide)).mono ?_
  rintro e w1 ⟨A1, c1, rfl, HS1⟩
  rw [wk1] at HS1 ⊢
  rw [wk1e]
  replace HS1 : Sep w0 w1 O (own 5 1 A1 16 c1 (by8 wkB) :: L) := HS1
  obtain ⟨g1, rfl⟩ := HS1.own_some (by decide)
  have hle := own_le HS1
  have HSb : Sep w0 (w1.alloc (.cells #[.int .u8 0, .int .u8 0, .int .u8 0, .int .u8 1, .int .u8 97, .int .u8 0, .int .u8 1, .int .u8 0, .int .u8 3] 5)) O (own 5 1 (some ⟨w1.heap.size, 0, none⟩) 9 9 (by8 wkR) :: own 5 1 (some ⟨g1, 0, none⟩) 16 c1 (by8 wkB) :: L) := HS1.lit #[.int .u8 0, .int .u8 0, .int .u8 0, .int .u8 1, .int .u8 97, .int .u8 0, .int .u8 1, .int .u8 0, .int .u8 3] 5 1 9 rfl (by decide)
  go_wp2_with fail
  refine (read_calls (op := 7) (d := wkR) HSb Rb.i0 (by decide) (by decide)).mono ?_
  rintro e w2 ⟨A2, c2, he, HS2⟩
  rw [wk2] at he HS2
  subst he
  replace HS2 : Sep w0 w2 O (own 71 1 A2 1 c2 (kv .u16 [3]) :: own 5 1 (some ⟨w1.heap.size, 0, none⟩) 9 9 (by8 wkR) :: own 5 1 (some ⟨g1, 0, none⟩) 16 c1 (by8 wkB) :: L) := HS2
  have HS3 := HS2.alloc #[.int .u32 7, .string aStr, .slice A2 1 c2] 66
  have HS4 : Sep w0 _ O (own 60 6 (some ⟨w2.heap.size + 1, 0, none⟩) 1 1 (vrow [wkV]) :: _) := HS3.litB #[.int .u64 0, .string aStr, .int .u64 512, .int .u64 0, .bool false, .int .u64 0] 60 6 1 rfl (by decide) (B := w2.heap.size + 1) (by simp)
  go_wp2_with fail
  refine (answers_calls (op := 7) (wn := aStr) (inf := [3]) (vs := [wkV]) HS4 Rb.i0 rfl (by decide) (by intro v hv; obtain rfl := List.mem_singleton.1 hv; exact wkVok) Rb.i2 (by decide)).mono ?_
  rintro e w5 ⟨rs, A5, c5, hout, he, HS5⟩
  rw [wk4] at hout
  obtain ⟨r0, r1, r2, rfl⟩ : ∃ r0 r1 r2, rs = [r0, r1, r2] := by
    rcases rs with _ | ⟨r0, _ | ⟨r1, _ | ⟨r2, _ | ⟨r3, rs⟩⟩⟩⟩ <;> simp at hout ⊢
  obtain ⟨o1, k1, D1, e1, d1⟩ := r0
  obtain ⟨o2, k2, D2, e2, d2⟩ := r1
  obtain ⟨o3, k3, D3, e3, d3⟩ := r2
  simp only [List.map_cons, List.map_nil, Rp.out, List.cons.injEq, Prod.mk.injEq] at hout
  obtain ⟨⟨rfl, rfl, rfl⟩, ⟨rfl, rfl, rfl⟩, ⟨rfl, rfl, rfl⟩, -⟩ := hout
  subst he
  replace HS5 : Sep w0 w5 O (own 35 3 A5 3 c5 [.int .u32 7, .int .u32 3, .slice D1 12 e1, .int .u32 7, .int .u32 3, .slice D2 14 e2, .int .u32 7, .int .u32 1, .slice D3 0 e3] :: dataA 5 _ :: own 60 6 (some ⟨w2.heap.size + 1, 0, none⟩) 1 1 (vrow [wkV]) :: blk w2.heap.size 66 #[.int .u32 7, .string aStr, .slice A2 1 c2] :: own 71 1 A2 1 c2 (kv .u16 [3]) :: own 5 1 (some ⟨w1.heap.size, 0, none⟩) 9 9 (by8 wkR) :: own 5 1 (some ⟨g1, 0, none⟩) 16 c1 (by8 wkB) :: L) := HS5
  obtain ⟨g5, rfl⟩ := HS5.own_some (by decide)
  have HX := HS5.sel 7 [0, 3, 6]
  clear HS5 HS4 HS3 HS2 HSb HS1
  go_wp2_with fail
  refine (ltape_calls (l := wkB) HX Rb.i2 (by decide)).mono ?_
  rintro e w6 ⟨g6, rfl, HS6⟩
  go_wp2_with fail
  refine (hTake_calls HS6 (by decide) (by decide)).mono ?_
  rintro e w7 ⟨A7, c7, he, HS7⟩
  rw [wk3e, wk3x, wk3d, wk3] at he
  rw [wk3d, wk3] at HS7
  subst he
  have HS8 := (HS7.sel 5 [2, 3, 4]).alloc #[.int .u32 3, .slice A7 0 c7] 31
  have b0 : (w7.alloc (.cells #[.int .u32 3, .slice A7 0 c7] 31)).cell? ⟨g1, 0, none⟩ = some (.int .u8 73) := HS8.up3.kcell (j := 0) (by decide) rfl
  have q7 : (w7.alloc (.cells #[.int .u32 3, .slice A7 0 c7] 31)).cell? ⟨g5, 7, none⟩ = some (.int .u32 1) := (HS8.up1.own_row.cellAt 7 (by decide)).trans rfl
  have q2 : (w7.alloc (.cells #[.int .u32 3, .slice A7 0 c7] 31)).cell? ⟨g5, 2, none⟩ = some (.slice D1 12 e1) := (HS8.up1.own_row.cellAt 2 (by decide)).trans rfl
  have x1 : (w7.alloc (.cells #[.int .u32 3, .slice A7 0 c7] 31)).cell? ⟨w2.heap.size, 1, none⟩ = some (.string aStr) := HS8.up2.blk_at 1 rfl
  have x2 : (w7.alloc (.cells #[.int .u32 3, .slice A7 0 c7] 31)).cell? ⟨w2.heap.size, 2, none⟩ = some (.slice A2 1 c2) := HS8.up2.blk_at 2 rfl
  have z0 : (w7.alloc (.cells #[.int .u32 3, .slice A7 0 c7] 31)).cell? ⟨w7.heap.size, 0, none⟩ = some (.int .u32 3) := HS8.blk_at 0 rfl
  go_wp2_with fail
  refine (greet_calls (fl := 3) HS8 (by decide) (by decide)).mono ?_
  rintro e w9 ⟨A9, c9, rfl, HS9⟩
  go_wp2
  go_ret
  exact ⟨rfl, HS9.sel 5 []⟩
end
end Go.Proofs.Ytgepekailoopeaa
