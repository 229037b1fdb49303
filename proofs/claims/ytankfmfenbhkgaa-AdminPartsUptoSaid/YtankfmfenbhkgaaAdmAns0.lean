/-
  Contracts of admin.PutAnswer and admin.TakeAnswer at an empty list.
-/
import Derived.Test.YtankfmfenbhkgaaAdmTake
namespace Go.Proofs.Ytankfmfenbhkgaa
open Go.RowKit
set_option linter.unusedVariables false
set_option linter.unusedSimpArgs false
theorem info_ans : (Try.prog.info? 45).map (·.size) = some 4 := by kernel_rfl
abbrev zAns : Array Value := #[.int .u64 0, .int .u32 0, .int .u64 0, .slice none 0 0]
section
variable {w0 w : World} {O : Nat → Prop} {L : List Asr}

def ansHead (ck er id : Int) (n : Nat) : List (Int × Nat) := [(1128878913, 4), (er, 4), (ck, 8), (id, 8), ((n : Int), 1)]

set_option maxHeartbeats 2000000 in
theorem putans0_calls {ck er id : Int} (HS : Sep w0 w O L) (c0 : 0 ≤ ck) (c1 : ck < 18446744073709551616) (e0 : 0 ≤ er) (e1 : er < 4294967296) (d0 : 0 ≤ id) (d1 : id < 18446744073709551616) :
    Calls Try.prog 16 #[.agg #[.int .u64 ck, .int .u32 er, .int .u64 id, .slice none 0 0]] w fun e w' => ∃ A' c', e = .returned (.tuple #[.slice A' 25 c', .int .i64 0]) ∧ Sep w0 w' O (own 5 1 A' 25 c' (by8 (nput (ansHead ck er id 0))) :: L) := by
  have s1 : IntKind.u64.wrap er = er := by rw [IntKind.wrap_u64]; omega
  have s0 : IntKind.u64.wrap (0 : Int) = 0 := by decide
  have HSb := HS.alloc #[.int .u64 ck, .int .u32 er, .int .u64 id, .slice none 0 0] 45
  have HA : Sep w0 ((w.alloc (.cells #[.int .u64 ck, .int .u32 er, .int .u64 id, .slice none 0 0] 45)).alloc (.cells #[.int .u64 1128878913, .int .i64 4, .int .u64 er, .int .i64 4, .int .u64 ck, .int .i64 8, .int .u64 id, .int .i64 8, .int .u64 0, .int .i64 1] 65)) O (own 5 1 none 0 0 (by8 []) :: own 65 2 (some ⟨w.heap.size + 1, 0, none⟩) 5 5 (nrow (ansHead ck er id 0)) :: blk w.heap.size 45 #[.int .u64 ck, .int .u32 er, .int .u64 id, .slice none 0 0] :: L) := (HSb.litB #[.int .u64 1128878913, .int .i64 4, .int .u64 er, .int .i64 4, .int .u64 ck, .int .i64 8, .int .u64 id, .int .i64 8, .int .u64 0, .int .i64 1] 65 2 5 rfl (by decide) (by simp)).nil _ _
  have hr : ∀ p ∈ ansHead ck er id 0, 0 ≤ p.1 ∧ p.1 < 18446744073709551616 ∧ 1 ≤ p.2 ∧ p.2 ≤ 8 := by
    intro p hp
    simp only [ansHead, List.mem_cons, List.not_mem_nil, or_false] at hp
    rcases hp with rfl | rfl | rfl | rfl | rfl <;> dsimp only <;> omega
  have HR := hid hr
  have hRl : (nput (ansHead ck er id 0)).length = 25 := by simp [nput, ansHead, be_len]
  have HRL := hid hRl
  clear hr hRl
  go_enter Try.func16, Try.ntmps16
  go_wp2_with fail
  refine (adput_calls (r := ansHead ck er id 0) HA HR.out (by decide) (by simp [ansHead])).mono ?_
  rintro e w2 ⟨B2, c2, rfl, HS2⟩
  rw [Nat.zero_add, HRL.out, List.nil_append] at HS2
  rw [HRL.out]
  have k3 := HS2.up1.blk_at 3 rfl
  go_wp2_with fail
  go_loop [4, 32] (fun b i => b = .slice B2 25 c2 ∧ i = .int .i64 0) (fun _ _ => 0)
  case atStart => exact ⟨rfl, rfl⟩
  case round =>
    obtain ⟨rfl, rfl⟩ := hrel
    go_wp2
    go_ret2
    exact ⟨B2, c2, rfl, HS2.up1.drop⟩

theorem times0_calls (v : Value) (w : World) : Calls Try.prog 36 #[.int .u64 0, v] w fun e w' => e = .returned (.slice none 0 0) ∧ w = w' := by
  go_enter Try.func36, Try.ntmps36
  go_wp2_with fail
  go_loop [5, 7] (fun l i => l = .slice none 0 0 ∧ i = .int .u64 0) (fun _ _ => 0)
  case atStart => exact ⟨rfl, rfl⟩
  case round =>
    obtain ⟨rfl, rfl⟩ := hrel
    go_wp2
    go_ret
    exact ⟨rfl, rfl⟩

set_option maxHeartbeats 4000000 in
set_option maxRecDepth 100000 in
theorem takeans0_calls {gt : Nat} {l : List Int} (HS : Sep w0 w O (Go.Proofs.Ytankfmfenbhkgaa.tape gt l :: L)) (hb : Byt l) (hl : l.length ≤ 140737488355328) (h25 : 25 ≤ l.length) (hm : num (l.take 4) = 1128878913) (h0 : fN l 24 1 = 0) :
    Calls Try.prog 18 #[.pointer (some ⟨gt, 0, none⟩)] w fun e w' => e = .returned (.tuple #[.agg #[.int .u64 (fN l 8 8), .int .u32 (fN l 4 4), .int .u64 (fN l 16 8), .slice none 0 0], .bool true, .int .i64 0]) ∧ Sep w0 w' O (Go.Proofs.Ytankfmfenbhkgaa.tape gt (l.drop 25) :: L) := by
  have HSb := (HS.alloc zAns 45).up1
  have hcut : cut (l.drop 4) [4, 8, 8, 1] = [fN l 4 4, fN l 8 8, fN l 16 8, 0] := by rw [← h0]; simp [cut, fN, List.drop_drop]
  have b4 := fN_bd hb 4 4
  simp only [show (256 : Int) ^ 4 = 4294967296 from rfl] at b4
  generalize fN l 4 4 = x0 at *
  generalize fN l 8 8 = x1 at *
  generalize fN l 16 8 = x2 at *
  have y0 : IntKind.u32.wrap x0 = x0 := by rw [IntKind.wrap_u32]; omega
  have HC := hid hcut
  have HM := hid hm
  clear hcut hm h0 b4
  go_enter Try.func18, Try.ntmps18
  go_wp2_with fail
  refine (ropen_calls HSb hb hl (.inr (.inr ⟨by omega, HM.out, rfl, rfl, rfl⟩))).mono ?_
  rintro e w1 ⟨g, A, c, rfl, HS1⟩
  have hor := HS1.up1.own_or
  have hle := own_le HS1.up1
  have HS2 := (HS1.lit #[.int .i64 4, .int .i64 8, .int .i64 8, .int .i64 1] 3 1 4 rfl (by decide)).up1
  go_wp2_with fail
  refine (rnumbers_ok (ss := [4, 8, 8, 1]) HS2 Rb.i0 hb hor hle (by decide) (by decide) hl (by simp [tot]; omega)).mono ?_
  rintro e w2 ⟨A2, rfl, HS3⟩
  rw [HC.out] at HS3
  obtain ⟨gz, rfl⟩ := HS3.own_some (by decide)
  clear hor hle
  replace HS3 : Sep w0 w2 O (own 22 1 (some ⟨gz, 0, none⟩) 4 4 (kv .u64 [x0, x1, x2, 0]) :: rdB g A l.length c (25 : Nat) false 0 :: own 5 1 A l.length c (by8 l) :: Go.Proofs.Ytankfmfenbhkgaa.tape gt l :: blk w.heap.size 45 zAns :: L) := HS3
  have n3 : w2.cell? ⟨gz, 3, none⟩ = some (.int .u64 0) := HS3.kcell (j := 3) (by simp) rfl
  go_wp2_with fail
  refine (rfail_calls HS3.up1).mono ?_
  rintro e w3 ⟨rfl, HS4⟩
  replace HS4 : Sep w0 w3 O (rdB g A l.length c (25 : Nat) false 0 :: own 22 1 (some ⟨gz, 0, none⟩) 4 4 (kv .u64 [x0, x1, x2, 0]) :: own 5 1 A l.length c (by8 l) :: Go.Proofs.Ytankfmfenbhkgaa.tape gt l :: blk w.heap.size 45 zAns :: L) := HS4
  clear n3
  have n3 : w3.cell? ⟨gz, 3, none⟩ = some (.int .u64 0) := HS4.up1.kcell (j := 3) (by simp) rfl
  go_wp2_with fail
  refine (times0_calls _ _).mono ?_
  rintro e w4 ⟨rfl, rfl⟩
  go_wp2_with fail
  refine (rdone_yes (a := 25) HS4.up3 h25 hl).mono ?_
  rintro e w6 ⟨rfl, HS7⟩
  have HZ := HS7.up2.drew
  have HB0 := HS7.up4
  have c0 := HB0.blk_at 0 rfl
  have c1 := HB0.blk_at 1 rfl
  have c2 := HB0.blk_at 2 rfl
  have c3 := HB0.blk_at 3 rfl
  have f0 := HB0.blk_frozen 0
  have f1 := HB0.blk_frozen 1
  have f2 := HB0.blk_frozen 2
  have f3 := HB0.blk_frozen 3
  have HR := HB0.blk_set4 (.int .u64 x1) (.int .u32 x0) (.int .u64 x2) (.slice none 0 0)
  have HRZ := HR.up3.drew
  have Z1 : Aside (∀ j, j < 4 → w6.drew.cell? ⟨gz, j, none⟩ = ([.int .u64 x0, .int .u64 x1, .int .u64 x2, .int .u64 0] : List Value)[j]?) := ⟨fun j hj => HZ.own_cell hj⟩
  obtain ⟨W, hW⟩ : ∃ W, W = ((((w6.setCell ⟨w.heap.size, 0, none⟩ (.int .u64 x1)).setCell ⟨w.heap.size, 1, none⟩ (.int .u32 x0)).setCell ⟨w.heap.size, 2, none⟩ (.int .u64 x2)).setCell ⟨w.heap.size, 3, none⟩ (.slice none 0 0)).drew := ⟨_, rfl⟩
  have Z2 : Aside (∀ j, j < 4 → W.cell? ⟨gz, j, none⟩ = ([.int .u64 x0, .int .u64 x1, .int .u64 x2, .int .u64 0] : List Value)[j]?) := ⟨fun j hj => by rw [hW]; exact HRZ.own_cell hj⟩
  rw [hW] at Z2
  clear hW W
  clear HS HSb HS1 HS2 HS3 HS4 HS7 HB0 HZ HRZ n3
  go_upto_region 7 with (fail)
  go_region_held_law (fun w' => ∀ j, j < 4 → w'.cell? ⟨gz, j, none⟩ = ([.int .u64 x0, .int .u64 x1, .int .u64 x2, .int .u64 0] : List Value)[j]?)
    (first | with_reducible exact Z1.out | with_reducible exact Z2.out) (fail)
  all_goals
    replace HR := HR.drew
    go_wp2
    (try simp only [Exit.inBlock, Exit.then])
    refine bodyPost_ret (results_row2 rfl _ _ _ _ _ _ _ rfl HR.blk_heap Try.underlying45 rfl info_ans) rfl ?_
    exact ⟨rfl, HR.sel 5 [1]⟩
end
end Go.Proofs.Ytankfmfenbhkgaa
