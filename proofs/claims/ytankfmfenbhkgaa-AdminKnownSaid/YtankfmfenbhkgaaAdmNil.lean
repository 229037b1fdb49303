/-
  admin.Take and TakeAnswer of a tape that is none; make([]api.Volume, n).
-/
import Derived.Test.YtankfmfenbhkgaaAdmTakeA
import Derived.Test.YtankfmfenbhkgaaOrdNP
namespace Go.Proofs.Ytankfmfenbhkgaa
open Go.RowKit
set_option linter.unusedVariables false
set_option linter.unusedSimpArgs false
section
variable {w0 w : World} {O : Nat → Prop} {L : List Asr}

set_option maxHeartbeats 1000000 in
theorem ropen_nil {m : Int} (HS : Sep w0 w O L) :
    Calls Try.prog 30 #[.pointer none, .int .u64 m] w fun e' w' => ∃ g, e' = .returned (.pointer (some ⟨g, 0, none⟩)) ∧ Sep w0 w' O (rdB g none 0 0 (0 : Nat) true 0 :: L) := by
  have HS3 := HS.alloc (rdC none 0 0 (0 : Nat) false 0) 79
  have HS4 := (HS3.litB #[.int .i64 4] 3 1 1 rfl (by decide) (B := w.heap.size + 1) (by simp)).up1
  go_enter Try.func30, Try.ntmps30
  go_wp2_with fail
  refine (len_nil _).mono ?_
  rintro e' w1 ⟨rfl, rfl⟩
  go_wp2_with fail
  refine (peek_nil _ _).mono ?_
  rintro e' w2 ⟨rfl, rfl⟩
  go_wp2_with fail
  refine (rnumbers_no (ss := [4]) (E := 0) (by rfl) HS4 (by decide) (by decide) (by decide) (Nat.zero_le _) (.inr (by decide))).mono ?_
  rintro e' w3 ⟨A3, rfl, HS5⟩
  have k2 := HS5.up1.blk_at 2 rfl
  go_wp2
  go_ret
  exact ⟨_, rfl, HS5.drop⟩

set_option maxHeartbeats 2000000 in
theorem admtake_nil (HS : Sep w0 w O L) :
    Calls Try.prog 12 #[.pointer none] w fun e w' => e = .returned (.tuple #[.agg zAdm, .bool false, .int .i64 0]) ∧ Sep w0 w' O L := by
  have HSb := HS.alloc zAdm 24
  have hs0 := fun (w : World) (c : Nat) => run_convert_bytes_nil (P := Try.prog) w 25 5 Try.underlying25 Try.underlying5 0 c 9 Try.underlying9
  go_enter Try.func12, Try.ntmps12
  go_wp2_with fail
  refine (ropen_nil HSb).mono ?_
  rintro e w1 ⟨g, rfl, HS1⟩
  have HS2 := (HS1.lit #[.int .i64 1, .int .i64 1, .int .i64 8, .int .i64 8, .int .i64 1, .int .i64 1] 3 1 6 rfl (by decide)).up1
  go_wp2_with fail
  refine (rnumbers_no (ss := [1, 1, 8, 8, 1, 1]) (E := 0) (by rfl) HS2 (by decide) (by decide) (by decide) (Nat.zero_le _) (.inl rfl)).mono ?_
  rintro e w2 ⟨A2, rfl, HS3⟩
  obtain ⟨gz, rfl⟩ := HS3.own_some (by decide)
  replace HS3 : Sep w0 w2 O (own 22 1 (some ⟨gz, 0, none⟩) 6 6 (kv .u64 [0, 0, 0, 0, 0, 0]) :: rdB g none 0 0 (0 : Nat) true 0 :: blk w.heap.size 24 zAdm :: L) := HS3
  have n1 := HS3.kcell (j := 1) (by decide) rfl
  go_wp2_with fail
  refine (rfail_stop HS3.up1).mono ?_
  rintro e w3 ⟨rfl, HS4⟩
  clear n1
  go_wp2_with fail
  go_region_held_law (fun w' => w'.cell? ⟨gz, 4, none⟩ = some (.int .u64 0) ∧ w'.cell? ⟨gz, 5, none⟩ = some (.int .u64 0)) (first | exact ⟨HS5.up1.kcell (j := 4) (by decide) rfl, HS5.up1.kcell (j := 5) (by decide) rfl⟩ | exact ⟨HS4.drew.up1.kcell (j := 4) (by decide) rfl, HS4.drew.up1.kcell (j := 5) (by decide) rfl⟩)
    (first
      | (go_at_call 32; refine (rfail_stop HS4.drew).mono ?_; rintro e w4 ⟨rfl, HS5⟩))
  all_goals
    go_wp2_with fail
    go_region_held_law (fun w' => w'.cell? ⟨gz, 4, none⟩ = some (.int .u64 0) ∧ w'.cell? ⟨gz, 5, none⟩ = some (.int .u64 0)) (first | exact ⟨HS6.up1.kcell (j := 4) (by decide) rfl, HS6.up1.kcell (j := 5) (by decide) rfl⟩ | exact ⟨HS5.drew.up1.kcell (j := 4) (by decide) rfl, HS5.drew.up1.kcell (j := 5) (by decide) rfl⟩)
      (first
        | (go_at_call 33; refine (rtake_no HS5.drew (by decide) (Nat.zero_le _) (.inl rfl)).mono ?_; rintro e w5 ⟨rfl, HS6⟩))
    all_goals
      replace HS6 : Sep w0 w5 O (rdB g none 0 0 (0 : Nat) true 0 :: own 22 1 (some ⟨gz, 0, none⟩) 6 6 (kv .u64 [0, 0, 0, 0, 0, 0]) :: blk w.heap.size 24 zAdm :: L) := HS6
      go_wp2_with fail
      refine (rdone_no _ HS6).mono ?_
      rintro e w6 ⟨rfl, rfl⟩
      have k3 := HS6.blk_at 3 rfl
      have HB := HS6.up2
      have hne1 := HB.blk_ne
      have hne2 : g ≠ w.heap.size := fun e => hne1 e.symm
      have c0 := HB.blk_at 0 rfl
      have c1 := HB.blk_at 1 rfl
      have c2 := HB.blk_at 2 rfl
      have c3 := HB.blk_at 3 rfl
      have c4 := HB.blk_at 4 rfl
      have c5 := HB.blk_at 5 rfl
      have f0 := HB.blk_frozen 0
      have f1 := HB.blk_frozen 1
      have f2 := HB.blk_frozen 2
      have f3 := HB.blk_frozen 3
      have f4 := HB.blk_frozen 4
      have f5 := HB.blk_frozen 5
      have HR := HB.blk_set6 (.int .i64 0) (.int .u64 0) (.string noStr) (.string noStr) (.int .u64 0) (.bool false)
      clear HS HSb HS1 HS2 HS3 HS4 HS5
      go_upto_region 7 with (fail)
      go_region_law (fail)
      all_goals
        replace HR := HR.drew
        go_wp2
        (try simp only [Exit.inBlock, Exit.then])
        refine bodyPost_ret (results_row2 rfl _ _ _ _ _ _ _ rfl HR.blk_heap Try.underlying24 rfl info_adm) rfl ?_
        exact ⟨rfl, HR.sel 3 []⟩

set_option maxHeartbeats 2000000 in
theorem takeans_nil (HS : Sep w0 w O L) :
    Calls Try.prog 18 #[.pointer none] w fun e w' => e = .returned (.tuple #[.agg zAns, .bool false, .int .i64 0]) ∧ Sep w0 w' O L := by
  have HSb := HS.alloc zAns 45
  go_enter Try.func18, Try.ntmps18
  go_wp2_with fail
  refine (ropen_nil HSb).mono ?_
  rintro e w1 ⟨g, rfl, HS1⟩
  have HS2 := (HS1.lit #[.int .i64 4, .int .i64 8, .int .i64 8, .int .i64 1] 3 1 4 rfl (by decide)).up1
  go_wp2_with fail
  refine (rnumbers_no (ss := [4, 8, 8, 1]) (E := 0) (by rfl) HS2 (by decide) (by decide) (by decide) (Nat.zero_le _) (.inl rfl)).mono ?_
  rintro e w2 ⟨A2, rfl, HS3⟩
  obtain ⟨gz, rfl⟩ := HS3.own_some (by decide)
  replace HS3 : Sep w0 w2 O (own 22 1 (some ⟨gz, 0, none⟩) 4 4 (kv .u64 [0, 0, 0, 0]) :: rdB g none 0 0 (0 : Nat) true 0 :: blk w.heap.size 45 zAns :: L) := HS3
  have n3 := HS3.kcell (j := 3) (by decide) rfl
  go_wp2_with fail
  refine (rfail_stop HS3.up1).mono ?_
  rintro e w3 ⟨rfl, HS4⟩
  clear n3
  have n3 : w3.cell? ⟨gz, 3, none⟩ = some (.int .u64 0) := HS4.up1.kcell (j := 3) (by decide) rfl
  go_wp2_with fail
  refine (times0_calls _ _).mono ?_
  rintro e w4 ⟨rfl, rfl⟩
  go_wp2_with fail
  refine (rdone_no _ HS4).mono ?_
  rintro e w6 ⟨rfl, rfl⟩
  have k3 := HS4.blk_at 3 rfl
  have HB := HS4.up2
  have hne1 := HB.blk_ne
  have hne2 : g ≠ w.heap.size := fun e => hne1 e.symm
  have c0 := HB.blk_at 0 rfl
  have c1 := HB.blk_at 1 rfl
  have c2 := HB.blk_at 2 rfl
  have c3 := HB.blk_at 3 rfl
  have f0 := HB.blk_frozen 0
  have f1 := HB.blk_frozen 1
  have f2 := HB.blk_frozen 2
  have f3 := HB.blk_frozen 3
  have HR := HB.blk_set4 (.int .u64 0) (.int .u32 0) (.int .u64 0) (.slice none 0 0)
  clear HS HSb HS1 HS2 HS3 n3
  go_upto_region 6 with (fail)
  go_region_law (fail)
  all_goals
    replace HR := HR.drew
    go_wp2
    (try simp only [Exit.inBlock, Exit.then])
    refine bodyPost_ret (results_row2 rfl _ _ _ _ _ _ _ rfl HR.blk_heap Try.underlying45 rfl info_ans) rfl ?_
    exact ⟨rfl, HR.sel 3 []⟩

abbrev zV : Vol := ⟨0, noStr, 0, 0, false, 0⟩
theorem made_vols (n : Nat) : madeCells #[.int .u64 0, .string noStr, .int .u64 0, .int .u64 0, .bool false, .int .u64 0] (n * 6) = (vrow (List.replicate n zV)).toArray := by
  apply Array.ext
  · rw [size_madeCells]; simp [vrow_len]
  · intro i h1 h2
    rw [size_madeCells] at h1
    have hv : (vrow (List.replicate n zV))[i]? = zV.cells[i % 6]? := by
      have h := vrow_get (List.replicate n zV) (i / 6) (i % 6) (Nat.mod_lt _ (by decide))
      rw [show i / 6 * 6 + i % 6 = i by omega, List.getElem?_replicate, if_pos (by omega)] at h
      exact h
    have h6 : i % 6 = 0 ∨ i % 6 = 1 ∨ i % 6 = 2 ∨ i % 6 = 3 ∨ i % 6 = 4 ∨ i % 6 = 5 := by omega
    have hl : i < (vrow (List.replicate n zV)).length := by simpa using h2
    rw [List.getElem?_eq_getElem hl] at hv
    rcases h6 with h | h | h | h | h | h
    all_goals
      rw [h] at hv
      injection hv with hv
      refine Eq.trans ?_ hv.symm
      simp [madeCells, h]
theorem mk_vol16 (w : World) : (Instr.makeSlice 41 (.int .i64 16) (.int .i64 16)).run Try.prog w = .ok (.slice (some ⟨w.heap.size, 0, none⟩) 16 16) (w.alloc (.cells (vrow (List.replicate 16 zV)).toArray 48)) := by
  obtain ⟨i0, hi0, hz0, hz1, hz2⟩ := info_parts info_vol6
  have h := run_makeSlice (P := Try.prog) w 41 48 i0 _ Try.underlying41 hi0 hz0 .i64 .i64 16 16 (by omega) (by omega) (by rw [hz1]; simp) (by rw [hz2]; omega) (by omega)
  rw [h, hz1]
  rw [show (Value.agg #[.int .u64 0, .string noStr, .int .u64 0, .int .u64 0, .bool false, .int .u64 0]).cells = #[.int .u64 0, .string noStr, .int .u64 0, .int .u64 0, .bool false, .int .u64 0] from rfl, show Int.toNat 16 = 16 from rfl, made_vols]
theorem mk_vol17 (w : World) : (Instr.makeSlice 41 (.int .i64 17) (.int .i64 17)).run Try.prog w = .ok (.slice (some ⟨w.heap.size, 0, none⟩) 17 17) (w.alloc (.cells (vrow (List.replicate 17 zV)).toArray 48)) := by
  obtain ⟨i0, hi0, hz0, hz1, hz2⟩ := info_parts info_vol6
  have h := run_makeSlice (P := Try.prog) w 41 48 i0 _ Try.underlying41 hi0 hz0 .i64 .i64 17 17 (by omega) (by omega) (by rw [hz1]; simp) (by rw [hz2]; omega) (by omega)
  rw [h, hz1]
  rw [show (Value.agg #[.int .u64 0, .string noStr, .int .u64 0, .int .u64 0, .bool false, .int .u64 0]).cells = #[.int .u64 0, .string noStr, .int .u64 0, .int .u64 0, .bool false, .int .u64 0] from rfl, show Int.toNat 17 = 17 from rfl, made_vols]
end
end Go.Proofs.Ytankfmfenbhkgaa
