/-
  Contract of cisternref24.Put.
-/
import Derived.Test.YtankfmfenbhkgaaRef24A
import Derived.Test.YtankfmfenbhkgaaAdmPut2
import Derived.Test.YtankfmfenbhkgaaAppRo
import Derived.Deep.DeepCutAuto
namespace Go.Proofs.Ytankfmfenbhkgaa
open Go.RowKit
set_option linter.unusedVariables false
set_option linter.unusedSimpArgs false
section
variable {w0 w : World} {O : Nat → Prop} {L : List Asr} {kd ck size : Int} {nm au : ByteArray} {fixed : Bool}

set_option maxHeartbeats 2000000 in
theorem ref24put_bad (HS : Sep w0 w O L) (hn : nm.size ≤ 140737488351232) (ha : au.size ≤ 140737488351232) (h : admErr kd nm au ≠ 0) :
    Calls Try.prog 10 #[admV kd ck nm au size fixed] w fun e w' => e = .returned (.tuple #[.slice none 0 0, .int .i64 (admErr kd nm au)]) ∧ Sep w0 w' O L := by
  have HT := hid (fun (a : Array Value) (s : TypeId) => HS.alloc_ (.cells a s))
  obtain ⟨E, hE⟩ : ∃ E, E = admErr kd nm au := ⟨_, rfl⟩
  rw [← hE] at h ⊢
  have key : (kd < 0 ∧ E = 1) ∨ (¬ kd < 0 ∧ 255 < kd ∧ E = 1) ∨ (¬ kd < 0 ∧ ¬ 255 < kd ∧ 16 < (nm.size : Int) ∧ E = 3) ∨ (¬ kd < 0 ∧ ¬ 255 < kd ∧ ¬ 16 < (nm.size : Int) ∧ 16 < (au.size : Int) ∧ E = 3) := by
    unfold admErr at hE
    split at hE
    · omega
    · split at hE
      · omega
      · omega
  clear hE h HS
  rcases key with ⟨a1, rfl⟩ | ⟨a1, a2, rfl⟩ | ⟨a1, a2, a3, rfl⟩ | ⟨a1, a2, a3, a4, rfl⟩
  all_goals
    go_enter Try.func10, Try.ntmps10
    go_wp2
    go_ret2
    exact ⟨rfl, HT.out _ _⟩

set_option maxHeartbeats 4000000 in
theorem ref24put_ok (HS : Sep w0 w O L) (y0 : 0 ≤ ck) (y1 : ck < 18446744073709551616) (z0 : 0 ≤ size) (z1 : size < 18446744073709551616) (h : admErr kd nm au = 0) :
    Calls Try.prog 10 #[admV kd ck nm au size fixed] w fun e w' => ∃ A' c', e = .returned (.tuple #[.slice A' (24 + nm.size + au.size) c', .int .i64 0]) ∧ Sep w0 w' O (own 5 1 A' (24 + nm.size + au.size) c' (by8 (admBytes kd ck nm au size fixed)) :: L) := by
  have key : ¬ kd < 0 ∧ ¬ 255 < kd ∧ nm.size ≤ 16 ∧ au.size ≤ 16 := by
    unfold admErr at h
    split at h
    · omega
    · split at h
      · omega
      · omega
  obtain ⟨a1, a2, a3, a4⟩ := key
  clear h
  obtain ⟨i0, hi0, hz0, hz1, hz2⟩ := info_parts info_u8
  have kc2 := const_bytes2
  have HSb := HS.alloc #[.int .i64 kd, .int .u64 ck, .string nm, .string au, .int .u64 size, .bool fixed] 24
  have HM := HSb.mark #[.int .u8 67, .int .u8 73, .int .u8 83, .int .u8 84] 5 (4, 5) 4 rfl (B := w.heap.size + 1) (by simp)
  have HL := HM.litB #[.int .u8 kd] 5 1 1 rfl (by decide) (B := w.heap.size + 1 + 1) (by simp)
  obtain ⟨adb, hab, _, hcb⟩ := ((Rb.r0.cons).read HL).2 (by decide)
  obtain ⟨adn, han, _, hcn⟩ := (HL.rd0).2 (by decide)
  injection hab with hab
  injection han with han
  subst hab
  subst han
  have hp1 : 4 + 1 ≤ 1000000 := by decide
  have s1 : IntKind.u8.wrap kd = kd := by rw [IntKind.wrap_u8]; omega
  have s2 : IntKind.u8.wrap (nm.size : Int) = nm.size := by rw [IntKind.wrap_u8]; omega
  have s3 : IntKind.u8.wrap (au.size : Int) = au.size := by rw [IntKind.wrap_u8]; omega
  have b3 : ¬ 16 < (nm.size : Int) := by omega
  have b4 : ¬ 16 < (au.size : Int) := by omega
  go_enter Try.func10, Try.ntmps10
  go_upto_region 6 with (at_builtin; go_loud (refine wpList_append_ro rfl (.tmp 24) (.tmp 28) 25 rfl 5 i0 _ Try.underlying25 hi0 hz0 hz1 hz2 rfl HL rfl rfl hcb rfl rfl hcn (by decide) hp1 ?_); intro A1 c1 w1 HC hsz)
  have HS1 := HC.sel 4 [0, 3]
  replace HS1 : Sep w0 w1 O (own 5 1 A1 5 c1 (by8 [67, 73, 83, 84, kd]) :: blk w.heap.size 24 #[.int .i64 kd, .int .u64 ck, .string nm, .string au, .int .u64 size, .bool fixed] :: L) := HS1
  clear HC HL HM HSb hcb hcn
  have k1 := HS1.up1.blk_at 5 rfl
  go_wp2_with fail
  refine (rflag_calls (b := fixed) HS1 (by decide)).mono ?_
  rintro e w2 ⟨A2, c2, rfl, HS2⟩
  clear k1
  have k1 := HS2.up1.blk_at 1 rfl
  go_wp2_with fail
  refine (rnumapp_calls (s := 8) HS2 (by decide) (by decide) (by decide) y0 y1).mono ?_
  rintro e w3 ⟨A3, c3, rfl, HS3⟩
  clear k1
  have k1 := HS3.up1.blk_at 4 rfl
  go_wp2_with fail
  refine (rnumapp_calls (s := 8) HS3 (by decide) (by decide) (by decide) z0 z1).mono ?_
  rintro e w4 ⟨A4, c4, rfl, HS4⟩
  clear k1
  have k1 := HS4.up1.blk_at 2 rfl
  have k2 := HS4.up1.blk_at 3 rfl
  have HB := (HS4.lit #[.int .u8 nm.size, .int .u8 au.size] 5 1 2 rfl (by decide)).up1
  have hrd : Rd _ _ 1 _ 2 (by8 [(nm.size : Int), (au.size : Int)]) := HB.rd1
  go_upto_region 10 with (at_builtin; go_loud (refine wpList_append_sep rfl (.tmp 42) (.tmp 51) 25 rfl 5 i0 _ 1 1 Try.underlying25 hi0 hz0 hz1 hz2 rfl (by decide) rfl HB rfl hrd (kv_one _ _) (by simp only [maxLen]; omega) (by omega) rfl (by8_append _ _) ?_); intro A5 c5 w5 HC hsz)
  have HS5 := HC.sel 3 [0, 2]
  replace HS5 : Sep w0 w5 O (own 5 1 A5 24 c5 (by8 ([67, 73, 83, 84, kd] ++ [bitV fixed] ++ be 8 ck ++ be 8 size ++ [(nm.size : Int), (au.size : Int)])) :: blk w.heap.size 24 #[.int .i64 kd, .int .u64 ck, .string nm, .string au, .int .u64 size, .bool fixed] :: L) := HS5
  clear HC HB hrd k1 k2
  have k1 := HS5.up1.blk_at 2 rfl
  have q1 : 24 + nm.size ≤ maxLen := by simp only [maxLen]; omega
  have q2 : 24 + nm.size ≤ 140737488355328 := by omega
  go_upto_region 11 with (at_builtin; go_loud (refine wpList_append_sep_str rfl (.tmp 53) (.tmp 55) 25 9 rfl 5 i0 Try.underlying25 Try.underlying9 hi0 hz0 hz1 hz2 rfl HS5 rfl q1 q2 rfl rfl ?_); intro A6 c6 w6 HS6 hsz6)
  clear k1
  have k1 := HS6.up1.blk_at 3 rfl
  have q3 : 24 + nm.size + au.size ≤ maxLen := by simp only [maxLen]; omega
  have q4 : 24 + nm.size + au.size ≤ 140737488355328 := by omega
  go_wp2_with (at_builtin; go_loud (refine wpList_append_sep_str rfl (.tmp 57) (.tmp 59) 25 9 rfl 5 i0 Try.underlying25 Try.underlying9 hi0 hz0 hz1 hz2 rfl HS6 rfl q3 q4 rfl rfl ?_); intro A7 c7 w7 HS7 hsz7)
  go_ret2
  refine ⟨A7, c7, rfl, ?_⟩
  have e : by8 ([67, 73, 83, 84, kd] ++ [bitV fixed] ++ be 8 ck ++ be 8 size ++ [(nm.size : Int), (au.size : Int)]) ++ Lib.strCells nm ++ Lib.strCells au = by8 (admBytes kd ck nm au size fixed) := by
    rw [strInts_cells, strInts_cells, by8_append, by8_append]
    have hb : 0 ≤ bitV fixed ∧ bitV fixed < 256 := by cases fixed <;> decide
    have e4 : be 4 1128878932 = [67, 73, 83, 84] := by decide
    have e1 : ∀ x : Int, 0 ≤ x → x < 256 → be 1 x = [x] := fun x h0 h1 => by
      show [x % 256] = [x]
      rw [Int.emod_eq_of_lt h0 h1]
    simp only [admBytes, nput, List.flatMap_cons, List.flatMap_nil, e4, e1 kd (by omega) (by omega), e1 _ hb.1 hb.2, e1 (nm.size : Int) (by omega) (by omega), e1 (au.size : Int) (by omega) (by omega), List.append_assoc, List.cons_append, List.nil_append, List.append_nil]
  rw [← e]
  exact HS7.up1.drop

theorem ref24put_calls (HS : Sep w0 w O L) (hn : nm.size ≤ 140737488351232) (ha : au.size ≤ 140737488351232) (c0 : 0 ≤ ck) (c1 : ck < 18446744073709551616) (z0 : 0 ≤ size) (z1 : size < 18446744073709551616) :
    Calls Try.prog 10 #[admV kd ck nm au size fixed] w fun e w' => ∃ A' c', e = .returned (.tuple #[.slice A' (if admErr kd nm au = 0 then admBytes kd ck nm au size fixed else []).length c', .int .i64 (admErr kd nm au)]) ∧ Sep w0 w' O (own 5 1 A' (if admErr kd nm au = 0 then admBytes kd ck nm au size fixed else []).length c' (by8 (if admErr kd nm au = 0 then admBytes kd ck nm au size fixed else [])) :: L) := by
  by_cases h : admErr kd nm au = 0
  · rw [if_pos h, h]
    have hl : (admBytes kd ck nm au size fixed).length = 24 + nm.size + au.size := by simp [admBytes, nput, be_len, strInts_len]; omega
    rw [hl]
    exact ref24put_ok HS c0 c1 z0 z1 h
  · rw [if_neg h]
    refine (ref24put_bad HS hn ha h).mono ?_
    rintro e w' ⟨rfl, HS'⟩
    exact ⟨none, 0, rfl, HS'.nil _ _⟩
end
end Go.Proofs.Ytankfmfenbhkgaa
