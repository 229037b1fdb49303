/-
  Contract of admin.Put.
-/
import Derived.Test.YtankfmfenbhkgaaAdmPut
import Derived.Test.YtankfmfenbhkgaaAppStr
import Derived.Deep.RegionHeldLaw
import Derived.Deep.RegionHeld3
namespace Go.Proofs.Ytankfmfenbhkgaa
open Go.RowKit
set_option linter.unusedVariables false
set_option linter.unusedSimpArgs false

abbrev admV (kd ck : Int) (nm au : ByteArray) (size : Int) (fixed : Bool) : Value := .agg #[.int .i64 kd, .int .u64 ck, .string nm, .string au, .int .u64 size, .bool fixed]
def admErr (kd : Int) (nm au : ByteArray) : Int := if kd < 0 ∨ 255 < kd then 1 else if 16 < nm.size ∨ 16 < au.size then 3 else 0
def admBytes (kd ck : Int) (nm au : ByteArray) (size : Int) (fixed : Bool) : List Int :=
  nput [(1128878932, 4), (kd, 1), (bitV fixed, 1), (ck, 8), (size, 8), (nm.size, 1), (au.size, 1)] ++ strInts nm ++ strInts au

section
variable {w0 w : World} {O : Nat → Prop} {L : List Asr} {kd ck size : Int} {nm au : ByteArray} {fixed : Bool}

set_option maxHeartbeats 2000000 in
theorem adminput_bad (HS : Sep w0 w O L) (hn : nm.size ≤ 140737488351232) (ha : au.size ≤ 140737488351232) (h : admErr kd nm au ≠ 0) :
    Calls Try.prog 9 #[admV kd ck nm au size fixed] w fun e w' => e = .returned (.tuple #[.slice none 0 0, .int .i64 (admErr kd nm au)]) ∧ Sep w0 w' O L := by
  have HT := hid (fun (a : Array Value) (s : TypeId) => HS.alloc_ (.cells a s))
  obtain ⟨E, hE⟩ : ∃ E, E = admErr kd nm au := ⟨_, rfl⟩
  rw [← hE] at h ⊢
  have key : (kd < 0 ∧ E = 1) ∨ (¬ kd < 0 ∧ 255 < kd ∧ E = 1) ∨ (¬ kd < 0 ∧ ¬ 255 < kd ∧ (nm.size : Int) < au.size ∧ 16 < (au.size : Int) ∧ E = 3) ∨ (¬ kd < 0 ∧ ¬ 255 < kd ∧ ¬ (nm.size : Int) < au.size ∧ 16 < (nm.size : Int) ∧ E = 3) := by
    unfold admErr at hE
    split at hE
    · omega
    · split at hE
      · omega
      · omega
  clear hE h HS
  rcases key with ⟨a1, rfl⟩ | ⟨a1, a2, rfl⟩ | ⟨a1, a2, a3, a4, rfl⟩ | ⟨a1, a2, a3, a4, rfl⟩
  · go_enter Try.func9, Try.ntmps9
    go_wp2
    go_ret2
    exact ⟨rfl, HT.out _ _⟩
  · go_enter Try.func9, Try.ntmps9
    go_wp2
    go_ret2
    exact ⟨rfl, HT.out _ _⟩
  · go_enter Try.func9, Try.ntmps9
    go_wp2
    go_ret2
    exact ⟨rfl, HT.out _ _⟩
  · go_enter Try.func9, Try.ntmps9
    go_wp2
    go_ret2
    exact ⟨rfl, HT.out _ _⟩

set_option maxHeartbeats 4000000 in
theorem adminput_ok (HS : Sep w0 w O L) (c0 : 0 ≤ ck) (c1 : ck < 18446744073709551616) (z0 : 0 ≤ size) (z1 : size < 18446744073709551616) (h : admErr kd nm au = 0) :
    Calls Try.prog 9 #[admV kd ck nm au size fixed] w fun e w' => ∃ A' c', e = .returned (.tuple #[.slice A' (24 + nm.size + au.size) c', .int .i64 0]) ∧ Sep w0 w' O (own 5 1 A' (24 + nm.size + au.size) c' (by8 (admBytes kd ck nm au size fixed)) :: L) := by
  have key : ¬ kd < 0 ∧ ¬ 255 < kd ∧ nm.size ≤ 16 ∧ au.size ≤ 16 := by
    unfold admErr at h
    split at h
    · omega
    · split at h
      · omega
      · omega
  obtain ⟨a1, a2, a3, a4⟩ := key
  clear h
  obtain ⟨i0, hi0, hz0, hz1, hz2⟩ := info_parts info_u8
  have hb : 0 ≤ bitV fixed ∧ bitV fixed < 256 := by cases fixed <;> decide
  have HSb := HS.alloc #[.int .i64 kd, .int .u64 ck, .string nm, .string au, .int .u64 size, .bool fixed] 24
  have HA : Sep w0 ((w.alloc (.cells #[.int .i64 kd, .int .u64 ck, .string nm, .string au, .int .u64 size, .bool fixed] 24)).alloc (.cells #[.int .u64 1128878932, .int .i64 4, .int .u64 kd, .int .i64 1, .int .u64 (bitV fixed), .int .i64 1, .int .u64 ck, .int .i64 8, .int .u64 size, .int .i64 8, .int .u64 nm.size, .int .i64 1, .int .u64 au.size, .int .i64 1] 65)) O (own 5 1 none 0 0 (by8 []) :: own 65 2 (some ⟨w.heap.size + 1, 0, none⟩) 7 7 (nrow [(1128878932, 4), (kd, 1), (bitV fixed, 1), (ck, 8), (size, 8), ((nm.size : Int), 1), ((au.size : Int), 1)]) :: blk w.heap.size 24 #[.int .i64 kd, .int .u64 ck, .string nm, .string au, .int .u64 size, .bool fixed] :: L) := (HSb.litB #[.int .u64 1128878932, .int .i64 4, .int .u64 kd, .int .i64 1, .int .u64 (bitV fixed), .int .i64 1, .int .u64 ck, .int .i64 8, .int .u64 size, .int .i64 8, .int .u64 nm.size, .int .i64 1, .int .u64 au.size, .int .i64 1] 65 2 7 rfl (by decide) (by simp)).nil _ _
  have hr : ∀ p ∈ ([(1128878932, 4), (kd, 1), (bitV fixed, 1), (ck, 8), (size, 8), ((nm.size : Int), 1), ((au.size : Int), 1)] : List (Int × Nat)), 0 ≤ p.1 ∧ p.1 < 18446744073709551616 ∧ 1 ≤ p.2 ∧ p.2 ≤ 8 := by
    intro p hp
    simp only [List.mem_cons, List.not_mem_nil, or_false] at hp
    rcases hp with rfl | rfl | rfl | rfl | rfl | rfl | rfl <;> dsimp only <;> omega
  have HR := hid hr
  have hRl : (nput [(1128878932, 4), (kd, 1), (bitV fixed, 1), (ck, 8), (size, 8), ((nm.size : Int), 1), ((au.size : Int), 1)]).length = 24 := by simp [nput, be_len]
  have HRL := hid hRl
  have s1 : IntKind.u64.wrap kd = kd := by rw [IntKind.wrap_u64]; omega
  have s2 : IntKind.u64.wrap (nm.size : Int) = nm.size := by rw [IntKind.wrap_u64]; omega
  have s3 : IntKind.u64.wrap (au.size : Int) = au.size := by rw [IntKind.wrap_u64]; omega
  have p1 : 0 ≤ 1000000 := by decide
  have p2 : 7 ≤ 16 := by decide
  have key2 : ((nm.size : Int) < au.size ∧ ¬ 16 < (au.size : Int)) ∨ (¬ (nm.size : Int) < au.size ∧ ¬ 16 < (nm.size : Int)) := by omega
  have q1 : 24 + nm.size ≤ maxLen := by simp only [maxLen]; omega
  have q2 : 24 + nm.size ≤ 140737488355328 := by omega
  have q3 : 24 + nm.size + au.size ≤ maxLen := by simp only [maxLen]; omega
  have q4 : 24 + nm.size + au.size ≤ 140737488355328 := by omega
  clear hr hRl
  rcases key2 with ⟨k1, k2⟩ | ⟨k1, k2⟩
  all_goals
    go_enter Try.func9, Try.ntmps9
    go_wp2_with fail
    go_region_held_law (fun w' => w'.cell? ⟨w.heap.size, 0, none⟩ = some (.int .i64 kd) ∧ w'.cell? ⟨w.heap.size, 1, none⟩ = some (.int .u64 ck) ∧ w'.cell? ⟨w.heap.size, 2, none⟩ = some (.string nm) ∧ w'.cell? ⟨w.heap.size, 3, none⟩ = some (.string au) ∧ w'.cell? ⟨w.heap.size, 4, none⟩ = some (.int .u64 size) ∧ w'.cell? ⟨w.heap.size, 5, none⟩ = some (.bool fixed)) (first | (exact ⟨HS2.up1.blk_at 0 rfl, HS2.up1.blk_at 1 rfl, HS2.up1.blk_at 2 rfl, HS2.up1.blk_at 3 rfl, HS2.up1.blk_at 4 rfl, HS2.up1.blk_at 5 rfl⟩) | (exact ⟨HA.drew.up2.blk_at 0 rfl, HA.drew.up2.blk_at 1 rfl, HA.drew.up2.blk_at 2 rfl, HA.drew.up2.blk_at 3 rfl, HA.drew.up2.blk_at 4 rfl, HA.drew.up2.blk_at 5 rfl⟩) | (exact ⟨HSb.drew.blk_at 0 rfl, HSb.drew.blk_at 1 rfl, HSb.drew.blk_at 2 rfl, HSb.drew.blk_at 3 rfl, HSb.drew.blk_at 4 rfl, HSb.drew.blk_at 5 rfl⟩))
      (first
        | (go_at_call 25; refine (bit_calls fixed _).mono ?_; rintro e w1 ⟨rfl, rfl⟩)
        | (go_at_call 24; refine (adput_calls (r := [(1128878932, 4), (kd, 1), (bitV fixed, 1), (ck, 8), (size, 8), ((nm.size : Int), 1), ((au.size : Int), 1)]) HA.drew HR.out p1 p2).mono ?_; rintro e w2 ⟨B2, c2, rfl, HS2⟩))
    all_goals
      rw [Nat.zero_add, HRL.out, List.nil_append] at HS2
      rw [HRL.out]
      go_wp2_with fail
      go_region_held3 (fun w' => w'.cell? ⟨w.heap.size, 2, none⟩ = some (.string nm) ∧ w'.cell? ⟨w.heap.size, 3, none⟩ = some (.string au)) (first | (exact ⟨HS4.up1.blk_at 2 rfl, HS4.up1.blk_at 3 rfl⟩) | (exact ⟨HS3.up1.blk_at 2 rfl, HS3.up1.blk_at 3 rfl⟩) | (exact ⟨HS2.drew.up1.blk_at 2 rfl, HS2.drew.up1.blk_at 3 rfl⟩))
        (first
          | (refine step_append_sep_str (by rfl) (.tmp 50) (.tmp 52) 25 9 (by rfl) 5 i0 Try.underlying25 Try.underlying9 hi0 hz0 hz1 hz2 (by rfl) HS2.drew (by rfl) q1 q2 rfl rfl ?_; intro B3 c3 w3 HS3 hsz3)
          | (refine step_append_sep_str (by rfl) (.tmp 53) (.tmp 55) 25 9 (by rfl) 5 i0 Try.underlying25 Try.underlying9 hi0 hz0 hz1 hz2 (by rfl) HS3 (by rfl) q3 q4 rfl rfl ?_; intro B4 c4 w4 HS4 hsz4))
      all_goals
        go_wp2
        go_ret2
        refine ⟨B4, c4, rfl, ?_⟩
        have e : by8 (nput [(1128878932, 4), (kd, 1), (bitV fixed, 1), (ck, 8), (size, 8), ((nm.size : Int), 1), ((au.size : Int), 1)]) ++ Lib.strCells nm ++ Lib.strCells au = by8 (admBytes kd ck nm au size fixed) := by
          rw [strInts_cells, strInts_cells, by8_append, by8_append]; rfl
        rw [← e]
        exact HS4.up1.drop

theorem adminput_calls (HS : Sep w0 w O L) (hn : nm.size ≤ 140737488351232) (ha : au.size ≤ 140737488351232) (c0 : 0 ≤ ck) (c1 : ck < 18446744073709551616) (z0 : 0 ≤ size) (z1 : size < 18446744073709551616) :
    Calls Try.prog 9 #[admV kd ck nm au size fixed] w fun e w' => ∃ A' c', e = .returned (.tuple #[.slice A' (if admErr kd nm au = 0 then admBytes kd ck nm au size fixed else []).length c', .int .i64 (admErr kd nm au)]) ∧ Sep w0 w' O (own 5 1 A' (if admErr kd nm au = 0 then admBytes kd ck nm au size fixed else []).length c' (by8 (if admErr kd nm au = 0 then admBytes kd ck nm au size fixed else [])) :: L) := by
  by_cases h : admErr kd nm au = 0
  · rw [if_pos h, h]
    have hl : (admBytes kd ck nm au size fixed).length = 24 + nm.size + au.size := by simp [admBytes, nput, be_len, strInts_len]; omega
    rw [hl]
    exact adminput_ok HS c0 c1 z0 z1 h
  · rw [if_neg h]
    refine (adminput_bad HS hn ha h).mono ?_
    rintro e w' ⟨rfl, HS'⟩
    exact ⟨none, 0, rfl, HS'.nil _ _⟩
end
end Go.Proofs.Ytankfmfenbhkgaa
