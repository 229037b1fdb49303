/-
  The walk of AdminPuts.
-/
import Derived.Test.YtankfmfenbhkgaaLaw24
import Derived.Test.YtankfmfenbhkgaaAdmSees
import Derived.Test.YtankfmfenbhkgaaRef24Put
import Derived.Test.YtankfmfenbhkgaaRef24Tk3
namespace Go.Proofs.Ytankfmfenbhkgaa
open Go.RowKit
set_option linter.unusedVariables false
set_option linter.unusedSimpArgs false

theorem takeAdm_ok (l : List Int) : (takeAdm l).ok = decide ((0 : Int) < ((takeAdm l).gone : Nat)) ∧ (takeAdm l).gone ≤ l.length := by
  unfold takeAdm
  split
  · simp [noATk]
  · split
    · simp [noATk]
    · split
      · simp [noATk]
      · split
        · simp [noATk]
        · split
          · simp [noATk]
          · dsimp only
            exact ⟨(decide_eq_true (by omega)).symm, by omega⟩

set_option maxHeartbeats 4000000 in
theorem adminPuts_walk (cs0 : Array Value) (A1 : Option Addr) (n1 c1 : Nat) (x0 : Sh.V (.agg (.pair (.int .i64) (.pair (.int .u64) (.pair .str (.pair .str (.pair (.int .u64) (.pair .bool .unit)))))))) (x1 : Sh.V (.slice (.int .u8) 1)) (w : World) (s0 : Sees w.heap (.agg (.pair (.int .i64) (.pair (.int .u64) (.pair .str (.pair .str (.pair (.int .u64) (.pair .bool .unit))))))) cs0.toList x0) (s1 : Sees w.heap (.slice (.int .u8) 1) [.slice A1 n1 c1] x1) (y0 : Light (.agg (.pair (.int .i64) (.pair (.int .u64) (.pair .str (.pair .str (.pair (.int .u64) (.pair .bool .unit))))))) x0) (y1 : Light (.slice (.int .u8) 1) x1) :
    Calls Try.prog 3 #[.agg cs0, .slice A1 n1 c1] w fun e w' => e = .returned (.bool true) ∧ Below w.heap.size w w' := by
  obtain ⟨kd, ck, nm, au, size, fixed, rfl, ⟨k0, k1⟩, ⟨ck0, ck1⟩, ⟨z0, z1⟩, hn, ha⟩ := sees_adm s0 y0
  obtain ⟨hn1, hr1, hc1, _, hw1⟩ := sees_ints s1
  obtain ⟨l, rfl⟩ : ∃ l : List Int, l = x1 := ⟨_, rfl⟩
  have hb1 := kv_byt hw1
  have ly1 : n1 ≤ 140737488351232 := by have := y1.1; omega
  have hR := fun L => Rb.came (L := L) hr1
  clear s0 s1 y0 y1 hw1 hr1
  have HSb := (Sep.start w).alloc #[.int .i64 kd, .int .u64 ck, .string nm, .string au, .int .u64 size, .bool fixed] 24
  obtain ⟨E, hE⟩ : ∃ E, E = admErr kd nm au := ⟨_, rfl⟩
  obtain ⟨X, hX⟩ : ∃ X, X = (if admErr kd nm au = 0 then admBytes kd ck nm au size fixed else []) := ⟨_, rfl⟩
  have HPut : ∀ {w' : World} {L' : List Asr}, Sep w w' (fun _ => False) L' → Calls Try.prog 9 #[admV kd ck nm au size fixed] w' fun e w2 => ∃ A' c', e = .returned (.tuple #[.slice A' X.length c', .int .i64 E]) ∧ Sep w w2 (fun _ => False) (own 5 1 A' X.length c' (by8 X) :: L') := by
    intro w' L' H; rw [hE, hX]; exact adminput_calls H hn ha ck0 ck1 z0 z1
  have HRef : ∀ {w' : World} {L' : List Asr}, Sep w w' (fun _ => False) L' → Calls Try.prog 10 #[admV kd ck nm au size fixed] w' fun e w2 => ∃ A' c', e = .returned (.tuple #[.slice A' X.length c', .int .i64 E]) ∧ Sep w w2 (fun _ => False) (own 5 1 A' X.length c' (by8 X) :: L') := by
    intro w' L' H; rw [hE, hX]; exact ref24put_calls H hn ha ck0 ck1 z0 z1
  have hXl : X.length ≤ 56 := by
    rw [hX]; split
    · rename_i h0
      have : nm.size ≤ 16 ∧ au.size ≤ 16 := by
        unfold admErr at h0; split at h0
        · omega
        · split at h0 <;> omega
      simp [admBytes, nput, be_len, strInts_len]; omega
    · exact Nat.zero_le _
  clear hE hX
  have hL : l.length ≤ 140737488355328 := by omega
  have hok := takeAdm_ok l
  obtain ⟨tk, htk⟩ : ∃ x, x = (takeAdm l).kd := ⟨_, rfl⟩
  obtain ⟨tc, htc⟩ : ∃ x, x = (takeAdm l).ck := ⟨_, rfl⟩
  obtain ⟨tn, htn⟩ : ∃ x, x = (takeAdm l).nm := ⟨_, rfl⟩
  obtain ⟨ta, hta⟩ : ∃ x, x = (takeAdm l).au := ⟨_, rfl⟩
  obtain ⟨ts, hts⟩ : ∃ x, x = (takeAdm l).size := ⟨_, rfl⟩
  obtain ⟨tf, htf⟩ : ∃ x, x = (takeAdm l).fixed := ⟨_, rfl⟩
  obtain ⟨te, hte⟩ : ∃ x, x = (takeAdm l).err := ⟨_, rfl⟩
  obtain ⟨gn, hgn⟩ : ∃ x, x = (takeAdm l).gone := ⟨_, rfl⟩
  rw [← hgn] at hok
  have HTk : ∀ {w' : World} {L' : List Asr} {g : Nat}, Sep w w' (fun _ => False) (Go.Proofs.Ytankfmfenbhkgaa.tape g l :: L') → Calls Try.prog 12 #[.pointer (some ⟨g, 0, none⟩)] w' fun e w2 => e = .returned (.tuple #[.agg #[.int .i64 tk, .int .u64 tc, .string tn, .string ta, .int .u64 ts, .bool tf], .bool (decide ((0 : Int) < (gn : Nat))), .int .i64 te]) ∧ Sep w w2 (fun _ => False) (Go.Proofs.Ytankfmfenbhkgaa.tape g (l.drop gn) :: L') := by
    intro w' L' g H; rw [htk, htc, htn, hta, hts, htf, hte, ← hok.1, hgn]; exact admtake_calls H hb1 hL
  have HRt : ∀ {w' : World} {L' : List Asr}, Sep w w' (fun _ => False) L' → Calls Try.prog 13 #[.slice A1 n1 c1] w' fun e w2 => e = .returned (.tuple #[.agg #[.int .i64 tk, .int .u64 tc, .string tn, .string ta, .int .u64 ts, .bool tf], .int .i64 (gn : Nat), .int .i64 te]) ∧ Sep w w2 (fun _ => False) L' := by
    intro w' L' H; rw [htk, htc, htn, hta, hts, htf, hte, hgn]; exact ref24take_calls H (hR _) hb1 hc1 (by omega)
  clear htk htc htn hta hts htf hte hgn
  obtain ⟨l2, hl2⟩ : ∃ l2, l2 = l.drop gn := ⟨_, rfl⟩
  have hz : (n1 : Int) - gn = l2.length := by rw [hl2, List.length_drop]; have := hok.2; omega
  have hwz : IntKind.i64.wrap ((n1 : Int) - gn) = l2.length := by rw [hz, IntKind.wrap_i64]; omega
  rw [← hl2] at HTk
  have H1 := hid @HPut
  have H2 := hid @HRef
  have H3 := hid @HTk
  have H4 := hid @HRt
  have H5 := hid hR
  have H6 := hid hb1
  have H7 := hid hn1
  have H8 := hid hXl
  clear HPut HRef HTk HRt hR hb1 hn1 hok hl2 hz k0 k1 ck0 ck1 z0 z1 hn ha hXl
  go_enter Try.func3, Try.ntmps3
  go_wp2_with fail
  refine (H1.out HSb).mono ?_
  rintro e w1 ⟨A2, c2, rfl, HS1⟩
  have r0 := HS1.up1.blk_at 0 rfl
  have r1 := HS1.up1.blk_at 1 rfl
  have r2 := HS1.up1.blk_at 2 rfl
  have r3 := HS1.up1.blk_at 3 rfl
  have r4 := HS1.up1.blk_at 4 rfl
  have r5 := HS1.up1.blk_at 5 rfl
  go_wp2_with fail
  refine (H2.out HS1).mono ?_
  rintro e w2 ⟨A3, c3, rfl, HS2⟩
  clear r0 r1 r2 r3 r4 r5
  have hs1 := run_str (P := Try.prog) (c := c2) (Rb.i1.read HS2) 25 9 5 Try.underlying25 Try.underlying5 Try.underlying9
  have hs2 := run_str (P := Try.prog) (c := c3) (Rb.i0.read HS2) 25 9 5 Try.underlying25 Try.underlying5 Try.underlying9
  generalize strOfNums X = sx at hs1 hs2
  go_wp2_with fail
  refine (ltape_calls HS2 (H5.out _) hL).mono ?_
  rintro e w3 ⟨g3, rfl, HS3⟩
  clear hs1 hs2
  go_wp2_with fail
  refine (H3.out HS3).mono ?_
  rintro e w4 ⟨rfl, HS4⟩
  have HS5 := HS4.alloc #[.int .i64 tk, .int .u64 tc, .string tn, .string ta, .int .u64 ts, .bool tf] 24
  go_wp2_with fail
  refine (H4.out HS5).mono ?_
  rintro e w6 ⟨rfl, HS6⟩
  have HS7 := HS6.alloc #[.int .i64 tk, .int .u64 tc, .string tn, .string ta, .int .u64 ts, .bool tf] 24
  have r0 := HS7.up1.blk_at 0 rfl
  have r1 := HS7.up1.blk_at 1 rfl
  have r2 := HS7.up1.blk_at 2 rfl
  have r3 := HS7.up1.blk_at 3 rfl
  have r4 := HS7.up1.blk_at 4 rfl
  have r5 := HS7.up1.blk_at 5 rfl
  go_wp2_with fail
  refine (len_calls HS7.up2).mono ?_
  rintro e w8 ⟨rfl, rfl⟩
  go_wp2_with fail
  refine (wakes_calls HS7).mono ?_
  rintro e w9 ⟨rfl, HS9⟩
  go_wp2
  go_ret
  exact ⟨rfl, HS9.below⟩
end Go.Proofs.Ytankfmfenbhkgaa
