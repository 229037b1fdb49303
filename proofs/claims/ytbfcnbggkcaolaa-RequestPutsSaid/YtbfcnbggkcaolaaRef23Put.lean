/-
  Contracts of cisternref23.Put and PutReply: what request.Put and PutReply do.
-/
import Derived.Test.YtbfcnbggkcaolaaRef22
import Derived.Test.YtbfcnbggkcaolaaReqPut
import Derived.Deep.DeepCutAuto
namespace Go.Proofs.Ytbfcnbggkcaolaa
open Go.RowKit
set_option linter.unusedVariables false
set_option linter.unusedSimpArgs false

section
variable {w0 w : World} {O : Nat → Prop} {L : List Asr} {fl kd ck off len er : Int} {A : Option Addr} {n c : Nat} {d : List Int}

set_option maxHeartbeats 4000000 in
set_option maxRecDepth 100000 in
theorem rput23_bad (HS : Sep w0 w O L) (hn : n = d.length) (hn2 : n ≤ 9223372036854775807) (l0 : 0 ≤ len) (l1 : len < 4294967296) (hbad : reqErr fl kd len d ≠ 0) :
    Calls Try.prog 15 #[reqV fl kd ck off len (.slice A n c)] w fun e w' => e = .returned (.tuple #[.slice none 0 0, .int .i64 (reqErr fl kd len d)]) ∧ Sep w0 w' O L := by
  have HT := hid (fun (a : Array Value) (s : TypeId) => HS.alloc_ (.cells a s))
  obtain ⟨E, hE⟩ : ∃ E, E = reqErr fl kd len d := ⟨_, rfl⟩
  rw [← hE] at hbad ⊢
  have key : (fl < 0 ∧ E = 1) ∨ (¬ fl < 0 ∧ 65535 < fl ∧ E = 1) ∨ (¬ fl < 0 ∧ ¬ 65535 < fl ∧ kd < 0 ∧ E = 1) ∨ (¬ fl < 0 ∧ ¬ 65535 < fl ∧ ¬ kd < 0 ∧ 65535 < kd ∧ E = 1) ∨
      (¬ fl < 0 ∧ ¬ 65535 < fl ∧ ¬ kd < 0 ∧ ¬ 65535 < kd ∧ (kd != 1) = true ∧ (0 : Int) < n ∧ E = 1) ∨
      (¬ fl < 0 ∧ ¬ 65535 < fl ∧ ¬ kd < 0 ∧ ¬ 65535 < kd ∧ kd = 1 ∧ (len != n) = true ∧ E = 1) ∨
      (¬ fl < 0 ∧ ¬ 65535 < fl ∧ ¬ kd < 0 ∧ ¬ 65535 < kd ∧ kd = 1 ∧ len = n ∧ 4096 < (n : Int) ∧ E = 3) := by
    subst hn
    unfold reqErr at hE
    rw [bne_iff_ne, bne_iff_ne]
    split at hE
    · omega
    · split at hE
      · omega
      · omega
  clear hE hbad hn HS
  rcases key with ⟨a1, rfl⟩ | ⟨a1, a2, rfl⟩ | ⟨a1, a2, a3, rfl⟩ | ⟨a1, a2, a3, a4, rfl⟩ | ⟨a1, a2, a3, a4, a5, a6, rfl⟩ | ⟨a1, a2, a3, a4, rfl, a6, rfl⟩ | ⟨a1, a2, a3, a4, rfl, rfl, a7, rfl⟩
  · go_enter Try.func15, Try.ntmps15
    go_wp2
    go_ret2
    exact ⟨rfl, HT.out _ _⟩
  · go_enter Try.func15, Try.ntmps15
    go_wp2
    go_ret2
    exact ⟨rfl, HT.out _ _⟩
  · go_enter Try.func15, Try.ntmps15
    go_wp2
    go_ret2
    exact ⟨rfl, HT.out _ _⟩
  · go_enter Try.func15, Try.ntmps15
    go_wp2
    go_ret2
    exact ⟨rfl, HT.out _ _⟩
  · go_enter Try.func15, Try.ntmps15
    go_wp2
    go_ret2
    exact ⟨rfl, HT.out _ _⟩
  · go_enter Try.func15, Try.ntmps15
    go_wp2
    go_ret2
    exact ⟨rfl, HT.out _ _⟩
  · go_enter Try.func15, Try.ntmps15
    go_wp2
    go_ret2
    exact ⟨rfl, HT.out _ _⟩

set_option maxHeartbeats 8000000 in
theorem rput23_ok (HS : Sep w0 w O L) (hr : Rb w0 O L 1 A n (by8 d)) (l0 : 0 ≤ len) (l1 : len < 4294967296) (ck0 : 0 ≤ ck) (ck1 : ck < 18446744073709551616) (o0 : 0 ≤ off) (o1 : off < 18446744073709551616) (hok : reqErr fl kd len d = 0) :
    Calls Try.prog 15 #[reqV fl kd ck off len (.slice A n c)] w fun e w' => ∃ A' c', e = .returned (.tuple #[.slice A' (28 + n) c', .int .i64 0]) ∧ Sep w0 w' O (own 5 1 A' (28 + n) c' (by8 (reqBytes fl kd ck off len d)) :: L) := by
  have hn := hr.klen HS
  obtain ⟨h1, h2, h3, h4, h5, h6⟩ := reqErr_ok hok
  clear hok
  rw [hn] at h5 h6
  obtain ⟨i0, hi0, hz0, hz1, hz2⟩ := info_parts info_u8
  have HSb := HS.alloc #[.int .i64 fl, .int .i64 kd, .int .u64 ck, .int .u64 off, .int .u32 len, .slice A n c] 26
  have HH : Aside (reqBytes fl kd ck off len d = be 4 627086611 ++ be 2 fl ++ be 2 kd ++ be 8 ck ++ be 8 off ++ be 4 len ++ d) := ⟨rfl⟩
  have a1 : ¬ fl < 0 := by omega
  have a2 : ¬ 65535 < fl := by omega
  have a3 : ¬ kd < 0 := by omega
  have a4 : ¬ 65535 < kd := by omega
  have a7 : ¬ 4096 < (n : Int) := by omega
  have key : (kd = 1 ∧ len = n) ∨ ((kd != 1) = true ∧ (kd == 1) = false ∧ n = 0) := by
    rcases h6 with h | ⟨h, h'⟩
    · exact .inl h
    · exact .inr ⟨bne_iff_ne.2 h, beq_eq_false_iff_ne.2 h, h'⟩
  have s1 : IntKind.u64.wrap fl = fl := by rw [IntKind.wrap_u64]; omega
  have s2 : IntKind.u64.wrap kd = kd := by rw [IntKind.wrap_u64]; omega
  clear h6
  rcases key with ⟨rfl, rfl⟩ | ⟨g1, g2, rfl⟩
  all_goals
    go_enter Try.func15, Try.ntmps15
    go_wp2_with fail
    refine (rbytes_calls (x := 627086611) (s := 4) HSb (by decide) (by decide) (by decide) (by decide)).mono ?_
    rintro e w1 ⟨A1, c1, rfl, HS1⟩
    have k0 := HS1.up1.blk_at 0 rfl
    go_wp2_with fail
    refine (rbytes_calls (s := 2) HS1 (by decide) (by decide) (by omega) (by omega)).mono ?_
    rintro e wx ⟨B, cb, rfl, HB⟩
    clear HS1 k0
    go_upto_region 11 with (at_builtin; go_loud (refine wpList_append_sep rfl (.tmp 49) (.tmp 53) 24 rfl 5 i0 _ 1 1 Try.underlying24 hi0 hz0 hz1 hz2 rfl (by decide) rfl HB.up1 rfl HB.up1.rd1 (kv_one _ _) (by simp only [maxLen]; omega) (by omega) rfl (by8_append _ _) ?_); intro A2 c2 w2 HC hsz)
    have HS2 := HC.up1.drop
    clear HB HC hsz
    rw [show 4 + 2 = 6 from rfl] at HS2
    have k1 := HS2.up1.blk_at 1 rfl
    go_wp2_with fail
    refine (rbytes_calls (s := 2) HS2 (by decide) (by decide) (by omega) (by omega)).mono ?_
    rintro e wx ⟨B, cb, rfl, HB⟩
    clear HS2 k1
    go_upto_region 12 with (at_builtin; go_loud (refine wpList_append_sep rfl (.tmp 55) (.tmp 59) 24 rfl 5 i0 _ 1 1 Try.underlying24 hi0 hz0 hz1 hz2 rfl (by decide) rfl HB.up1 rfl HB.up1.rd1 (kv_one _ _) (by simp only [maxLen]; omega) (by omega) rfl (by8_append _ _) ?_); intro A3 c3 w3 HC hsz)
    have HS3 := HC.up1.drop
    clear HB HC hsz
    rw [show 6 + 2 = 8 from rfl] at HS3
    have k2 := HS3.up1.blk_at 2 rfl
    go_wp2_with fail
    refine (rbytes_calls (s := 8) HS3 (by decide) (by decide) (by omega) (by omega)).mono ?_
    rintro e wx ⟨B, cb, rfl, HB⟩
    clear HS3 k2
    go_upto_region 13 with (at_builtin; go_loud (refine wpList_append_sep rfl (.tmp 61) (.tmp 64) 24 rfl 5 i0 _ 1 1 Try.underlying24 hi0 hz0 hz1 hz2 rfl (by decide) rfl HB.up1 rfl HB.up1.rd1 (kv_one _ _) (by simp only [maxLen]; omega) (by omega) rfl (by8_append _ _) ?_); intro A4 c4 w4 HC hsz)
    have HS4 := HC.up1.drop
    clear HB HC hsz
    rw [show 8 + 8 = 16 from rfl] at HS4
    have k3 := HS4.up1.blk_at 3 rfl
    go_wp2_with fail
    refine (rbytes_calls (s := 8) HS4 (by decide) (by decide) (by omega) (by omega)).mono ?_
    rintro e wx ⟨B, cb, rfl, HB⟩
    clear HS4 k3
    go_upto_region 14 with (at_builtin; go_loud (refine wpList_append_sep rfl (.tmp 66) (.tmp 69) 24 rfl 5 i0 _ 1 1 Try.underlying24 hi0 hz0 hz1 hz2 rfl (by decide) rfl HB.up1 rfl HB.up1.rd1 (kv_one _ _) (by simp only [maxLen]; omega) (by omega) rfl (by8_append _ _) ?_); intro A5 c5 w5 HC hsz)
    have HS5 := HC.up1.drop
    clear HB HC hsz
    rw [show 16 + 8 = 24 from rfl] at HS5
    have k4 := HS5.up1.blk_at 4 rfl
    go_wp2_with fail
    refine (rbytes_calls (s := 4) HS5 (by decide) (by decide) (by omega) (by omega)).mono ?_
    rintro e wx ⟨B, cb, rfl, HB⟩
    clear HS5 k4
    go_upto_region 15 with (at_builtin; go_loud (refine wpList_append_sep rfl (.tmp 71) (.tmp 75) 24 rfl 5 i0 _ 1 1 Try.underlying24 hi0 hz0 hz1 hz2 rfl (by decide) rfl HB.up1 rfl HB.up1.rd1 (kv_one _ _) (by simp only [maxLen]; omega) (by omega) rfl (by8_append _ _) ?_); intro A6 c6 w6 HC hsz)
    have HS6 := HC.up1.drop
    clear HB HC hsz
    rw [show 24 + 4 = 28 from rfl] at HS6
    have k5 := HS6.up1.blk_at 5 rfl
    have hrd := (hr.cons.cons).read HS6
    go_wp2_with (at_builtin; go_loud (refine wpList_append_sep rfl (.tmp 77) (.tmp 79) 24 rfl 5 i0 _ 1 1 Try.underlying24 hi0 hz0 hz1 hz2 rfl (by decide) rfl HS6 rfl hrd (kv_one _ _) (by simp only [maxLen]; omega) (by omega) rfl (by8_append _ _) ?_); intro A9 c9 w9 HS9 hsz9)
    go_ret2
    exact ⟨A9, c9, rfl, by have := HS9.sel 2 [0]; rwa [← HH.out] at this⟩

theorem rput23_calls (HS : Sep w0 w O L) (hr : Rb w0 O L 1 A n (by8 d)) (hn2 : n ≤ 9223372036854775807) (l0 : 0 ≤ len) (l1 : len < 4294967296) (ck0 : 0 ≤ ck) (ck1 : ck < 18446744073709551616) (o0 : 0 ≤ off) (o1 : off < 18446744073709551616) :
    Calls Try.prog 15 #[reqV fl kd ck off len (.slice A n c)] w fun e w' => ∃ A' c', e = .returned (.tuple #[.slice A' (reqOut fl kd ck off len d).length c', .int .i64 (reqErr fl kd len d)]) ∧ Sep w0 w' O (own 5 1 A' (reqOut fl kd ck off len d).length c' (by8 (reqOut fl kd ck off len d)) :: L) := by
  have hn := hr.klen HS
  by_cases h : reqErr fl kd len d = 0
  · have e : reqOut fl kd ck off len d = reqBytes fl kd ck off len d := by unfold reqOut; rw [if_pos h]
    rw [e, reqBytes_len, h, hn]
    exact rput23_ok HS hr l0 l1 ck0 ck1 o0 o1 h
  · have e : reqOut fl kd ck off len d = [] := by unfold reqOut; rw [if_neg h]
    rw [e]
    refine (rput23_bad HS hn.symm hn2 l0 l1 h).mono ?_
    rintro e w' ⟨rfl, HS'⟩
    exact ⟨none, 0, rfl, HS'.nil _ _⟩
end
end Go.Proofs.Ytbfcnbggkcaolaa
