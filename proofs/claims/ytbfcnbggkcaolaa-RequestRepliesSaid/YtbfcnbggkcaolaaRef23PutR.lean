/-
  Contract of cisternref23.PutReply: what request.PutReply does.
-/
import Derived.Test.YtbfcnbggkcaolaaRef22
import Derived.Test.YtbfcnbggkcaolaaReqPut
import Derived.Deep.DeepCutAuto
namespace Go.Proofs.Ytbfcnbggkcaolaa
open Go.RowKit
set_option linter.unusedVariables false
set_option linter.unusedSimpArgs false

section
variable {w0 w : World} {O : Nat → Prop} {L : List Asr} {er ck : Int} {A : Option Addr} {n c : Nat} {d : List Int}

set_option maxHeartbeats 4000000 in
set_option maxRecDepth 100000 in
theorem rputr23_bad (HS : Sep w0 w O L) (hn : n = d.length) (hbad : repErr er d ≠ 0) :
    Calls Try.prog 23 #[repV er ck (.slice A n c)] w fun e w' => e = .returned (.tuple #[.slice none 0 0, .int .i64 (repErr er d)]) ∧ Sep w0 w' O L := by
  have HT := hid (fun (a : Array Value) (s : TypeId) => HS.alloc_ (.cells a s))
  obtain ⟨E, hE⟩ : ∃ E, E = repErr er d := ⟨_, rfl⟩
  rw [← hE] at hbad ⊢
  have key : ((er != 0) = true ∧ (0 : Int) < n ∧ E = 1) ∨ ((er != 0) = false ∧ 4096 < (n : Int) ∧ E = 3) := by
    subst hn
    unfold repErr at hE
    rw [bne_iff_ne, bne_eq_false_iff_eq]
    split at hE
    · omega
    · split at hE
      · omega
      · omega
  clear hE hbad hn HS
  rcases key with ⟨a1, a2, rfl⟩ | ⟨a1, a2, rfl⟩
  · go_enter Try.func23, Try.ntmps23
    go_wp2
    go_ret2
    exact ⟨rfl, HT.out _ _⟩
  · go_enter Try.func23, Try.ntmps23
    go_wp2
    go_ret2
    exact ⟨rfl, HT.out _ _⟩

set_option maxHeartbeats 8000000 in
theorem rputr23_ok (HS : Sep w0 w O L) (hr : Rb w0 O L 1 A n (by8 d)) (e0 : 0 ≤ er) (e1 : er < 4294967296) (ck0 : 0 ≤ ck) (ck1 : ck < 18446744073709551616) (hok : repErr er d = 0) :
    Calls Try.prog 23 #[repV er ck (.slice A n c)] w fun e w' => ∃ A' c', e = .returned (.tuple #[.slice A' (16 + n) c', .int .i64 0]) ∧ Sep w0 w' O (own 5 1 A' (16 + n) c' (by8 (repBytes er ck d)) :: L) := by
  have hn := hr.klen HS
  obtain ⟨h5, h6⟩ := repErr_ok hok
  clear hok
  rw [hn] at h5 h6
  obtain ⟨i0, hi0, hz0, hz1, hz2⟩ := info_parts info_u8
  have HSb := HS.alloc #[.int .u32 er, .int .u64 ck, .slice A n c] 55
  have HH : Aside (repBytes er ck d = be 4 1732535960 ++ be 4 er ++ be 8 ck ++ d) := ⟨rfl⟩
  have a7 : ¬ 4096 < (n : Int) := by omega
  have key : er = 0 ∨ ((er != 0) = true ∧ n = 0) := by
    by_cases h : er = 0
    · exact .inl h
    · exact .inr ⟨bne_iff_ne.2 h, by omega⟩
  clear h5
  rcases key with rfl | ⟨g1, rfl⟩
  all_goals
    go_enter Try.func23, Try.ntmps23
    go_wp2_with fail
    refine (rbytes_calls (x := 1732535960) (s := 4) HSb (by decide) (by decide) (by decide) (by decide)).mono ?_
    rintro e w1 ⟨A1, c1, rfl, HS1⟩
    have k0 := HS1.up1.blk_at 0 rfl
    go_wp2_with fail
    refine (rbytes_calls (s := 4) HS1 (by decide) (by decide) (by omega) (by omega)).mono ?_
    rintro e wx ⟨B, cb, rfl, HB⟩
    clear HS1 k0
    go_upto_region 7 with (at_builtin; go_loud (refine wpList_append_sep rfl (.tmp 19) (.tmp 23) 24 rfl 5 i0 _ 1 1 Try.underlying24 hi0 hz0 hz1 hz2 rfl (by decide) rfl HB.up1 rfl HB.up1.rd1 (kv_one _ _) (by simp only [maxLen]; omega) (by omega) rfl (by8_append _ _) ?_); intro A2 c2 w2 HC hsz)
    have HS2 := HC.up1.drop
    clear HB HC hsz
    rw [show 4 + 4 = 8 from rfl] at HS2
    have k1 := HS2.up1.blk_at 1 rfl
    go_wp2_with fail
    refine (rbytes_calls (s := 8) HS2 (by decide) (by decide) (by omega) (by omega)).mono ?_
    rintro e wx ⟨B, cb, rfl, HB⟩
    clear HS2 k1
    go_upto_region 8 with (at_builtin; go_loud (refine wpList_append_sep rfl (.tmp 25) (.tmp 28) 24 rfl 5 i0 _ 1 1 Try.underlying24 hi0 hz0 hz1 hz2 rfl (by decide) rfl HB.up1 rfl HB.up1.rd1 (kv_one _ _) (by simp only [maxLen]; omega) (by omega) rfl (by8_append _ _) ?_); intro A3 c3 w3 HC hsz)
    have HS3 := HC.up1.drop
    clear HB HC hsz
    rw [show 8 + 8 = 16 from rfl] at HS3
    have k2 := HS3.up1.blk_at 2 rfl
    have hrd := (hr.cons.cons).read HS3
    go_wp2_with (at_builtin; go_loud (refine wpList_append_sep rfl (.tmp 30) (.tmp 32) 24 rfl 5 i0 _ 1 1 Try.underlying24 hi0 hz0 hz1 hz2 rfl (by decide) rfl HS3 rfl hrd (kv_one _ _) (by simp only [maxLen]; omega) (by omega) rfl (by8_append _ _) ?_); intro A9 c9 w9 HS9 hsz9)
    go_ret2
    exact ⟨A9, c9, rfl, by have := HS9.sel 2 [0]; rwa [← HH.out] at this⟩

theorem rputr23_calls (HS : Sep w0 w O L) (hr : Rb w0 O L 1 A n (by8 d)) (e0 : 0 ≤ er) (e1 : er < 4294967296) (ck0 : 0 ≤ ck) (ck1 : ck < 18446744073709551616) :
    Calls Try.prog 23 #[repV er ck (.slice A n c)] w fun e w' => ∃ A' c', e = .returned (.tuple #[.slice A' (repOut er ck d).length c', .int .i64 (repErr er d)]) ∧ Sep w0 w' O (own 5 1 A' (repOut er ck d).length c' (by8 (repOut er ck d)) :: L) := by
  have hn := hr.klen HS
  by_cases h : repErr er d = 0
  · have e : repOut er ck d = repBytes er ck d := by unfold repOut; rw [if_pos h]
    rw [e, repBytes_len, h, hn]
    exact rputr23_ok HS hr e0 e1 ck0 ck1 h
  · have e : repOut er ck d = [] := by unfold repOut; rw [if_neg h]
    rw [e]
    refine (rputr23_bad HS hn.symm h).mono ?_
    rintro e w' ⟨rfl, HS'⟩
    exact ⟨none, 0, rfl, HS'.nil _ _⟩
end
end Go.Proofs.Ytbfcnbggkcaolaa
