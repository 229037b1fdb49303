/-
  Contracts of request.short, request.Put, request.PutReply.
-/
import Derived.Test.YtbfcnbggkcaolaaReqChk
import Derived.Test.YtbfcnbggkcaolaaTapeAny
import Derived.Test.YtbfcnbggkcaolaaNum
import Derived.RegionTactic
import Derived.Deep.RegionHeld3
namespace Go.Proofs.Ytbfcnbggkcaolaa
open Go.RowKit
set_option linter.unusedVariables false
set_option linter.unusedSimpArgs false

def shortB (k : Int) : Bool := decide (0 ≤ k ∧ k < 65536)
def reqBytes (fl kd ck off len : Int) (d : List Int) : List Int := be 4 627086611 ++ be 2 fl ++ be 2 kd ++ be 8 ck ++ be 8 off ++ be 4 len ++ d
def reqErr (fl kd len : Int) (d : List Int) : Int :=
  if ¬ (0 ≤ fl ∧ fl < 65536) ∨ ¬ (0 ≤ kd ∧ kd < 65536) ∨ (kd ≠ 1 ∧ 0 < d.length) ∨ (kd = 1 ∧ len ≠ d.length) then 1 else if 4096 < d.length then 3 else 0
def reqOut (fl kd ck off len : Int) (d : List Int) : List Int := if reqErr fl kd len d = 0 then reqBytes fl kd ck off len d else []
def repBytes (er ck : Int) (d : List Int) : List Int := be 4 1732535960 ++ be 4 er ++ be 8 ck ++ d
def repErr (er : Int) (d : List Int) : Int := if er ≠ 0 ∧ 0 < d.length then 1 else if 4096 < d.length then 3 else 0
def repOut (er ck : Int) (d : List Int) : List Int := if repErr er d = 0 then repBytes er ck d else []
abbrev repV (er ck : Int) (D : Value) : Value := .agg #[.int .u32 er, .int .u64 ck, D]

theorem short_calls (k : Int) (w : World) : Calls Try.prog 33 #[.int .i64 k] w fun e w' => e = .returned (.bool (shortB k)) ∧ w = w' := by
  by_cases h : 0 ≤ k
  · by_cases h2 : k < 65536
    · rw [show shortB k = true from decide_eq_true ⟨h, h2⟩]
      go_enter Try.func33, Try.ntmps33
      go_wp2
      go_ret
      exact ⟨rfl, rfl⟩
    · rw [show shortB k = false from decide_eq_false fun e => h2 e.2]
      go_enter Try.func33, Try.ntmps33
      go_wp2
      go_ret
      exact ⟨rfl, rfl⟩
  · rw [show shortB k = false from decide_eq_false fun e => h e.1]
    go_enter Try.func33, Try.ntmps33
    go_wp2
    go_ret
    exact ⟨rfl, rfl⟩

section
variable {w0 w : World} {O : Nat → Prop} {L : List Asr} {fl kd ck off len er : Int} {A : Option Addr} {n c : Nat} {d : List Int}

set_option maxHeartbeats 4000000 in
theorem reqput_bad (HS : Sep w0 w O L) (hn : n = d.length) (hn2 : n ≤ 9223372036854775807) (l0 : 0 ≤ len) (l1 : len < 4294967296) (hbad : reqErr fl kd len d ≠ 0) :
    Calls Try.prog 14 #[reqV fl kd ck off len (.slice A n c)] w fun e w' => e = .returned (.tuple #[.slice none 0 0, .int .i64 (reqErr fl kd len d)]) ∧ Sep w0 w' O L := by
  have HT := hid (fun (a : Array Value) (s : TypeId) => HS.alloc_ (.cells a s))
  by_cases h1 : 0 ≤ fl ∧ fl < 65536
  · have s1 := hid (show shortB fl = true from decide_eq_true h1)
    by_cases h2 : 0 ≤ kd ∧ kd < 65536
    · have s2 := hid (show shortB kd = true from decide_eq_true h2)
      by_cases h3 : kd = 1
      · subst h3
        by_cases h4 : len = d.length
        · have e3 : reqErr fl 1 len d = 3 := by
            unfold reqErr at hbad ⊢; rw [if_neg (by omega)] at hbad ⊢; split at hbad
            · rw [if_pos (by assumption)]
            · exact absurd rfl hbad
          have hl : 4096 < n := by unfold reqErr at e3; rw [if_neg (by omega)] at e3; split at e3 <;> omega
          rw [e3]
          have hl' : (len != (n : Int)) = false := by simp [h4, hn]
          clear hbad e3 h1 h2 hn h4
          go_enter Try.func14, Try.ntmps14
          go_wp2_with fail
          refine (short_calls fl _).mono ?_
          rintro e w1 ⟨rfl, rfl⟩
          rw [s1.out]
          go_wp2_with fail
          refine (short_calls 1 _).mono ?_
          rintro e w1 ⟨rfl, rfl⟩
          rw [s2.out]
          go_wp2
          go_ret2
          exact ⟨rfl, HT.out _ _⟩
        · have e1 : reqErr fl 1 len d = 1 := by unfold reqErr; rw [if_pos (by omega)]
          rw [e1]
          have hl' : (len != (n : Int)) = true := by simp; omega
          clear hbad e1 h1 h2 hn h4
          go_enter Try.func14, Try.ntmps14
          go_wp2_with fail
          refine (short_calls fl _).mono ?_
          rintro e w1 ⟨rfl, rfl⟩
          rw [s1.out]
          go_wp2_with fail
          refine (short_calls 1 _).mono ?_
          rintro e w1 ⟨rfl, rfl⟩
          rw [s2.out]
          go_wp2
          go_ret2
          exact ⟨rfl, HT.out _ _⟩
      · have hl : 0 < d.length := by
          rcases Nat.eq_zero_or_pos d.length with h0 | h0
          · exact absurd (by unfold reqErr; rw [if_neg (by omega), if_neg (by omega)]) hbad
          · exact h0
        have e1 : reqErr fl kd len d = 1 := by unfold reqErr; rw [if_pos (by omega)]
        rw [e1]
        have hk : (kd == 1) = false := beq_eq_false_iff_ne.2 h3
        have hn0 : 0 < n := by omega
        clear hbad e1 h1 h2 hn h3 hl
        go_enter Try.func14, Try.ntmps14
        go_wp2_with fail
        refine (short_calls fl _).mono ?_
        rintro e w1 ⟨rfl, rfl⟩
        rw [s1.out]
        go_wp2_with fail
        refine (short_calls kd _).mono ?_
        rintro e w1 ⟨rfl, rfl⟩
        rw [s2.out]
        go_wp2
        go_ret2
        exact ⟨rfl, HT.out _ _⟩
    · have s2 := hid (show shortB kd = false from decide_eq_false h2)
      have e1 : reqErr fl kd len d = 1 := by unfold reqErr; rw [if_pos (by omega)]
      rw [e1]
      clear hbad e1 h1 h2 hn
      go_enter Try.func14, Try.ntmps14
      go_wp2_with fail
      refine (short_calls fl _).mono ?_
      rintro e w1 ⟨rfl, rfl⟩
      rw [s1.out]
      go_wp2_with fail
      refine (short_calls kd _).mono ?_
      rintro e w1 ⟨rfl, rfl⟩
      rw [s2.out]
      go_wp2
      go_ret2
      exact ⟨rfl, HT.out _ _⟩
  · have s1 := hid (show shortB fl = false from decide_eq_false h1)
    have e1 : reqErr fl kd len d = 1 := by unfold reqErr; rw [if_pos (by omega)]
    rw [e1]
    clear hbad e1 h1 hn
    go_enter Try.func14, Try.ntmps14
    go_wp2_with fail
    refine (short_calls fl _).mono ?_
    rintro e w1 ⟨rfl, rfl⟩
    rw [s1.out]
    go_wp2
    go_ret2
    exact ⟨rfl, HT.out _ _⟩
theorem reqErr_ok {fl kd len : Int} {d : List Int} (h : reqErr fl kd len d = 0) : 0 ≤ fl ∧ fl < 65536 ∧ 0 ≤ kd ∧ kd < 65536 ∧ d.length ≤ 4096 ∧ ((kd = 1 ∧ len = d.length) ∨ (kd ≠ 1 ∧ d.length = 0)) := by
  unfold reqErr at h
  split at h
  · cases h
  · split at h
    · cases h
    · omega
theorem reqBytes_len (fl kd ck off len : Int) (d : List Int) : (reqBytes fl kd ck off len d).length = 28 + d.length := by
  simp [reqBytes, be_len]; omega

set_option maxHeartbeats 4000000 in
theorem reqput_ok (HS : Sep w0 w O L) (hr : Rb w0 O L 1 A n (by8 d)) (l0 : 0 ≤ len) (l1 : len < 4294967296) (ck0 : 0 ≤ ck) (ck1 : ck < 18446744073709551616) (o0 : 0 ≤ off) (o1 : off < 18446744073709551616) (hok : reqErr fl kd len d = 0) :
    Calls Try.prog 14 #[reqV fl kd ck off len (.slice A n c)] w fun e w' => ∃ A' c', e = .returned (.tuple #[.slice A' (28 + n) c', .int .i64 0]) ∧ Sep w0 w' O (own 5 1 A' (28 + n) c' (by8 (reqBytes fl kd ck off len d)) :: L) := by
  obtain ⟨i0, hi0, hz0, hz1, hz2⟩ := info_parts info_u8
  have hn := hr.klen HS
  obtain ⟨h1, h1', h2, h2', hl, hk⟩ := reqErr_ok hok
  have s1 := hid (show shortB fl = true from decide_eq_true ⟨h1, h1'⟩)
  have s2 := hid (show shortB kd = true from decide_eq_true ⟨h2, h2'⟩)
  have HSb := HS.alloc #[.int .i64 fl, .int .i64 kd, .int .u64 ck, .int .u64 off, .int .u32 len, .slice A n c] 26
  have hn4 : n ≤ 4096 := by omega
  have ea : ∀ t : List Int, t = reqBytes fl kd ck off len d → True := fun _ _ => trivial
  have key : (kd = 1 ∧ len = (n : Int)) ∨ (kd ≠ 1 ∧ n = 0) := by omega
  have HH := hid (show reqBytes fl kd ck off len d = ((((([] ++ be 4 627086611) ++ be 2 fl) ++ be 2 kd) ++ be 8 ck) ++ be 8 off) ++ be 4 len ++ d by simp [reqBytes])
  clear hk hok hl ea
  rcases key with ⟨rfl, hlen⟩ | ⟨hk, rfl⟩
  · have g1 : (len != (n : Int)) = false := by simp [hlen]
    have g2 : ¬ 4096 < (n : Int) := by omega
    clear hlen
    go_enter Try.func14, Try.ntmps14
    go_wp2_with fail
    refine (short_calls fl _).mono ?_
    rintro e w1 ⟨rfl, rfl⟩
    rw [s1.out]
    go_wp2_with fail
    refine (short_calls 1 _).mono ?_
    rintro e w1 ⟨rfl, rfl⟩
    rw [s2.out]
    go_wp2_with fail
    refine (put_ok (l := []) (s := 4) (x := 627086611) HSb Rb.nil (by decide) (by decide) (by decide) (by decide) (by decide)).mono ?_
    rintro e w1 ⟨A1, c1, rfl, HS1⟩
    have k1 := HS1.up1.blk_at 0 rfl
    rw [Nat.zero_add] at HS1 ⊢
    go_wp2_with fail
    refine (put_ok (s := 2) (x := fl) HS1 Rb.i0 (by decide) (by decide) (by decide) h1 (by omega)).mono ?_
    rintro e w2 ⟨A2, c2, rfl, HS2⟩
    have k2 := HS2.up2.blk_at 1 rfl
    go_wp2_with fail
    refine (put_ok (s := 2) (x := 1) HS2 Rb.i0 (by decide) (by decide) (by decide) (by omega) (by omega)).mono ?_
    rintro e w3 ⟨A3, c3, rfl, HS3⟩
    have k3 := HS3.up3.blk_at 2 rfl
    go_wp2_with fail
    refine (put_ok (s := 8) (x := ck) HS3 Rb.i0 (by decide) (by decide) (by decide) ck0 ck1).mono ?_
    rintro e w4 ⟨A4, c4, rfl, HS4⟩
    have k4 := HS4.up4.blk_at 3 rfl
    go_wp2_with fail
    refine (put_ok (s := 8) (x := off) HS4 Rb.i0 (by decide) (by decide) (by decide) o0 o1).mono ?_
    rintro e w5 ⟨A5, c5, rfl, HS5⟩
    have k5 := HS5.up5.blk_at 4 rfl
    go_wp2_with fail
    refine (put_ok (s := 4) (x := len) HS5 Rb.i0 (by decide) (by decide) (by decide) l0 (by omega)).mono ?_
    rintro e w6 ⟨A6, c6, rfl, HS6⟩
    have k6 := HS6.up6.blk_at 5 rfl
    have hrd := (hr.cons.cons.cons.cons.cons.cons.cons).read HS6
    clear HS1 HS2 HS3 HS4 HS5 k1 k2 k3 k4 k5
    rw [show ((4 : Nat) + 2 + 2 + 8 + 8 + 4) = 28 from rfl] at HS6 ⊢
    go_wp2_with (at_builtin; go_loud (refine wpList_append_sep rfl (.tmp 72) (.tmp 74) 24 rfl 5 i0 _ 1 1 Try.underlying24 hi0 hz0 hz1 hz2 rfl (by decide) rfl HS6 rfl hrd (kv_one _ _) (by simp only [maxLen]; omega) (by omega) rfl (by8_append _ _) ?_); intro A9 c9 w9 HS9 hsz9)
    go_ret2
    exact ⟨A9, c9, rfl, by have := HS9.sel 7 [0]; rwa [← HH.out] at this⟩
  · have g1 : (kd == 1) = false := beq_eq_false_iff_ne.2 hk
    clear hk
    go_enter Try.func14, Try.ntmps14
    go_wp2_with fail
    refine (short_calls fl _).mono ?_
    rintro e w1 ⟨rfl, rfl⟩
    rw [s1.out]
    go_wp2_with fail
    refine (short_calls kd _).mono ?_
    rintro e w1 ⟨rfl, rfl⟩
    rw [s2.out]
    go_wp2_with fail
    refine (put_ok (l := []) (s := 4) (x := 627086611) HSb Rb.nil (by decide) (by decide) (by decide) (by decide) (by decide)).mono ?_
    rintro e w1 ⟨A1, c1, rfl, HS1⟩
    have k1 := HS1.up1.blk_at 0 rfl
    rw [Nat.zero_add] at HS1 ⊢
    go_wp2_with fail
    refine (put_ok (s := 2) (x := fl) HS1 Rb.i0 (by decide) (by decide) (by decide) h1 (by omega)).mono ?_
    rintro e w2 ⟨A2, c2, rfl, HS2⟩
    have k2 := HS2.up2.blk_at 1 rfl
    go_wp2_with fail
    refine (put_ok (s := 2) (x := kd) HS2 Rb.i0 (by decide) (by decide) (by decide) (by omega) (by omega)).mono ?_
    rintro e w3 ⟨A3, c3, rfl, HS3⟩
    have k3 := HS3.up3.blk_at 2 rfl
    go_wp2_with fail
    refine (put_ok (s := 8) (x := ck) HS3 Rb.i0 (by decide) (by decide) (by decide) ck0 ck1).mono ?_
    rintro e w4 ⟨A4, c4, rfl, HS4⟩
    have k4 := HS4.up4.blk_at 3 rfl
    go_wp2_with fail
    refine (put_ok (s := 8) (x := off) HS4 Rb.i0 (by decide) (by decide) (by decide) o0 o1).mono ?_
    rintro e w5 ⟨A5, c5, rfl, HS5⟩
    have k5 := HS5.up5.blk_at 4 rfl
    go_wp2_with fail
    refine (put_ok (s := 4) (x := len) HS5 Rb.i0 (by decide) (by decide) (by decide) l0 (by omega)).mono ?_
    rintro e w6 ⟨A6, c6, rfl, HS6⟩
    have k6 := HS6.up6.blk_at 5 rfl
    have hrd := (hr.cons.cons.cons.cons.cons.cons.cons).read HS6
    clear HS1 HS2 HS3 HS4 HS5 k1 k2 k3 k4 k5
    rw [show ((4 : Nat) + 2 + 2 + 8 + 8 + 4) = 28 from rfl] at HS6 ⊢
    go_wp2_with (at_builtin; go_loud (refine wpList_append_sep rfl (.tmp 72) (.tmp 74) 24 rfl 5 i0 _ 1 1 Try.underlying24 hi0 hz0 hz1 hz2 rfl (by decide) rfl HS6 rfl hrd (kv_one _ _) (by simp only [maxLen]; omega) (by omega) rfl (by8_append _ _) ?_); intro A9 c9 w9 HS9 hsz9)
    go_ret2
    exact ⟨A9, c9, rfl, by have := HS9.sel 7 [0]; rwa [← HH.out] at this⟩
theorem reqput_calls (HS : Sep w0 w O L) (hr : Rb w0 O L 1 A n (by8 d)) (hn2 : n ≤ 9223372036854775807) (l0 : 0 ≤ len) (l1 : len < 4294967296) (ck0 : 0 ≤ ck) (ck1 : ck < 18446744073709551616) (o0 : 0 ≤ off) (o1 : off < 18446744073709551616) :
    Calls Try.prog 14 #[reqV fl kd ck off len (.slice A n c)] w fun e w' => ∃ A' c', e = .returned (.tuple #[.slice A' (reqOut fl kd ck off len d).length c', .int .i64 (reqErr fl kd len d)]) ∧ Sep w0 w' O (own 5 1 A' (reqOut fl kd ck off len d).length c' (by8 (reqOut fl kd ck off len d)) :: L) := by
  have hn := hr.klen HS
  by_cases h : reqErr fl kd len d = 0
  · have e : reqOut fl kd ck off len d = reqBytes fl kd ck off len d := by unfold reqOut; rw [if_pos h]
    rw [e, reqBytes_len, h, hn]
    exact reqput_ok HS hr l0 l1 ck0 ck1 o0 o1 h
  · have e : reqOut fl kd ck off len d = [] := by unfold reqOut; rw [if_neg h]
    rw [e]
    refine (reqput_bad HS hn.symm hn2 l0 l1 h).mono ?_
    rintro e w' ⟨rfl, HS'⟩
    exact ⟨none, 0, rfl, HS'.nil _ _⟩

theorem repErr_ok {er : Int} {d : List Int} (h : repErr er d = 0) : (er = 0 ∨ d.length = 0) ∧ d.length ≤ 4096 := by
  unfold repErr at h
  split at h
  · cases h
  · split at h
    · cases h
    · omega
theorem repBytes_len (er ck : Int) (d : List Int) : (repBytes er ck d).length = 16 + d.length := by
  simp [repBytes, be_len]; omega

set_option maxHeartbeats 1000000 in
theorem repput_bad (HS : Sep w0 w O L) (hn : n = d.length) (hbad : repErr er d ≠ 0) :
    Calls Try.prog 22 #[repV er ck (.slice A n c)] w fun e w' => e = .returned (.tuple #[.slice none 0 0, .int .i64 (repErr er d)]) ∧ Sep w0 w' O L := by
  have HT := hid (fun (a : Array Value) (s : TypeId) => HS.alloc_ (.cells a s))
  by_cases h1 : er = 0
  · have e3 : repErr er d = 3 := by
      unfold repErr at hbad ⊢; rw [if_neg (by omega)] at hbad ⊢; split at hbad
      · rw [if_pos (by assumption)]
      · exact absurd rfl hbad
    have hl : 4096 < n := by unfold repErr at e3; rw [if_neg (by omega)] at e3; split at e3 <;> omega
    rw [e3]
    subst h1
    clear hbad e3 hn
    go_enter Try.func22, Try.ntmps22
    go_wp2
    go_ret2
    exact ⟨rfl, HT.out _ _⟩
  · have r1 : (er != 0) = true := bne_iff_ne.2 h1
    have hl : 0 < n := by
      rcases Nat.eq_zero_or_pos n with h0 | h0
      · exact absurd (by unfold repErr; rw [if_neg (by omega), if_neg (by omega)]) hbad
      · exact h0
    rw [show repErr er d = 1 by unfold repErr; rw [if_pos (by omega)]]
    clear hbad hn h1
    go_enter Try.func22, Try.ntmps22
    go_wp2
    go_ret2
    exact ⟨rfl, HT.out _ _⟩

set_option maxHeartbeats 4000000 in
theorem repput_ok (HS : Sep w0 w O L) (hr : Rb w0 O L 1 A n (by8 d)) (e0 : 0 ≤ er) (e1 : er < 4294967296) (ck0 : 0 ≤ ck) (ck1 : ck < 18446744073709551616) (hok : repErr er d = 0) :
    Calls Try.prog 22 #[repV er ck (.slice A n c)] w fun e w' => ∃ A' c', e = .returned (.tuple #[.slice A' (16 + n) c', .int .i64 0]) ∧ Sep w0 w' O (own 5 1 A' (16 + n) c' (by8 (repBytes er ck d)) :: L) := by
  obtain ⟨i0, hi0, hz0, hz1, hz2⟩ := info_parts info_u8
  have hn := hr.klen HS
  obtain ⟨hk, hl⟩ := repErr_ok hok
  have HSb := HS.alloc #[.int .u32 er, .int .u64 ck, .slice A n c] 51
  have hn4 : n ≤ 4096 := by omega
  have hn4' : ¬ 4096 < (n : Int) := by omega
  have HH := hid (show repBytes er ck d = (([] ++ be 4 1732535960) ++ be 4 er) ++ be 8 ck ++ d by simp [repBytes])
  have key : er = 0 ∨ (er ≠ 0 ∧ n = 0) := by omega
  clear hok hl hk
  have key2 : (er != 0) = false ∨ ((er != 0) = true ∧ ¬ 0 < (n : Int)) := by
    rcases key with h | ⟨h, h'⟩
    · exact .inl (by simp [h])
    · exact .inr ⟨bne_iff_ne.2 h, by omega⟩
  clear key
  have p8 : 8 ≤ 140737488355320 := by decide
  have p81 : 1 ≤ 8 := by decide
  have p88 : 8 ≤ 8 := by decide
  have p9 : 8 + 8 + n ≤ maxLen := by simp only [maxLen]; omega
  have p91 : (8 + 8 + n) * 1 ≤ 140737488355328 := by omega
  rcases key2 with r1 | ⟨r1, r2⟩
  all_goals
    go_enter Try.func22, Try.ntmps22
    go_wp2_with fail
    refine (put_ok (l := []) (s := 4) (x := 1732535960) HSb Rb.nil (by decide) (by decide) (by decide) (by decide) (by decide)).mono ?_
    rintro e w1 ⟨A1, c1, rfl, HS1⟩
    have k1 := HS1.up1.blk_at 0 rfl
    rw [Nat.zero_add] at HS1 ⊢
    go_wp2_with fail
    refine (put_ok (s := 4) HS1 Rb.i0 (by decide) (by decide) (by decide) e0 (by omega)).mono ?_
    rintro e w2 ⟨A2, c2, rfl, HS2⟩
    have k2 := HS2.up2.blk_at 1 rfl
    have k3 := HS2.up2.blk_at 2 rfl
    clear HS1 k1
    go_wp2_with fail
    go_region_held3 (fun w' => w'.cell? ⟨w.heap.size, 1, none⟩ = some (.int .u64 ck) ∧ w'.cell? ⟨w.heap.size, 2, none⟩ = some (.slice A n c)) (first | (exact ⟨HS9.up3.blk_at 1 rfl, HS9.up3.blk_at 2 rfl⟩) | (exact ⟨HS3.up3.blk_at 1 rfl, HS3.up3.blk_at 2 rfl⟩) | (exact ⟨k2, k3⟩))
      (first
        | (go_at_call 34; refine (put_ok (A := A2) (n := 8) (c := c2) (l := [] ++ be 4 1732535960 ++ be 4 er) (s := 8) (x := ck) HS2.drew Rb.i0 p8 p81 p88 ck0 ck1).mono ?_; rintro e w3 ⟨A3, c3, rfl, HS3⟩)
        | (refine step_append_sep (by rfl) (.tmp 29) (.tmp 31) 24 (by rfl) 5 i0 _ 1 1 Try.underlying24 hi0 hz0 hz1 hz2 rfl (by decide) (by rfl) HS3 (by rfl) ((hr.cons.cons.cons.cons).read HS3) (kv_one _ _) p9 p91 rfl (by8_append _ _) ?_; intro A9 c9 w9 HS9 hsz9))
    all_goals
      go_wp2
      go_ret2
      exact ⟨A9, c9, rfl, by have := HS9.sel 4 [0]; rwa [← HH.out] at this⟩

theorem repput_calls (HS : Sep w0 w O L) (hr : Rb w0 O L 1 A n (by8 d)) (e0 : 0 ≤ er) (e1 : er < 4294967296) (ck0 : 0 ≤ ck) (ck1 : ck < 18446744073709551616) :
    Calls Try.prog 22 #[repV er ck (.slice A n c)] w fun e w' => ∃ A' c', e = .returned (.tuple #[.slice A' (repOut er ck d).length c', .int .i64 (repErr er d)]) ∧ Sep w0 w' O (own 5 1 A' (repOut er ck d).length c' (by8 (repOut er ck d)) :: L) := by
  have hn := hr.klen HS
  by_cases h : repErr er d = 0
  · have e : repOut er ck d = repBytes er ck d := by unfold repOut; rw [if_pos h]
    rw [e, repBytes_len, h, hn]
    exact repput_ok HS hr e0 e1 ck0 ck1 h
  · have e : repOut er ck d = [] := by unfold repOut; rw [if_neg h]
    rw [e]
    refine (repput_bad HS hn.symm h).mono ?_
    rintro e w' ⟨rfl, HS'⟩
    exact ⟨none, 0, rfl, HS'.nil _ _⟩
end
end Go.Proofs.Ytbfcnbggkcaolaa
