/-
  Contracts of hello.PutExport, TakeExport; cisternref22.PutExport, TakeExport.
-/
import Derived.Test.YtgepekailoopeaaHel5
import Derived.Test.YtgepekailoopeaaAppZ
import Derived.Test.YtgepekailoopeaaAt
import Derived.Deep.QuietTactic
import Derived.BigQuiet
namespace Go.Proofs.Ytgepekailoopeaa
open Go.RowKit
set_option linter.unusedVariables false
set_option linter.unusedSimpArgs false
def expL (sz fl : Int) (nn : Bool) : List Int := be 8 sz ++ be 2 fl ++ List.replicate (if nn then 124 else 0) 0
def expH (nn : Bool) : Nat := if nn then 134 else 10
def expN (l : List Int) (nn : Bool) : Nat := if l.length < expH nn then 0 else expH nn
def expS (l : List Int) (nn : Bool) : Int := if l.length < expH nn then 0 else fN l 0 8
def expF (l : List Int) (nn : Bool) : Int := if l.length < expH nn then 0 else fN l 8 2
section
variable {w0 w : World} {O : Nat → Prop} {L : List Asr}

set_option maxHeartbeats 2000000 in
set_option maxRecDepth 100000 in
theorem hPutExport_false {sz fl : Int} (HS : Sep w0 w O L) (z0 : 0 ≤ sz) (z1 : sz < 18446744073709551616) (f0 : 0 ≤ fl) (f1 : fl < 65536) :
    Calls Try.prog 42 #[.int .u64 sz, .int .u16 fl, .bool false] w fun e w' => ∃ A' c', e = .returned (.slice A' 10 c') ∧ Sep w0 w' O (own 5 1 A' 10 c' (by8 (expL sz fl false)) :: L) := by
  have y : IntKind.u64.wrap fl = fl := by rw [IntKind.wrap_u64]; omega
  obtain ⟨i0, hi0, hz0, hz1, hz2⟩ := info_parts info_u8
  have hx : expL sz fl false = be 8 sz ++ be 2 fl ++ List.replicate 0 0 := rfl
  rw [hx]
  clear hx
  go_enter Try.func42, Try.ntmps42
  go_wp2_with fail
  refine (put_ok (l := []) (x := sz) (s := 8) HS Rb.nil (by decide) (by decide) (by decide) z0 z1).mono ?_
  rintro e w1 ⟨A1, c1, rfl, HS1⟩
  go_wp2_with fail
  refine (put_ok (x := fl) (s := 2) HS1 Rb.i0 (by decide) (by decide) (by decide) f0 (by omega)).mono ?_
  rintro e w2 ⟨A2, c2, rfl, HS2⟩
  replace HS2 : Sep w0 w2 O (own 5 1 A2 10 c2 (by8 (be 8 sz ++ be 2 fl)) :: own 5 1 A1 (0 + 8) c1 (by8 ([] ++ be 8 sz)) :: L) := HS2
  go_wp2
  go_ret
  exact ⟨A2, c2, rfl, by simpa using HS2.sel 2 [0]⟩

set_option maxHeartbeats 2000000 in
set_option maxRecDepth 100000 in
theorem rPutExport_false {sz fl : Int} (HS : Sep w0 w O L) (z0 : 0 ≤ sz) (z1 : sz < 18446744073709551616) (f0 : 0 ≤ fl) (f1 : fl < 65536) :
    Calls Try.prog 43 #[.int .u64 sz, .int .u16 fl, .bool false] w fun e w' => ∃ A' c', e = .returned (.slice A' 10 c') ∧ Sep w0 w' O (own 5 1 A' 10 c' (by8 (expL sz fl false)) :: L) := by
  have y : IntKind.u64.wrap fl = fl := by rw [IntKind.wrap_u64]; omega
  obtain ⟨i0, hi0, hz0, hz1, hz2⟩ := info_parts info_u8
  have hx : expL sz fl false = be 8 sz ++ be 2 fl ++ List.replicate 0 0 := rfl
  rw [hx]
  clear hx
  go_enter Try.func43, Try.ntmps43
  go_wp2_with fail
  refine (rbytes_calls (x := sz) (s := 8) HS (by decide) (by decide) z0 z1).mono ?_
  rintro e w1 ⟨A1, c1, rfl, HS1⟩
  go_wp2_with fail
  refine (rbytes_calls (x := fl) (s := 2) HS1 (by decide) (by decide) f0 (by omega)).mono ?_
  rintro e w2 ⟨A2, c2, rfl, HS2⟩
  have HT := HS2.up1
  go_upto_region 4 with (at_builtin; go_loud (refine wpList_append_sep rfl (.tmp 9) (.tmp 12) 23 rfl 5 i0 _ 1 1 Try.underlying23 hi0 hz0 hz1 hz2 rfl (by decide) rfl HT rfl HT.rd1 (by8_one _) (by decide) (by decide) rfl (by8_append _ _) ?_); intro A3 c3 w3 HS3 hsz3)
  replace HS3 : Sep w0 w3 O (own 5 1 A3 10 c3 (by8 (be 8 sz ++ be 2 fl)) :: own 5 1 A2 2 c2 (by8 (be 2 fl)) :: L) := HS3
  go_wp2
  go_ret
  exact ⟨A3, c3, rfl, by simpa using HS3.sel 2 [0]⟩

set_option maxHeartbeats 4000000 in
set_option maxRecDepth 100000 in
theorem hTakeExport_false {g : Nat} {l : List Int} (HS : Sep w0 w O (Go.Proofs.Ytgepekailoopeaa.tape g l :: L)) (hb : Byt l) (hl : l.length ≤ 140737488355328) :
    Calls Try.prog 40 #[.pointer (some ⟨g, 0, none⟩), .bool false] w fun e w' => e = .returned (.tuple #[.int .u64 (expS l false), .int .u16 (expF l false), .bool (decide ((0 : Int) < (expN l false : Nat)))]) ∧ Sep w0 w' O (Go.Proofs.Ytgepekailoopeaa.tape g (l.drop (expN l false)) :: L) := by
  have HL := (HS.lit #[.int .i64 8, .int .i64 2] 3 1 2 rfl (by decide)).up1
  by_cases h10 : l.length < 10
  · have e1 := numL_no (b := false) (l := l) (ss := [8, 2]) (by show l.length < 10; omega)
    rw [show [8, 2].map Int.ofNat = [8, 2] from rfl] at e1
    have rN : expN l false = 0 := by unfold expN; rw [if_pos (show l.length < expH false by show l.length < 10; omega)]
    have rS : expS l false = 0 := by unfold expS; rw [if_pos (show l.length < expH false by show l.length < 10; omega)]
    have rF : expF l false = 0 := by unfold expF; rw [if_pos (show l.length < expH false by show l.length < 10; omega)]
    rw [rN, rS, rF]
    have E1 := hid e1
    clear e1 rN rS rF
    go_enter Try.func40, Try.ntmps40
    go_wp2_with fail
    refine (numbers_any (zs := [8, 2]) HL Rb.i0 (by decide) hb hl).mono ?_
    rintro e w3 ⟨A1, c1, rfl, HS3⟩
    rw [E1.out] at HS3 ⊢
    go_wp2
    go_ret3
    exact ⟨rfl, HS3.up1.sel 3 [0]⟩
  · have e1 := numL_ok (b := false) (l := l) (ss := [8, 2]) (by decide) (by show 10 ≤ l.length; omega)
    rw [show [8, 2].map Int.ofNat = [8, 2] from rfl, show cut l [8, 2] = [fN l 0 8, fN l 8 2] by simp [cut, fN]] at e1
    simp only [Bool.false_eq_true, if_false] at e1
    have b1 := fN_bd hb 8 2
    simp only [show (256 : Int) ^ 2 = 65536 from rfl] at b1
    by_cases hn : l.length < 10
    · exact absurd hn h10
    · have rN : expN l false = 10 := by unfold expN; rw [if_neg (show ¬ l.length < expH false by show ¬ l.length < 10; omega)]; rfl
      have rS : expS l false = fN l 0 8 := by unfold expS; rw [if_neg (show ¬ l.length < expH false by show ¬ l.length < 10; omega)]
      have rF : expF l false = fN l 8 2 := by unfold expF; rw [if_neg (show ¬ l.length < expH false by show ¬ l.length < 10; omega)]
      rw [rN, rS, rF]
      generalize fN l 0 8 = x0 at *
      generalize fN l 8 2 = x1 at *
      have y1 : IntKind.u16.wrap x1 = x1 := by rw [IntKind.wrap_u16]; omega
      have hak : askL true l 10 = ⟨true, l.take 10, l.drop 10⟩ := by unfold askL; rw [if_pos (by omega)]; rfl
      have HK := hid hak
      have E1 := hid e1
      clear e1 rN rS rF hak
      go_enter Try.func40, Try.ntmps40
      go_wp2_with fail
      refine (numbers_any (zs := [8, 2]) HL Rb.i0 (by decide) hb hl).mono ?_
      rintro e w3 ⟨A1, c1, rfl, HS3⟩
      rw [E1.out] at HS3 ⊢
      dsimp only at HS3 ⊢
      rw [show ([x0, x1] : List Int).length = 2 from rfl] at HS3 ⊢
      obtain ⟨g1, rfl⟩ := HS3.own_some (by decide)
      go_wp2_with fail
      refine (take_any (m := 10) HS3.up1 hl).mono ?_
      rintro e w4 ⟨A4, c4, rfl, HS4⟩
      rw [HK.out] at HS4 ⊢
      dsimp only at HS4 ⊢
      have hc0 : w4.cell? ⟨g1, 0, none⟩ = some (.int .u64 x0) := HS4.up2.kcell (j := 0) (by simp) rfl
      have hc1 : w4.cell? ⟨g1, 1, none⟩ = some (.int .u64 x1) := HS4.up2.kcell (j := 1) (by simp) rfl
      go_upto_region 10 with (fail)
      go_quiet (fail)
      go_wp2
      go_ret3
      exact ⟨rfl, (HS4.sel 4 [1]).drewN nq⟩

set_option maxHeartbeats 4000000 in
set_option maxRecDepth 100000 in
theorem rTakeExport_false {A : Option Addr} {n c : Nat} {l : List Int} (HS : Sep w0 w O L) (hr : Rb w0 O L 1 A n (by8 l)) (hb : Byt l) (hc : n ≤ c) :
    Calls Try.prog 41 #[.slice A n c, .bool false] w fun e w' => e = .returned (.tuple #[.int .u64 (expS l false), .int .u16 (expF l false), .int .i64 (expN l false : Nat)]) ∧ Sep w0 w' O L := by
  have hn := hr.klen HS
  by_cases h : l.length < 10
  · have rN : expN l false = 0 := by unfold expN; rw [if_pos (show l.length < expH false by show l.length < 10; omega)]
    have rS : expS l false = 0 := by unfold expS; rw [if_pos (show l.length < expH false by show l.length < 10; omega)]
    have rF : expF l false = 0 := by unfold expF; rw [if_pos (show l.length < expH false by show l.length < 10; omega)]
    rw [rN, rS, rF]
    have i1 : (n : Int) < 10 := by omega
    clear rN rS rF
    go_enter Try.func41, Try.ntmps41
    go_wp2
    go_ret3
    exact ⟨rfl, HS⟩
  · have rN : expN l false = 10 := by unfold expN; rw [if_neg (show ¬ l.length < expH false by show ¬ l.length < 10; omega)]; rfl
    have rS : expS l false = fN l 0 8 := by unfold expS; rw [if_neg (show ¬ l.length < expH false by show ¬ l.length < 10; omega)]
    have rF : expF l false = fN l 8 2 := by unfold expF; rw [if_neg (show ¬ l.length < expH false by show ¬ l.length < 10; omega)]
    obtain ⟨ad, rfl⟩ : ∃ ad, A = some ad := by
      obtain ⟨ad, y, e, _⟩ := hr.elemn HS (j := 0) (by omega)
      exact ⟨ad, e⟩
    have b1 := fN_bd hb 8 2
    simp only [show (256 : Int) ^ 2 = 65536 from rfl] at b1
    have HM0 : ∀ q, Aside (Calls Try.prog 35 #[.slice (some ad) 8 c] (w.drewN q) fun e w' => e = .returned (.int .u64 (fN l 0 8)) ∧ w.drewN q = w') := fun q => hid (rnum_head (k := 8) (HS.drewN q) hr hb (by omega) (by decide))
    have HM1 : ∀ q, Aside (Calls Try.prog 35 #[.slice (some ⟨ad.block, ad.off + 8, none⟩) 2 (c - 8)] (w.drewN q) fun e w' => e = .returned (.int .u64 (fN l 8 2)) ∧ w.drewN q = w') := fun q => hid (rnum_sub (o := 8) (k := 2) (m := 10) (HS.drewN q) hr hb (by omega) (by rfl))
    rw [rN, rS, rF]
    generalize fN l 0 8 = x0 at *
    generalize fN l 8 2 = x1 at *
    have y1 : IntKind.u16.wrap x1 = x1 := by rw [IntKind.wrap_u16]; omega
    have i1 : ¬ (n : Int) < 10 := by omega
    have i2 : (8 : Int) ≤ c := by omega
    have i3 : (10 : Int) ≤ c := by omega
    have i4 : ¬ c = 8 := by omega
    clear rN rS rF b1
    go_enter Try.func41, Try.ntmps41
    go_upto_region 6 with (fail)
    go_quiet (first
      | (go_at_call 35; exact Calls.quiet_of_same (Calls.quiet_at (HM0 _).out (by with_reducible rfl)))
      | (go_at_call 35; exact Calls.quiet_of_same (Calls.quiet_at (HM1 _).out (by with_reducible rfl))))
    go_wp2
    go_ret3
    exact ⟨rfl, HS.drewN nq⟩

set_option maxHeartbeats 2000000 in
set_option maxRecDepth 100000 in
theorem hPutExport_true {sz fl : Int} (HS : Sep w0 w O L) (z0 : 0 ≤ sz) (z1 : sz < 18446744073709551616) (f0 : 0 ≤ fl) (f1 : fl < 65536) :
    Calls Try.prog 42 #[.int .u64 sz, .int .u16 fl, .bool true] w fun e w' => ∃ A' c', e = .returned (.slice A' 134 c') ∧ Sep w0 w' O (own 5 1 A' 134 c' (by8 (expL sz fl true)) :: L) := by
  have y : IntKind.u64.wrap fl = fl := by rw [IntKind.wrap_u64]; omega
  obtain ⟨i0, hi0, hz0, hz1, hz2⟩ := info_parts info_u8
  have hx : expL sz fl true = be 8 sz ++ be 2 fl ++ List.replicate 124 0 := rfl
  rw [hx]
  clear hx
  go_enter Try.func42, Try.ntmps42
  go_wp2_with fail
  refine (put_ok (l := []) (x := sz) (s := 8) HS Rb.nil (by decide) (by decide) (by decide) z0 z1).mono ?_
  rintro e w1 ⟨A1, c1, rfl, HS1⟩
  go_wp2_with fail
  refine (put_ok (x := fl) (s := 2) HS1 Rb.i0 (by decide) (by decide) (by decide) f0 (by omega)).mono ?_
  rintro e w2 ⟨A2, c2, rfl, HS2⟩
  replace HS2 : Sep w0 w2 O (own 5 1 A2 10 c2 (by8 (be 8 sz ++ be 2 fl)) :: own 5 1 A1 (0 + 8) c1 (by8 ([] ++ be 8 sz)) :: L) := HS2
  go_wp2_with (at_builtin; go_loud (refine wpList_append_zeros_sep rfl (.tmp 14) (.const (.int .i64 124)) 23 3 rfl 5 i0 .i64 .i64 Try.underlying23 Try.underlying3 hi0 hz0 hz1 hz2 rfl rfl HS2 (by decide) (by decide) (by decide) ?_); intro A9 c9 w9 HS9 hsz9)
  go_ret
  exact ⟨A9, c9, rfl, HS9.sel 2 [0]⟩

set_option maxHeartbeats 2000000 in
set_option maxRecDepth 100000 in
theorem rPutExport_true {sz fl : Int} (HS : Sep w0 w O L) (z0 : 0 ≤ sz) (z1 : sz < 18446744073709551616) (f0 : 0 ≤ fl) (f1 : fl < 65536) :
    Calls Try.prog 43 #[.int .u64 sz, .int .u16 fl, .bool true] w fun e w' => ∃ A' c', e = .returned (.slice A' 134 c') ∧ Sep w0 w' O (own 5 1 A' 134 c' (by8 (expL sz fl true)) :: L) := by
  have y : IntKind.u64.wrap fl = fl := by rw [IntKind.wrap_u64]; omega
  obtain ⟨i0, hi0, hz0, hz1, hz2⟩ := info_parts info_u8
  have hx : expL sz fl true = be 8 sz ++ be 2 fl ++ List.replicate 124 0 := rfl
  rw [hx]
  clear hx
  go_enter Try.func43, Try.ntmps43
  go_wp2_with fail
  refine (rbytes_calls (x := sz) (s := 8) HS (by decide) (by decide) z0 z1).mono ?_
  rintro e w1 ⟨A1, c1, rfl, HS1⟩
  go_wp2_with fail
  refine (rbytes_calls (x := fl) (s := 2) HS1 (by decide) (by decide) f0 (by omega)).mono ?_
  rintro e w2 ⟨A2, c2, rfl, HS2⟩
  have HT := HS2.up1
  go_upto_region 3 with (at_builtin; go_loud (refine wpList_append_sep rfl (.tmp 9) (.tmp 12) 23 rfl 5 i0 _ 1 1 Try.underlying23 hi0 hz0 hz1 hz2 rfl (by decide) rfl HT rfl HT.rd1 (by8_one _) (by decide) (by decide) rfl (by8_append _ _) ?_); intro A3 c3 w3 HS3 hsz3)
  replace HS3 : Sep w0 w3 O (own 5 1 A3 10 c3 (by8 (be 8 sz ++ be 2 fl)) :: own 5 1 A2 2 c2 (by8 (be 2 fl)) :: L) := HS3
  go_wp2_with (at_builtin; go_loud (refine wpList_append_zeros_sep rfl (.tmp 15) (.const (.int .i64 124)) 23 3 rfl 5 i0 .i64 .i64 Try.underlying23 Try.underlying3 hi0 hz0 hz1 hz2 rfl rfl HS3 (by decide) (by decide) (by decide) ?_); intro A9 c9 w9 HS9 hsz9)
  go_ret
  exact ⟨A9, c9, rfl, HS9.sel 2 [0]⟩

set_option maxHeartbeats 4000000 in
set_option maxRecDepth 100000 in
theorem hTakeExport_true {g : Nat} {l : List Int} (HS : Sep w0 w O (Go.Proofs.Ytgepekailoopeaa.tape g l :: L)) (hb : Byt l) (hl : l.length ≤ 140737488355328) :
    Calls Try.prog 40 #[.pointer (some ⟨g, 0, none⟩), .bool true] w fun e w' => e = .returned (.tuple #[.int .u64 (expS l true), .int .u16 (expF l true), .bool (decide ((0 : Int) < (expN l true : Nat)))]) ∧ Sep w0 w' O (Go.Proofs.Ytgepekailoopeaa.tape g (l.drop (expN l true)) :: L) := by
  have HL := (HS.lit #[.int .i64 8, .int .i64 2] 3 1 2 rfl (by decide)).up1
  by_cases h10 : l.length < 10
  · have e1 := numL_no (b := false) (l := l) (ss := [8, 2]) (by show l.length < 10; omega)
    rw [show [8, 2].map Int.ofNat = [8, 2] from rfl] at e1
    have rN : expN l true = 0 := by unfold expN; rw [if_pos (show l.length < expH true by show l.length < 134; omega)]
    have rS : expS l true = 0 := by unfold expS; rw [if_pos (show l.length < expH true by show l.length < 134; omega)]
    have rF : expF l true = 0 := by unfold expF; rw [if_pos (show l.length < expH true by show l.length < 134; omega)]
    rw [rN, rS, rF]
    have E1 := hid e1
    clear e1 rN rS rF
    go_enter Try.func40, Try.ntmps40
    go_wp2_with fail
    refine (numbers_any (zs := [8, 2]) HL Rb.i0 (by decide) hb hl).mono ?_
    rintro e w3 ⟨A1, c1, rfl, HS3⟩
    rw [E1.out] at HS3 ⊢
    go_wp2
    go_ret3
    exact ⟨rfl, HS3.up1.sel 3 [0]⟩
  · have e1 := numL_ok (b := false) (l := l) (ss := [8, 2]) (by decide) (by show 10 ≤ l.length; omega)
    rw [show [8, 2].map Int.ofNat = [8, 2] from rfl, show cut l [8, 2] = [fN l 0 8, fN l 8 2] by simp [cut, fN]] at e1
    simp only [Bool.false_eq_true, if_false] at e1
    have b1 := fN_bd hb 8 2
    simp only [show (256 : Int) ^ 2 = 65536 from rfl] at b1
    by_cases hn : l.length < 134
    · have rN : expN l true = 0 := by unfold expN; rw [if_pos (show l.length < expH true by show l.length < 134; omega)]
      have rS : expS l true = 0 := by unfold expS; rw [if_pos (show l.length < expH true by show l.length < 134; omega)]
      have rF : expF l true = 0 := by unfold expF; rw [if_pos (show l.length < expH true by show l.length < 134; omega)]
      rw [rN, rS, rF]
      generalize fN l 0 8 = x0 at *
      generalize fN l 8 2 = x1 at *
      have hak : askL true l 134 = ⟨false, [], l⟩ := by unfold askL; rw [if_neg (by omega)]
      have HK := hid hak
      have E1 := hid e1
      clear e1 rN rS rF hak
      go_enter Try.func40, Try.ntmps40
      go_wp2_with fail
      refine (numbers_any (zs := [8, 2]) HL Rb.i0 (by decide) hb hl).mono ?_
      rintro e w3 ⟨A1, c1, rfl, HS3⟩
      rw [E1.out] at HS3 ⊢
      dsimp only at HS3 ⊢
      go_wp2_with fail
      refine (take_any (m := 134) HS3.up1 hl).mono ?_
      rintro e w4 ⟨A4, c4, rfl, HS4⟩
      rw [HK.out] at HS4 ⊢
      dsimp only at HS4 ⊢
      go_wp2
      go_ret3
      exact ⟨rfl, HS4.sel 4 [1]⟩
    · have rN : expN l true = 134 := by unfold expN; rw [if_neg (show ¬ l.length < expH true by show ¬ l.length < 134; omega)]; rfl
      have rS : expS l true = fN l 0 8 := by unfold expS; rw [if_neg (show ¬ l.length < expH true by show ¬ l.length < 134; omega)]
      have rF : expF l true = fN l 8 2 := by unfold expF; rw [if_neg (show ¬ l.length < expH true by show ¬ l.length < 134; omega)]
      rw [rN, rS, rF]
      generalize fN l 0 8 = x0 at *
      generalize fN l 8 2 = x1 at *
      have y1 : IntKind.u16.wrap x1 = x1 := by rw [IntKind.wrap_u16]; omega
      have hak : askL true l 134 = ⟨true, l.take 134, l.drop 134⟩ := by unfold askL; rw [if_pos (by omega)]; rfl
      have HK := hid hak
      have E1 := hid e1
      clear e1 rN rS rF hak
      go_enter Try.func40, Try.ntmps40
      go_wp2_with fail
      refine (numbers_any (zs := [8, 2]) HL Rb.i0 (by decide) hb hl).mono ?_
      rintro e w3 ⟨A1, c1, rfl, HS3⟩
      rw [E1.out] at HS3 ⊢
      dsimp only at HS3 ⊢
      rw [show ([x0, x1] : List Int).length = 2 from rfl] at HS3 ⊢
      obtain ⟨g1, rfl⟩ := HS3.own_some (by decide)
      go_wp2_with fail
      refine (take_any (m := 134) HS3.up1 hl).mono ?_
      rintro e w4 ⟨A4, c4, rfl, HS4⟩
      rw [HK.out] at HS4 ⊢
      dsimp only at HS4 ⊢
      have hc0 : w4.cell? ⟨g1, 0, none⟩ = some (.int .u64 x0) := HS4.up2.kcell (j := 0) (by simp) rfl
      have hc1 : w4.cell? ⟨g1, 1, none⟩ = some (.int .u64 x1) := HS4.up2.kcell (j := 1) (by simp) rfl
      go_upto_region 10 with (fail)
      go_quiet (fail)
      go_wp2
      go_ret3
      exact ⟨rfl, (HS4.sel 4 [1]).drewN nq⟩

set_option maxHeartbeats 4000000 in
set_option maxRecDepth 100000 in
theorem rTakeExport_true {A : Option Addr} {n c : Nat} {l : List Int} (HS : Sep w0 w O L) (hr : Rb w0 O L 1 A n (by8 l)) (hb : Byt l) (hc : n ≤ c) :
    Calls Try.prog 41 #[.slice A n c, .bool true] w fun e w' => e = .returned (.tuple #[.int .u64 (expS l true), .int .u16 (expF l true), .int .i64 (expN l true : Nat)]) ∧ Sep w0 w' O L := by
  have hn := hr.klen HS
  by_cases h : l.length < 134
  · have rN : expN l true = 0 := by unfold expN; rw [if_pos (show l.length < expH true by show l.length < 134; omega)]
    have rS : expS l true = 0 := by unfold expS; rw [if_pos (show l.length < expH true by show l.length < 134; omega)]
    have rF : expF l true = 0 := by unfold expF; rw [if_pos (show l.length < expH true by show l.length < 134; omega)]
    rw [rN, rS, rF]
    have i1 : (n : Int) < 134 := by omega
    clear rN rS rF
    go_enter Try.func41, Try.ntmps41
    go_wp2
    go_ret3
    exact ⟨rfl, HS⟩
  · have rN : expN l true = 134 := by unfold expN; rw [if_neg (show ¬ l.length < expH true by show ¬ l.length < 134; omega)]; rfl
    have rS : expS l true = fN l 0 8 := by unfold expS; rw [if_neg (show ¬ l.length < expH true by show ¬ l.length < 134; omega)]
    have rF : expF l true = fN l 8 2 := by unfold expF; rw [if_neg (show ¬ l.length < expH true by show ¬ l.length < 134; omega)]
    obtain ⟨ad, rfl⟩ : ∃ ad, A = some ad := by
      obtain ⟨ad, y, e, _⟩ := hr.elemn HS (j := 0) (by omega)
      exact ⟨ad, e⟩
    have b1 := fN_bd hb 8 2
    simp only [show (256 : Int) ^ 2 = 65536 from rfl] at b1
    have HM0 : ∀ q, Aside (Calls Try.prog 35 #[.slice (some ad) 8 c] (w.drewN q) fun e w' => e = .returned (.int .u64 (fN l 0 8)) ∧ w.drewN q = w') := fun q => hid (rnum_head (k := 8) (HS.drewN q) hr hb (by omega) (by decide))
    have HM1 : ∀ q, Aside (Calls Try.prog 35 #[.slice (some ⟨ad.block, ad.off + 8, none⟩) 2 (c - 8)] (w.drewN q) fun e w' => e = .returned (.int .u64 (fN l 8 2)) ∧ w.drewN q = w') := fun q => hid (rnum_sub (o := 8) (k := 2) (m := 10) (HS.drewN q) hr hb (by omega) (by rfl))
    rw [rN, rS, rF]
    generalize fN l 0 8 = x0 at *
    generalize fN l 8 2 = x1 at *
    have y1 : IntKind.u16.wrap x1 = x1 := by rw [IntKind.wrap_u16]; omega
    have i1 : ¬ (n : Int) < 134 := by omega
    have i2 : (8 : Int) ≤ c := by omega
    have i3 : (10 : Int) ≤ c := by omega
    have i4 : ¬ c = 8 := by omega
    clear rN rS rF b1
    go_enter Try.func41, Try.ntmps41
    go_upto_region 6 with (fail)
    go_quiet (first
      | (go_at_call 35; exact Calls.quiet_of_same (Calls.quiet_at (HM0 _).out (by with_reducible rfl)))
      | (go_at_call 35; exact Calls.quiet_of_same (Calls.quiet_at (HM1 _).out (by with_reducible rfl))))
    go_wp2
    go_ret3
    exact ⟨rfl, HS.drewN nq⟩
end
end Go.Proofs.Ytgepekailoopeaa
