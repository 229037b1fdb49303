/-
  Contracts of hello.Greet, PutFlags, other, Greeted, TakeFlags; cisternref22.Greet, Greeted.
-/
import Derived.Test.YtgepekailoopeaaHel0
namespace Go.Proofs.Ytgepekailoopeaa
open Go.RowKit
set_option linter.unusedVariables false
set_option linter.unusedSimpArgs false
abbrev mGr : Int := 5639144782019643715
abbrev mOp : Int := 5280542401877725268
abbrev mRe : Int := 1100100111001001
def greetL (fl : Int) : List Int := be 8 mGr ++ be 8 mOp ++ be 2 fl
def otherAt (l : List Int) (a : Nat) (magic : Int) : Bool := decide (a + 8 ≤ l.length ∧ fN l a 8 ≠ magic)
def grN (l : List Int) : Nat := if otherAt l 0 mGr || otherAt l 8 mOp then 0 else if l.length < 18 then 0 else 18
def grE (l : List Int) : Int := if otherAt l 0 mGr || otherAt l 8 mOp then 33 else 0
def grF (l : List Int) : Int := if otherAt l 0 mGr || otherAt l 8 mOp then 0 else if l.length < 18 then 0 else fN l 16 2
def tfN (l : List Int) : Nat := if l.length < 4 then 0 else 4
def tfF (l : List Int) : Int := if l.length < 4 then 0 else fN l 0 4
section
variable {w0 w : World} {O : Nat → Prop} {L : List Asr}

set_option maxHeartbeats 1000000 in
theorem greet_calls {fl : Int} (HS : Sep w0 w O L) (f0 : 0 ≤ fl) (f1 : fl < 65536) :
    Calls Try.prog 36 #[.int .u16 fl] w fun e w' => ∃ A' c', e = .returned (.slice A' 18 c') ∧ Sep w0 w' O (own 5 1 A' 18 c' (by8 (greetL fl)) :: L) := by
  have y : IntKind.u64.wrap fl = fl := by rw [IntKind.wrap_u64]; omega
  go_enter Try.func36, Try.ntmps36
  go_wp2_with fail
  refine (put_ok (l := []) (x := mGr) (s := 8) HS Rb.nil (by decide) (by decide) (by decide) (by decide) (by decide)).mono ?_
  rintro e w1 ⟨A1, c1, rfl, HS1⟩
  go_wp2_with fail
  refine (put_ok (x := mOp) (s := 8) HS1 Rb.i0 (by decide) (by decide) (by decide) (by decide) (by decide)).mono ?_
  rintro e w2 ⟨A2, c2, rfl, HS2⟩
  go_wp2_with fail
  refine (put_ok (x := fl) (s := 2) HS2 Rb.i0 (by decide) (by decide) (by decide) f0 (by omega)).mono ?_
  rintro e w3 ⟨A3, c3, rfl, HS3⟩
  go_wp2
  go_ret
  exact ⟨A3, c3, rfl, HS3.sel 3 [0]⟩

theorem putflags_calls {fl : Int} (HS : Sep w0 w O L) (f0 : 0 ≤ fl) (f1 : fl < 4294967296) :
    Calls Try.prog 38 #[.int .u32 fl] w fun e w' => ∃ A' c', e = .returned (.slice A' 4 c') ∧ Sep w0 w' O (own 5 1 A' 4 c' (by8 (be 4 fl)) :: L) := by
  have y : IntKind.u64.wrap fl = fl := by rw [IntKind.wrap_u64]; omega
  go_enter Try.func38, Try.ntmps38
  go_wp2_with fail
  refine (put_ok (l := []) (x := fl) (s := 4) HS Rb.nil (by decide) (by decide) (by decide) f0 (by omega)).mono ?_
  rintro e w3 ⟨A3, c3, rfl, HS3⟩
  go_wp2
  go_ret
  exact ⟨A3, c3, rfl, HS3⟩

set_option maxHeartbeats 1000000 in
theorem rgreet_calls {fl : Int} (HS : Sep w0 w O L) (f0 : 0 ≤ fl) (f1 : fl < 65536) :
    Calls Try.prog 37 #[.int .u16 fl] w fun e w' => ∃ A' c', e = .returned (.slice A' 18 c') ∧ Sep w0 w' O (own 5 1 A' 18 c' (by8 (greetL fl)) :: L) := by
  have y : IntKind.u64.wrap fl = fl := by rw [IntKind.wrap_u64]; omega
  obtain ⟨i0, hi0, hz0, hz1, hz2⟩ := info_parts info_u8
  go_enter Try.func37, Try.ntmps37
  go_wp2_with fail
  refine (rbytes_calls (x := mGr) (s := 8) HS (by decide) (by decide) (by decide) (by decide)).mono ?_
  rintro e w1 ⟨A1, c1, rfl, HS1⟩
  go_wp2_with fail
  refine (rbytes_calls (x := mOp) (s := 8) HS1 (by decide) (by decide) (by decide) (by decide)).mono ?_
  rintro e w2 ⟨A2, c2, rfl, HS2⟩
  have HT := HS2.up1
  go_wp2_with (at_builtin; go_loud (refine wpList_append_sep rfl (.tmp 4) (.tmp 5) 23 rfl 5 i0 _ 1 1 Try.underlying23 hi0 hz0 hz1 hz2 rfl (by decide) rfl HT rfl HT.rd1 (by8_one _) (by decide) (by decide) rfl (by8_append _ _) ?_); intro A3 c3 w3 HS3 hsz3)
  refine (rbytes_calls (x := fl) (s := 2) HS3 (by decide) (by decide) f0 (by omega)).mono ?_
  rintro e w4 ⟨A4, c4, rfl, HS4⟩
  have HU := HS4.up1
  go_wp2_with (at_builtin; go_loud (refine wpList_append_sep rfl (.tmp 7) (.tmp 10) 23 rfl 5 i0 _ 1 1 Try.underlying23 hi0 hz0 hz1 hz2 rfl (by decide) rfl HU rfl HU.rd1 (by8_one _) (by decide) (by decide) rfl (by8_append _ _) ?_); intro A5 c5 w5 HS5 hsz5)
  go_ret
  exact ⟨A5, c5, rfl, HS5.sel 3 [0]⟩

set_option maxHeartbeats 2000000 in
theorem other_calls {g a : Nat} {l : List Int} {magic : Int} (ha : a ≤ 8) (HS : Sep w0 w O (Go.Proofs.Ytgepekailoopeaa.tape g l :: L)) (hb : Byt l) (hl : l.length ≤ 140737488355328) :
    Calls Try.prog 73 #[.pointer (some ⟨g, 0, none⟩), .int .i64 a, .int .u64 magic] w fun e w' => e = .returned (.bool (otherAt l a magic)) ∧ Sep w0 w' O (Go.Proofs.Ytgepekailoopeaa.tape g l :: L) := by
  have y : IntKind.i64.wrap ((a : Int) + 8) = a + 8 := by rw [IntKind.wrap_i64]; omega
  by_cases h8 : a + 8 ≤ l.length
  · have hB : otherAt l a magic = !(fN l a 8 == magic) := by
      unfold otherAt
      by_cases h : fN l a 8 = magic
      · rw [decide_eq_false fun e => e.2 h]; simp [h]
      · rw [decide_eq_true ⟨h8, h⟩]; simp [h]
    rw [hB]
    have hak : askL false l ((a : Int) + 8) = ⟨true, l.take (a + 8), l⟩ := by
      unfold askL
      rw [if_pos (by omega), show ((a : Int) + 8).toNat = a + 8 by omega]
      rfl
    have hlen : (l.take (a + 8)).length = a + 8 := by rw [List.length_take]; omega
    have hnum : num (((l.take (a + 8)).drop a).take 8) = fN l a 8 := by
      unfold fN
      rw [List.drop_take, show a + 8 - a = 8 by omega, List.take_take, Nat.min_self]
    have HK := hid hak
    have HNM := hid hnum
    clear hB hak hnum
    go_enter Try.func73, Try.ntmps73
    go_wp2_with fail
    refine (peek_any (m := (a : Int) + 8) HS hl).mono ?_
    rintro e w1 ⟨A1, c1, rfl, HS1⟩
    rw [HK.out] at HS1 ⊢
    dsimp only at HS1 ⊢
    rw [hlen] at HS1 ⊢
    have hle := own_le HS1
    obtain ⟨g1, rfl⟩ := HS1.own_some (by omega)
    have ca : ¬ c1 = a := by omega
    have k1 : (a : Int) ≤ c1 := by omega
    have k2 : (a : Int) ≤ a + 8 := by omega
    have hrp := (Rb.i0 (w0 := w0) (O := O) (L := Go.Proofs.Ytgepekailoopeaa.tape g l :: L) (e := 5) (size := 1) (A := some ⟨g1, 0, none⟩) (n := a + 8) (k := c1) (xs := by8 (l.take (a + 8)))).ktail hlen (j := a) (cap := c1) (by omega) hle
    rw [if_neg ca, Option.map_some, show a + 8 - a = 8 by omega] at hrp
    have k3 : a + 8 - a = 8 := by omega
    obtain ⟨ad2, had⟩ : ∃ x, (⟨g1, 0, none⟩ : Addr).add a = x := ⟨_, rfl⟩
    rw [had] at hrp
    have had' : (⟨g1, a, none⟩ : Addr) = ad2 := by rw [← had, add_at]
    go_wp2_with fail
    refine (get_ok (s := 8) HS1 hrp ((hb.take _).drop _) (by omega) (by decide) (by decide) (by decide)).mono ?_
    rintro e w2 ⟨rfl, rfl⟩
    rw [HNM.out]
    go_wp2
    go_ret
    exact ⟨rfl, HS1.drop⟩
  · have hB : otherAt l a magic = false := by unfold otherAt; exact decide_eq_false fun e => h8 e.1
    rw [hB]
    have hak : askL false l ((a : Int) + 8) = ⟨false, [], l⟩ := by
      unfold askL
      rw [if_neg (by omega)]
    have HK := hid hak
    clear hB hak
    go_enter Try.func73, Try.ntmps73
    go_wp2_with fail
    refine (peek_any (m := (a : Int) + 8) HS hl).mono ?_
    rintro e w1 ⟨A1, c1, rfl, HS1⟩
    rw [HK.out] at HS1 ⊢
    go_wp2
    go_ret
    exact ⟨rfl, HS1.drop⟩
end
end Go.Proofs.Ytgepekailoopeaa
