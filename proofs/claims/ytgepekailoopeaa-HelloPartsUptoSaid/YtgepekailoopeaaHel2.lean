/-
  Contracts of hello.Greeted, TakeFlags; cisternref22.Greeted.
-/
import Derived.Test.YtgepekailoopeaaHel1
namespace Go.Proofs.Ytgepekailoopeaa
open Go.RowKit
set_option linter.unusedVariables false
set_option linter.unusedSimpArgs false
section
variable {w0 w : World} {O : Nat → Prop} {L : List Asr}

set_option maxHeartbeats 2000000 in
theorem greeted_calls {g : Nat} {l : List Int} (HS : Sep w0 w O (Go.Proofs.Ytgepekailoopeaa.tape g l :: L)) (hb : Byt l) (hl : l.length ≤ 140737488355328) :
    Calls Try.prog 32 #[.pointer (some ⟨g, 0, none⟩)] w fun e w' => e = .returned (.tuple #[.int .u16 (grF l), .bool (decide ((0 : Int) < (grN l : Nat))), .int .i64 (grE l)]) ∧ Sep w0 w' O (Go.Proofs.Ytgepekailoopeaa.tape g (l.drop (grN l)) :: L) := by
  have HB := hid hb
  have o1 : ∀ {w : World} {L : List Asr}, Sep w0 w O (Go.Proofs.Ytgepekailoopeaa.tape g l :: L) → Calls Try.prog 73 #[.pointer (some ⟨g, 0, none⟩), .int .i64 0, .int .u64 mGr] w fun e w' => e = .returned (.bool (otherAt l 0 mGr)) ∧ Sep w0 w' O (Go.Proofs.Ytgepekailoopeaa.tape g l :: L) := fun H => other_calls (a := 0) (by decide) H hb hl
  have o2 : ∀ {w : World} {L : List Asr}, Sep w0 w O (Go.Proofs.Ytgepekailoopeaa.tape g l :: L) → Calls Try.prog 73 #[.pointer (some ⟨g, 0, none⟩), .int .i64 8, .int .u64 mOp] w fun e w' => e = .returned (.bool (otherAt l 8 mOp)) ∧ Sep w0 w' O (Go.Proofs.Ytgepekailoopeaa.tape g l :: L) := fun H => other_calls (a := 8) (by decide) H hb hl
  have O1 := hid @o1
  have O2 := hid @o2
  clear o1 o2 hb
  cases h1 : otherAt l 0 mGr
  · cases h2 : otherAt l 8 mOp
    · by_cases h18 : l.length < 18
      · have e1 := numL_no (b := true) (l := l) (ss := [8, 8, 2]) (by show l.length < 18; omega)
        rw [show [8, 8, 2].map Int.ofNat = [8, 8, 2] from rfl] at e1
        have E1 := hid e1
        have rE : grE l = 0 := by unfold grE; rw [h1, h2]; rfl
        have rN : grN l = 0 := by unfold grN; rw [h1, h2, if_neg (by decide), if_pos h18]
        have rF : grF l = 0 := by unfold grF; rw [h1, h2, if_neg (by decide), if_pos h18]
        rw [rE, rN, rF]
        rw [h1] at O1
        rw [h2] at O2
        clear e1 rE rN rF h1 h2
        go_enter Try.func32, Try.ntmps32
        go_wp2_with fail
        refine (O1.out HS).mono ?_
        rintro e w1 ⟨rfl, HS1⟩
        go_wp2_with fail
        refine (O2.out HS1).mono ?_
        rintro e w2 ⟨rfl, HS2⟩
        have HL := (HS2.lit #[.int .i64 8, .int .i64 8, .int .i64 2] 3 1 3 rfl (by decide)).up1
        go_wp2_with fail
        refine (numbers_any (zs := [8, 8, 2]) HL Rb.i0 (by decide) HB.out hl).mono ?_
        rintro e w3 ⟨A1, c1, rfl, HS3⟩
        rw [E1.out] at HS3 ⊢
        go_wp2
        go_ret3
        exact ⟨rfl, HS3.up1.sel 3 [0]⟩
      · have e1 := numL_ok (b := true) (l := l) (ss := [8, 8, 2]) (by decide) (by show 18 ≤ l.length; omega)
        have b2 := fN_bd HB.out 16 2
        simp only [show (256 : Int) ^ 2 = 65536 from rfl] at b2
        rw [show [8, 8, 2].map Int.ofNat = [8, 8, 2] from rfl, show cut l [8, 8, 2] = [num (l.take 8), num ((l.drop 8).take 8), fN l 16 2] by simp [cut, fN, List.drop_drop]] at e1
        have rE : grE l = 0 := by unfold grE; rw [h1, h2]; rfl
        have rN : grN l = 18 := by unfold grN; rw [h1, h2, if_neg (by decide), if_neg h18]
        have rF : grF l = fN l 16 2 := by unfold grF; rw [h1, h2, if_neg (by decide), if_neg h18]
        rw [rE, rN, rF]
        rw [h1] at O1
        rw [h2] at O2
        generalize fN l 16 2 = x2 at *
        generalize num (l.take 8) = x0 at *
        generalize num ((l.drop 8).take 8) = x1 at *
        have E1 := hid e1
        have y : IntKind.u16.wrap x2 = x2 := by rw [IntKind.wrap_u16]; omega
        clear e1 rE rN rF h1 h2 b2
        go_enter Try.func32, Try.ntmps32
        go_wp2_with fail
        refine (O1.out HS).mono ?_
        rintro e w1 ⟨rfl, HS1⟩
        go_wp2_with fail
        refine (O2.out HS1).mono ?_
        rintro e w2 ⟨rfl, HS2⟩
        have HL := (HS2.lit #[.int .i64 8, .int .i64 8, .int .i64 2] 3 1 3 rfl (by decide)).up1
        go_wp2_with fail
        refine (numbers_any (zs := [8, 8, 2]) HL Rb.i0 (by decide) HB.out hl).mono ?_
        rintro e w3 ⟨A1, c1, rfl, HS3⟩
        rw [E1.out] at HS3 ⊢
        rw [show ([x0, x1, x2] : List Int).length = 3 from rfl] at HS3 ⊢
        obtain ⟨g1, rfl⟩ := HS3.own_some (by decide)
        have hc : w3.cell? ⟨g1, 2, none⟩ = some (.int .u64 x2) := HS3.kcell (j := 2) (by simp) rfl
        go_wp2
        go_ret3
        exact ⟨rfl, HS3.up1.sel 3 [0]⟩
    · have rE : grE l = 33 := by unfold grE; rw [h1, h2]; rfl
      have rN : grN l = 0 := by unfold grN; rw [h1, h2]; rfl
      have rF : grF l = 0 := by unfold grF; rw [h1, h2]; rfl
      rw [rE, rN, rF]
      rw [h1] at O1
      rw [h2] at O2
      clear rE rN rF h1 h2
      go_enter Try.func32, Try.ntmps32
      go_wp2_with fail
      refine (O1.out HS).mono ?_
      rintro e w1 ⟨rfl, HS1⟩
      go_wp2_with fail
      refine (O2.out HS1).mono ?_
      rintro e w2 ⟨rfl, HS2⟩
      go_wp2
      go_ret3
      exact ⟨rfl, HS2⟩
  · have rE : grE l = 33 := by unfold grE; rw [h1]; rfl
    have rN : grN l = 0 := by unfold grN; rw [h1]; rfl
    have rF : grF l = 0 := by unfold grF; rw [h1]; rfl
    rw [rE, rN, rF]
    rw [h1] at O1
    clear rE rN rF h1
    go_enter Try.func32, Try.ntmps32
    go_wp2_with fail
    refine (O1.out HS).mono ?_
    rintro e w1 ⟨rfl, HS1⟩
    go_wp2
    go_ret3
    exact ⟨rfl, HS1⟩

set_option maxHeartbeats 1000000 in
theorem takeflags_calls {g : Nat} {l : List Int} (HS : Sep w0 w O (Go.Proofs.Ytgepekailoopeaa.tape g l :: L)) (hb : Byt l) (hl : l.length ≤ 140737488355328) :
    Calls Try.prog 34 #[.pointer (some ⟨g, 0, none⟩)] w fun e w' => e = .returned (.tuple #[.int .u32 (tfF l), .bool (decide ((0 : Int) < (tfN l : Nat)))]) ∧ Sep w0 w' O (Go.Proofs.Ytgepekailoopeaa.tape g (l.drop (tfN l)) :: L) := by
  have HL := (HS.lit #[.int .i64 4] 3 1 1 rfl (by decide)).up1
  by_cases h4 : l.length < 4
  · have e1 := numL_no (b := true) (l := l) (ss := [4]) (by show l.length < 4; omega)
    rw [show [4].map Int.ofNat = [4] from rfl] at e1
    have E1 := hid e1
    have rN : tfN l = 0 := by unfold tfN; rw [if_pos h4]
    have rF : tfF l = 0 := by unfold tfF; rw [if_pos h4]
    rw [rN, rF]
    clear e1 rN rF
    go_enter Try.func34, Try.ntmps34
    go_wp2_with fail
    refine (numbers_any (zs := [4]) HL Rb.i0 (by decide) hb hl).mono ?_
    rintro e w3 ⟨A1, c1, rfl, HS3⟩
    rw [E1.out] at HS3 ⊢
    go_wp2
    go_ret2
    exact ⟨rfl, HS3.up1.sel 3 [0]⟩
  · have e1 := numL_ok (b := true) (l := l) (ss := [4]) (by decide) (by show 4 ≤ l.length; omega)
    have b2 := fN_bd hb 0 4
    simp only [show (256 : Int) ^ 4 = 4294967296 from rfl] at b2
    rw [show [4].map Int.ofNat = [4] from rfl, show cut l [4] = [fN l 0 4] by simp [cut, fN]] at e1
    have rN : tfN l = 4 := by unfold tfN; rw [if_neg h4]
    have rF : tfF l = fN l 0 4 := by unfold tfF; rw [if_neg h4]
    rw [rN, rF]
    generalize fN l 0 4 = x2 at *
    have E1 := hid e1
    have y : IntKind.u32.wrap x2 = x2 := by rw [IntKind.wrap_u32]; omega
    clear e1 rN rF b2
    go_enter Try.func34, Try.ntmps34
    go_wp2_with fail
    refine (numbers_any (zs := [4]) HL Rb.i0 (by decide) hb hl).mono ?_
    rintro e w3 ⟨A1, c1, rfl, HS3⟩
    rw [E1.out] at HS3 ⊢
    rw [show ([x2] : List Int).length = 1 from rfl] at HS3 ⊢
    obtain ⟨g1, rfl⟩ := HS3.own_some (by decide)
    have hc : w3.cell? ⟨g1, 0, none⟩ = some (.int .u64 x2) := HS3.kcell (j := 0) (by simp) rfl
    go_wp2
    go_ret2
    exact ⟨rfl, HS3.up1.sel 3 [0]⟩

set_option maxHeartbeats 2000000 in
theorem rgreeted_calls {A : Option Addr} {n c : Nat} {l : List Int} (HS : Sep w0 w O L) (hr : Rb w0 O L 1 A n (by8 l)) (hb : Byt l) (hc : n ≤ c) :
    Calls Try.prog 33 #[.slice A n c] w fun e w' => e = .returned (.tuple #[.int .u16 (grF l), .int .i64 (grN l : Nat), .int .i64 (grE l)]) ∧ w = w' := by
  have hn := hr.klen HS
  by_cases h8 : l.length < 8
  · have h1 : otherAt l 0 mGr = false := by unfold otherAt; exact decide_eq_false fun e => by omega
    have h2 : otherAt l 8 mOp = false := by unfold otherAt; exact decide_eq_false fun e => by omega
    have rE : grE l = 0 := by unfold grE; rw [h1, h2]; rfl
    have rN : grN l = 0 := by unfold grN; rw [h1, h2, if_neg (by decide), if_pos (by omega)]
    have rF : grF l = 0 := by unfold grF; rw [h1, h2, if_neg (by decide), if_pos (by omega)]
    rw [rE, rN, rF]
    have i1 : ¬ (8 : Int) ≤ n := by omega
    have i2 : ¬ (16 : Int) ≤ n := by omega
    have i3 : (n : Int) < 18 := by omega
    clear rE rN rF h1 h2
    go_enter Try.func33, Try.ntmps33
    go_wp2
    go_ret3
    exact ⟨rfl, rfl⟩
  obtain ⟨ad, rfl⟩ : ∃ ad, A = some ad := by
    obtain ⟨ad, y, e, _⟩ := hr.elemn HS (j := 0) (by omega)
    exact ⟨ad, e⟩
  have i1 : (8 : Int) ≤ n := by omega
  have i1c : (8 : Int) ≤ c := by omega
  have q1 : otherAt l 0 mGr = !(fN l 0 8 == mGr) := by
    unfold otherAt
    by_cases h : fN l 0 8 = mGr
    · rw [decide_eq_false fun e => e.2 h]; simp [h]
    · rw [decide_eq_true ⟨by omega, h⟩]; simp [h]
  have HN1 := rnum_head (c := c) (k := 8) HS hr hb (by omega) (by decide)
  cases h1 : otherAt l 0 mGr
  · rw [h1] at q1
    have e1 : (fN l 0 8 == mGr) = true := by simpa using q1.symm
    have e1' : fN l 0 8 = 5639144782019643715 := by simpa using e1
    rw [e1'] at HN1
    by_cases h16 : l.length < 16
    · have h2 : otherAt l 8 mOp = false := by unfold otherAt; exact decide_eq_false fun e => by omega
      have rE : grE l = 0 := by unfold grE; rw [h1, h2]; rfl
      have rN : grN l = 0 := by unfold grN; rw [h1, h2, if_neg (by decide), if_pos (by omega)]
      have rF : grF l = 0 := by unfold grF; rw [h1, h2, if_neg (by decide), if_pos (by omega)]
      rw [rE, rN, rF]
      have i2 : ¬ (16 : Int) ≤ n := by omega
      have i3 : (n : Int) < 18 := by omega
      clear rE rN rF h1 h2 e1 e1' q1
      go_enter Try.func33, Try.ntmps33
      go_wp2_with fail
      refine HN1.mono ?_
      rintro e w1 ⟨rfl, rfl⟩
      go_wp2
      go_ret3
      exact ⟨rfl, rfl⟩
    · have i2 : (16 : Int) ≤ n := by omega
      have i2c : (16 : Int) ≤ c := by omega
      have c8 : ¬ c = 8 := by omega
      have q2 : otherAt l 8 mOp = !(fN l 8 8 == mOp) := by
        unfold otherAt
        by_cases h : fN l 8 8 = mOp
        · rw [decide_eq_false fun e => e.2 h]; simp [h]
        · rw [decide_eq_true ⟨by omega, h⟩]; simp [h]
      have HN2 := rnum_sub (c := c - 8) (o := 8) (k := 8) (m := 16) HS hr hb (by omega) (by rfl)
      cases h2 : otherAt l 8 mOp
      · rw [h2] at q2
        have e2 : (fN l 8 8 == mOp) = true := by simpa using q2.symm
        have e2' : fN l 8 8 = 5280542401877725268 := by simpa using e2
        rw [e2'] at HN2
        by_cases h18 : l.length < 18
        · have rE : grE l = 0 := by unfold grE; rw [h1, h2]; rfl
          have rN : grN l = 0 := by unfold grN; rw [h1, h2, if_neg (by decide), if_pos (by omega)]
          have rF : grF l = 0 := by unfold grF; rw [h1, h2, if_neg (by decide), if_pos (by omega)]
          rw [rE, rN, rF]
          have i3 : (n : Int) < 18 := by omega
          clear rE rN rF h1 h2 e1 e1' q1 e2 e2' q2
          go_enter Try.func33, Try.ntmps33
          go_wp2_with fail
          refine HN1.mono ?_
          rintro e w1 ⟨rfl, rfl⟩
          go_wp2_with fail
          refine HN2.mono ?_
          rintro e w2 ⟨rfl, rfl⟩
          go_wp2
          go_ret3
          exact ⟨rfl, rfl⟩
        · have rE : grE l = 0 := by unfold grE; rw [h1, h2]; rfl
          have rN : grN l = 18 := by unfold grN; rw [h1, h2, if_neg (by decide), if_neg (by omega)]
          have rF : grF l = fN l 16 2 := by unfold grF; rw [h1, h2, if_neg (by decide), if_neg (by omega)]
          have HN3 := rnum_sub (c := c - 16) (o := 16) (k := 2) (m := 18) HS hr hb (by omega) (by rfl)
          rw [rE, rN, rF]
          have b2 := fN_bd hb 16 2
          simp only [show (256 : Int) ^ 2 = 65536 from rfl] at b2
          generalize fN l 16 2 = x2 at *
          have y : IntKind.u16.wrap x2 = x2 := by rw [IntKind.wrap_u16]; omega
          have i3 : ¬ (n : Int) < 18 := by omega
          have i3c : (18 : Int) ≤ c := by omega
          have c16 : ¬ c = 16 := by omega
          clear rE rN rF h1 h2 e1 e1' q1 e2 e2' q2 b2
          go_enter Try.func33, Try.ntmps33
          go_wp2_with fail
          refine HN1.mono ?_
          rintro e w1 ⟨rfl, rfl⟩
          go_wp2_with fail
          refine HN2.mono ?_
          rintro e w2 ⟨rfl, rfl⟩
          go_wp2_with fail
          refine HN3.mono ?_
          rintro e w3 ⟨rfl, rfl⟩
          go_wp2
          go_ret3
          exact ⟨rfl, rfl⟩
      · rw [h2] at q2
        have e2 : (fN l 8 8 == mOp) = false := by simpa using q2.symm
        have rE : grE l = 33 := by unfold grE; rw [h1, h2]; rfl
        have rN : grN l = 0 := by unfold grN; rw [h1, h2]; rfl
        have rF : grF l = 0 := by unfold grF; rw [h1, h2]; rfl
        rw [rE, rN, rF]
        generalize fN l 8 8 = x8 at *
        have e2' : (x8 == 5280542401877725268) = false := e2
        clear rE rN rF h1 h2 e1 e1' q1 e2 q2
        go_enter Try.func33, Try.ntmps33
        go_wp2_with fail
        refine HN1.mono ?_
        rintro e w1 ⟨rfl, rfl⟩
        go_wp2_with fail
        refine HN2.mono ?_
        rintro e w2 ⟨rfl, rfl⟩
        go_wp2
        go_ret3
        exact ⟨rfl, rfl⟩
  · rw [h1] at q1
    have e1 : (fN l 0 8 == mGr) = false := by simpa using q1.symm
    have rE : grE l = 33 := by unfold grE; rw [h1]; rfl
    have rN : grN l = 0 := by unfold grN; rw [h1]; rfl
    have rF : grF l = 0 := by unfold grF; rw [h1]; rfl
    rw [rE, rN, rF]
    generalize fN l 0 8 = x8 at *
    have e1' : (x8 == 5639144782019643715) = false := e1
    clear rE rN rF h1 e1 q1
    go_enter Try.func33, Try.ntmps33
    go_wp2_with fail
    refine HN1.mono ?_
    rintro e w1 ⟨rfl, rfl⟩
    go_wp2
    go_ret3
    exact ⟨rfl, rfl⟩
end
end Go.Proofs.Ytgepekailoopeaa
