/-
  Contracts of hello.TakeName; cisternref22.TakeName, PutName.
-/
import Derived.Test.YtgepekailoopeaaInfP
namespace Go.Proofs.Ytgepekailoopeaa
open Go.RowKit
set_option linter.unusedVariables false
set_option linter.unusedSimpArgs false
def tnE (b : List Int) : Int := if b.length < 4 ∨ fN b 0 4 ≠ (b.length : Int) - 4 then 5 else if 20 < b.length then 3 else 0
def tnS (b : List Int) : ByteArray := if tnE b = 0 then strOfNums (b.drop 4) else eStr
section
variable {w0 w : World} {O : Nat → Prop} {L : List Asr}
def TnOut (w0 : World) (O : Nat → Prop) (b : List Int) (L : List Asr) : Ending → World → Prop := fun e w' => e = .returned (.tuple #[.string (tnS b), .int .i64 (tnE b)]) ∧ Sep w0 w' O L
theorem tn_err {b : List Int} {E : Int} {w' : World} (h : tnE b = E) (h' : E ≠ 0) (H : Sep w0 w' O L) : TnOut w0 O b L (.returned (.tuple #[.string eStr, .int .i64 E])) w' := ⟨by unfold tnS; rw [h, if_neg h'], H⟩

set_option maxHeartbeats 4000000 in
set_option maxRecDepth 100000 in
theorem takename_calls {A : Option Addr} {n c : Nat} {d : List Int} (HS : Sep w0 w O L) (hr : Rb w0 O L 1 A n (by8 d)) (hb : Byt d) (hl : n ≤ 140737488355328) :
    Calls Try.prog 55 #[.slice A n c] w (TnOut w0 O d L) := by
  have hn := hr.klen HS
  have HN := hid hn
  have HB := hid hb
  have hbd := fN_bd hb 0 4
  obtain ⟨Q, hQ⟩ : ∃ Q : Ending → World → Prop, Q = TnOut w0 O d L := ⟨_, rfl⟩
  have HQ := hid hQ
  rw [← hQ]
  by_cases h1 : d.length < 4 ∨ (d.length : Int) - 4 < fN d 0 4
  · have hE : Aside (tnE d = 5) := ⟨by unfold tnE; rw [if_pos (by omega)]⟩
    have H := hid h1
    clear h1 hn hb hbd hQ
    go_enter Try.func55, Try.ntmps55
    go_wp2_with fail
    refine (new_calls HS).mono ?_
    rintro e w1 ⟨g, rfl, HS1⟩
    go_wp2_with fail
    refine (push_calls (m := d) HS1 hr (by have := HN.out; simp only [List.length_nil]; omega)).mono ?_
    rintro e w2 ⟨rfl, HS2⟩
    rw [List.nil_append] at HS2
    go_wp2_with fail
    refine (long_no HS2 HB.out (by have := HN.out; omega) H.out).mono ?_
    rintro e w3 ⟨rfl, HS3⟩
    go_wp2
    rw [HQ.out]
    exact tn_err hE.out (by decide) HS3
  obtain ⟨x, hx⟩ : ∃ x : Nat, fN d 0 4 = x := ⟨_, (Int.toNat_of_nonneg hbd.1).symm⟩
  have hxl : 4 + x ≤ d.length := by omega
  have HX := hid (And.intro hx hxl)
  obtain ⟨m, hm⟩ : ∃ m, m = (d.drop (4 + x)).length := ⟨_, rfl⟩
  have HM := hid hm
  have hml : (m : Int) = d.length - (4 + x) := by rw [hm, List.length_drop]; omega
  by_cases h2 : 0 < m
  · have hE : Aside (tnE d = 5) := ⟨by unfold tnE; rw [if_pos (by omega)]⟩
    have k1 : (0 : Int) < m := by omega
    clear h1 hn hb hbd hQ hx hxl hm hml
    go_enter Try.func55, Try.ntmps55
    go_wp2_with fail
    refine (new_calls HS).mono ?_
    rintro e w1 ⟨g, rfl, HS1⟩
    go_wp2_with fail
    refine (push_calls (m := d) HS1 hr (by have := HN.out; simp only [List.length_nil]; omega)).mono ?_
    rintro e w2 ⟨rfl, HS2⟩
    rw [List.nil_append] at HS2
    go_wp2_with fail
    refine (long_ok HS2 HB.out (by have := HN.out; omega) HX.out.1 HX.out.2).mono ?_
    rintro e w3 ⟨A3, c3, rfl, HS3⟩
    go_wp2_with fail
    refine (len_calls HS3.up1).mono ?_
    rintro e w4 ⟨rfl, rfl⟩
    rw [← HM.out]
    go_wp2
    rw [HQ.out]
    exact tn_err hE.out (by decide) (HS3.drop.drop)
  obtain rfl : m = 0 := by omega
  by_cases h16 : 16 < x
  · have hE : Aside (tnE d = 3) := ⟨by unfold tnE; rw [if_neg (by omega), if_pos (by omega)]⟩
    have k1 : (16 : Int) < x := by omega
    clear h1 hn hb hbd hQ hx hxl hm hml h2
    go_enter Try.func55, Try.ntmps55
    go_wp2_with fail
    refine (new_calls HS).mono ?_
    rintro e w1 ⟨g, rfl, HS1⟩
    go_wp2_with fail
    refine (push_calls (m := d) HS1 hr (by have := HN.out; simp only [List.length_nil]; omega)).mono ?_
    rintro e w2 ⟨rfl, HS2⟩
    rw [List.nil_append] at HS2
    go_wp2_with fail
    refine (long_ok HS2 HB.out (by have := HN.out; omega) HX.out.1 HX.out.2).mono ?_
    rintro e w3 ⟨A3, c3, rfl, HS3⟩
    go_wp2_with fail
    refine (len_calls HS3.up1).mono ?_
    rintro e w4 ⟨rfl, rfl⟩
    rw [← HM.out]
    go_wp2
    rw [HQ.out]
    exact tn_err hE.out (by decide) (HS3.drop.drop)
  · have hE : tnE d = 0 := by unfold tnE; rw [if_neg (by omega), if_neg (by omega)]
    have hS : (d.drop 4).take x = d.drop 4 := List.take_of_length_le (by rw [List.length_drop]; omega)
    obtain ⟨s, hs⟩ : ∃ s, s = strOfNums (d.drop 4) := ⟨_, rfl⟩
    have HE : Aside (tnE d = 0 ∧ tnS d = s) := ⟨hE, by unfold tnS; rw [hE, if_pos rfl, hs]⟩
    have HSS := hid (And.intro hS hs)
    have k1 : ¬ (16 : Int) < x := by omega
    clear h1 hn hb hbd hQ hx hxl hm hml h2 hE hS hs
    go_enter Try.func55, Try.ntmps55
    go_wp2_with fail
    refine (new_calls HS).mono ?_
    rintro e w1 ⟨g, rfl, HS1⟩
    go_wp2_with fail
    refine (push_calls (m := d) HS1 hr (by have := HN.out; simp only [List.length_nil]; omega)).mono ?_
    rintro e w2 ⟨rfl, HS2⟩
    rw [List.nil_append] at HS2
    go_wp2_with fail
    refine (long_ok HS2 HB.out (by have := HN.out; omega) HX.out.1 HX.out.2).mono ?_
    rintro e w3 ⟨A3, c3, rfl, HS3⟩
    rw [HSS.out.1] at HS3
    go_wp2_with fail
    refine (len_calls HS3.up1).mono ?_
    rintro e w4 ⟨rfl, rfl⟩
    rw [← HM.out]
    have hcv := run_str (P := Try.prog) (c := c3) (Rb.i0.read HS3) 23 9 5 Try.underlying23 Try.underlying5 Try.underlying9
    rw [← HSS.out.2] at hcv
    go_wp2
    rw [HQ.out]
    refine ⟨?_, HS3.drop.drop⟩
    rw [HE.out.1, HE.out.2]
    rfl

set_option maxHeartbeats 4000000 in
set_option maxRecDepth 100000 in
theorem rtakename_calls {A : Option Addr} {n c : Nat} {d : List Int} (HS : Sep w0 w O L) (hr : Rb w0 O L 1 A n (by8 d)) (hb : Byt d) (hc : n ≤ c) (hl : n ≤ 140737488355328) :
    Calls Try.prog 56 #[.slice A n c] w (TnOut w0 O d L) := by
  have hn := hr.klen HS
  have hbd := fN_bd hb 0 4
  obtain ⟨Q, hQ⟩ : ∃ Q : Ending → World → Prop, Q = TnOut w0 O d L := ⟨_, rfl⟩
  have HQ := hid hQ
  rw [← hQ]
  by_cases h4 : n < 4
  · have hE : Aside (tnE d = 5) := ⟨by unfold tnE; rw [if_pos (by omega)]⟩
    have k1 : (n : Int) < 4 := by omega
    clear hn hbd hQ h4
    go_enter Try.func56, Try.ntmps56
    go_wp2
    rw [HQ.out]
    exact tn_err hE.out (by decide) HS
  obtain ⟨ad, rfl⟩ : ∃ ad, A = some ad := by
    obtain ⟨ad, y, e, _⟩ := hr.elemn HS (j := 0) (by omega)
    exact ⟨ad, e⟩
  have HM := hid (rnum_head (k := 4) (c := c) HS hr hb (by omega) (by decide))
  have k1 : ¬ (n : Int) < 4 := by omega
  have k2 : (4 : Int) ≤ c := by omega
  have k3 : IntKind.u64.wrap ((n : Int) - 4) = n - 4 := by rw [IntKind.wrap_u64]; omega
  have k4 : IntKind.i64.wrap ((n : Int) - 4) = n - 4 := by rw [IntKind.wrap_i64]; omega
  by_cases hx : fN d 0 4 = (n : Int) - 4
  · have k5 : (fN d 0 4 == (n : Int) - 4) = true := by simpa using hx
    have k5' : (fN d 0 4 != (n : Int) - 4) = false := by simpa using hx
    by_cases h20 : 20 < n
    · have hE : Aside (tnE d = 3) := ⟨by unfold tnE; rw [if_neg (by omega), if_pos (by omega)]⟩
      have k6 : (20 : Int) < n := by omega
      generalize fN d 0 4 = x at *
      clear hn hbd hQ h4 hx h20
      go_enter Try.func56, Try.ntmps56
      go_wp2_with fail
      refine HM.out.mono ?_
      rintro e w1 ⟨rfl, rfl⟩
      go_wp2
      rw [HQ.out]
      exact tn_err hE.out (by decide) HS
    · have hE : tnE d = 0 := by unfold tnE; rw [if_neg (by omega), if_neg (by omega)]
      have k6 : ¬ (20 : Int) < n := by omega
      obtain ⟨s, hs⟩ : ∃ s, s = strOfNums (d.drop 4) := ⟨_, rfl⟩
      have HE : Aside (tnE d = 0 ∧ tnS d = s) := ⟨hE, by unfold tnS; rw [hE, if_pos rfl, hs]⟩
      obtain ⟨DA, hDA⟩ : ∃ DA : Option Addr, (if c = 4 then some ad else some ⟨ad.block, ad.off + 4, none⟩) = DA := ⟨_, rfl⟩
      have hcut := hr.ktail hn (j := 4) (cap := c) (by omega) hc
      rw [Option.map_some, show ad.add 4 = ⟨ad.block, ad.off + 4, none⟩ by unfold Addr.add; rw [if_neg (by omega)], hDA] at hcut
      have hcv := run_str (P := Try.prog) (c := c - 4) (hcut.read HS) 23 9 5 Try.underlying23 Try.underlying5 Try.underlying9
      rw [← hs] at hcv
      have k7 : (4 : Int) ≤ n := by omega
      generalize fN d 0 4 = x at *
      clear hn hbd hQ h4 hx h20 hE hs hcut
      go_enter Try.func56, Try.ntmps56
      go_wp2_with fail
      refine HM.out.mono ?_
      rintro e w1 ⟨rfl, rfl⟩
      go_wp2
      rw [HQ.out]
      refine ⟨?_, HS⟩
      rw [HE.out.1, HE.out.2]
      rfl
  · have hE : Aside (tnE d = 5) := ⟨by unfold tnE; rw [if_pos (by omega)]⟩
    have k5 : (fN d 0 4 != (n : Int) - 4) = true := by simpa using hx
    have k5' : (fN d 0 4 == (n : Int) - 4) = false := by simpa using hx
    generalize fN d 0 4 = x at *
    clear hn hbd hQ h4 hx
    go_enter Try.func56, Try.ntmps56
    go_wp2_with fail
    refine HM.out.mono ?_
    rintro e w1 ⟨rfl, rfl⟩
    go_wp2
    rw [HQ.out]
    exact tn_err hE.out (by decide) HS

set_option maxHeartbeats 4000000 in
set_option maxRecDepth 100000 in
theorem rputname_calls {nm : ByteArray} (HS : Sep w0 w O L) :
    Calls Try.prog 54 #[.string nm] w fun e w' => ∃ A c, e = .returned (.tuple #[.slice A (nameB nm).length c, .int .i64 (nameE nm)]) ∧ Sep w0 w' O (own 5 1 A (nameB nm).length c (by8 (nameB nm)) :: L) := by
  obtain ⟨i0, hi0, hz0, hz1, hz2⟩ := info_parts info_u8
  by_cases h : 16 < nm.size
  · have e1 : nameB nm = [] := by unfold nameB; rw [if_pos h]
    have e2 : nameE nm = 3 := by unfold nameE; rw [if_pos h]
    rw [e1, e2]
    have i16 : 16 < (nm.size : Int) := by omega
    clear e1 e2 h
    go_enter Try.func54, Try.ntmps54
    go_wp2
    go_ret2
    exact ⟨none, 0, rfl, HS.nil _ _⟩
  · have e1 : nameB nm = be 4 (nm.size : Int) ++ strInts nm := by unfold nameB; rw [if_neg h]
    have e2 : nameE nm = 0 := by unfold nameE; rw [if_neg h]
    have e3 : (be 4 (nm.size : Int) ++ strInts nm).length = 4 + nm.size := by rw [List.length_append, be_len, strInts_len]
    rw [e1, e2, e3]
    have i16 : ¬ 16 < (nm.size : Int) := by omega
    have y1 : IntKind.u64.wrap (nm.size : Int) = nm.size := by rw [IntKind.wrap_u64]; omega
    have h1 : 4 + nm.size ≤ maxLen := by simp only [maxLen]; omega
    have h2 : 4 + nm.size ≤ 140737488355328 := by omega
    clear e1 e2 e3
    go_enter Try.func54, Try.ntmps54
    go_wp2_with fail
    refine (rbytes_calls (x := (nm.size : Int)) (s := 4) HS (by decide) (by decide) (by omega) (by omega)).mono ?_
    rintro e w1 ⟨A1, c1, rfl, HS1⟩
    go_wp2_with (at_builtin; go_loud (refine wpList_append_sep_str rfl (.tmp 10) (.tmp 11) 23 9 rfl 5 i0 Try.underlying23 Try.underlying9 hi0 hz0 hz1 hz2 rfl HS1 rfl h1 h2 rfl rfl ?_); intro A5 c5 w5 HS5 hsz5)
    go_ret2
    refine ⟨A5, c5, rfl, ?_⟩
    have e9 : by8 (be 4 (nm.size : Int) ++ strInts nm) = by8 (be 4 (nm.size : Int)) ++ Lib.strCells nm := by rw [strInts_cells, by8_append]
    rw [e9]
    exact HS5
end
end Go.Proofs.Ytgepekailoopeaa
