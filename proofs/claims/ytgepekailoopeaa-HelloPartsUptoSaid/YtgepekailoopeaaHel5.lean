/-
  Contracts of hello.Take, TakeReply; cisternref22.whole, own, Take, TakeReply.
-/
import Derived.Test.YtgepekailoopeaaHel4
namespace Go.Proofs.Ytgepekailoopeaa
open Go.RowKit
set_option linter.unusedVariables false
set_option linter.unusedSimpArgs false
/-- the data of what was taken; a number of its head -/
def hlD (l : List Int) (magic : Int) (hd : Nat) : List Int := if hlN l magic hd = 0 then [] else (l.drop hd).take (hlN l magic hd - hd)
def hlX (l : List Int) (magic : Int) (hd o : Nat) : Int := if hlN l magic hd = 0 then 0 else fN l o 4
theorem info_rraw : (Try.prog.info? 25).map (·.size) = some 2 := by kernel_rfl
theorem info_rrep : (Try.prog.info? 27).map (·.size) = some 3 := by kernel_rfl
section
variable {w0 w : World} {O : Nat → Prop} {L : List Asr}

theorem rown_calls {A : Option Addr} {n c : Nat} {d : List Int} (HS : Sep w0 w O L) (hr : Rb w0 O L 1 A n (by8 d)) (hn : n ≤ 140737488355328) :
    Calls Try.prog 67 #[.slice A n c] w fun e w' => ∃ A' c', e = .returned (.slice A' n c') ∧ Sep w0 w' O (own 5 1 A' n c' (by8 d) :: L) := by
  obtain ⟨i0, hi0, hz0, hz1, hz2⟩ := info_parts info_u8
  have HN := HS.nil 5 1
  have hrd := hr.cons.read HN
  go_enter Try.func67, Try.ntmps67
  go_wp2_with (at_builtin; go_loud (refine wpList_append_sep rfl (.tmp 4) (.tmp 5) 23 rfl 5 i0 _ 1 1 Try.underlying23 hi0 hz0 hz1 hz2 rfl (by decide) rfl HN rfl hrd (by8_one _) (by simp only [maxLen]; omega) (by omega) (Nat.zero_add n) (List.nil_append _) ?_); intro A3 c3 w3 HS3 hsz3)
  go_ret
  exact ⟨A3, c3, rfl, HS3⟩

set_option maxHeartbeats 4000000 in
set_option maxRecDepth 100000 in
theorem rwhole16_calls {A : Option Addr} {n c : Nat} {l : List Int} {magic : Int} (HS : Sep w0 w O L) (hr : Rb w0 O L 1 A n (by8 l)) (hb : Byt l) (hc : n ≤ c) :
    Calls Try.prog 66 #[.slice A n c, .int .u64 magic, .int .i64 16] w fun e w' => e = .returned (.tuple #[.int .i64 (hlN l magic 16 : Nat), .int .i64 (hlE l magic 16)]) ∧ w = w' := by
  have hn := hr.klen HS
  by_cases h8 : l.length < 8
  · have h1 : otherAt l 0 magic = false := by unfold otherAt; exact decide_eq_false fun e => by omega
    have rN : hlN l magic 16 = 0 := by unfold hlN; rw [h1, if_neg (by decide), if_pos (by omega)]
    have rE : hlE l magic 16 = 0 := by unfold hlE; rw [h1, if_neg (by decide), if_pos (by omega)]
    rw [rN, rE]
    have i1 : ¬ (8 : Int) ≤ n := by omega
    have i2 : (n : Int) < 16 := by omega
    clear rN rE h1
    go_enter Try.func66, Try.ntmps66
    go_wp2
    go_ret2
    exact ⟨rfl, rfl⟩
  obtain ⟨ad, rfl⟩ : ∃ ad, A = some ad := by
    obtain ⟨ad, y, e, _⟩ := hr.elemn HS (j := 0) (by omega)
    exact ⟨ad, e⟩
  have i1 : (8 : Int) ≤ n := by omega
  have i1c : (8 : Int) ≤ c := by omega
  have q1 : otherAt l 0 magic = !(fN l 0 8 == magic) := by
    unfold otherAt
    by_cases h : fN l 0 8 = magic
    · rw [decide_eq_false fun e => e.2 h]; simp [h]
    · rw [decide_eq_true ⟨by omega, h⟩]; simp [h]
  have HN1 := rnum_head (c := c) (k := 8) HS hr hb (by omega) (by decide)
  rcases hl_cases hb magic (hd := 16) (by decide) with ⟨rN, ⟨h1, rE⟩ | ⟨h1, h2⟩⟩ | ⟨h1, rE, x, hx, h3, h4, rN⟩
  · rw [h1] at q1
    have e1 : (fN l 0 8 == magic) = false := by simpa using q1.symm
    rw [rN, rE]
    generalize fN l 0 8 = x8 at *
    clear rN rE h1 q1
    go_enter Try.func66, Try.ntmps66
    go_wp2_with fail
    refine HN1.mono ?_
    rintro e w1 ⟨rfl, rfl⟩
    go_wp2
    go_ret2
    exact ⟨rfl, rfl⟩
  · rw [h1] at q1
    have e1 : (fN l 0 8 == magic) = true := by simpa using q1.symm
    have e1' : fN l 0 8 = magic := by simpa using e1
    rw [e1'] at HN1
    clear q1 e1 e1'
    rcases h2 with ⟨h2, rE⟩ | ⟨h2, x, hx, h3⟩
    · rw [rN, rE]
      have i2 : (n : Int) < 16 := by omega
      clear rN rE h1
      go_enter Try.func66, Try.ntmps66
      go_wp2_with fail
      refine HN1.mono ?_
      rintro e w1 ⟨rfl, rfl⟩
      go_wp2
      go_ret2
      exact ⟨rfl, rfl⟩
    · have i2 : ¬ (n : Int) < 16 := by omega
      have i2c : (16 : Int) ≤ c := by omega
      have cc : ¬ c = 12 := by omega
      have HN2 := rnum_sub (c := c - 12) (o := 12) (k := 4) (m := 16) HS hr hb (by omega) (by rfl)
      rw [hx] at HN2
      rcases h3 with ⟨h3, rE⟩ | ⟨h3, h4, rE⟩
      · rw [rN, rE]
        have i3 : 256 < (x : Int) := by omega
        clear rN rE h1 hx
        go_enter Try.func66, Try.ntmps66
        go_wp2_with fail
        refine HN1.mono ?_
        rintro e w1 ⟨rfl, rfl⟩
        go_wp2_with fail
        refine HN2.mono ?_
        rintro e w2 ⟨rfl, rfl⟩
        go_wp2
        go_ret2
        exact ⟨rfl, rfl⟩
      · rw [rN, rE]
        have i3 : ¬ 256 < (x : Int) := by omega
        have y1 : IntKind.i64.wrap (x : Int) = x := by rw [IntKind.wrap_i64]; omega
        have y2 : IntKind.i64.wrap (16 + (x : Int)) = 16 + x := by rw [IntKind.wrap_i64]; omega
        have i4 : (n : Int) < 16 + x := by omega
        clear rN rE h1 hx
        go_enter Try.func66, Try.ntmps66
        go_wp2_with fail
        refine HN1.mono ?_
        rintro e w1 ⟨rfl, rfl⟩
        go_wp2_with fail
        refine HN2.mono ?_
        rintro e w2 ⟨rfl, rfl⟩
        go_wp2
        go_ret2
        exact ⟨rfl, rfl⟩
  · rw [h1] at q1
    have e1 : (fN l 0 8 == magic) = true := by simpa using q1.symm
    have e1' : fN l 0 8 = magic := by simpa using e1
    rw [e1'] at HN1
    clear q1 e1 e1'
    have i2 : ¬ (n : Int) < 16 := by omega
    have i2c : (16 : Int) ≤ c := by omega
    have cc : ¬ c = 12 := by omega
    have HN2 := rnum_sub (c := c - 12) (o := 12) (k := 4) (m := 16) HS hr hb (by omega) (by rfl)
    rw [hx] at HN2
    have rN' : ((hlN l magic 16 : Nat) : Int) = 16 + x := by rw [rN]; omega
    rw [rN', rE]
    have i3 : ¬ 256 < (x : Int) := by omega
    have y1 : IntKind.i64.wrap (x : Int) = x := by rw [IntKind.wrap_i64]; omega
    have y2 : IntKind.i64.wrap (16 + (x : Int)) = 16 + x := by rw [IntKind.wrap_i64]; omega
    have i4 : ¬ (n : Int) < 16 + x := by omega
    clear rN rN' rE h1 hx
    go_enter Try.func66, Try.ntmps66
    go_wp2_with fail
    refine HN1.mono ?_
    rintro e w1 ⟨rfl, rfl⟩
    go_wp2_with fail
    refine HN2.mono ?_
    rintro e w2 ⟨rfl, rfl⟩
    go_wp2
    go_ret2
    exact ⟨rfl, rfl⟩

set_option maxHeartbeats 4000000 in
set_option maxRecDepth 100000 in
theorem rwhole20_calls {A : Option Addr} {n c : Nat} {l : List Int} {magic : Int} (HS : Sep w0 w O L) (hr : Rb w0 O L 1 A n (by8 l)) (hb : Byt l) (hc : n ≤ c) :
    Calls Try.prog 66 #[.slice A n c, .int .u64 magic, .int .i64 20] w fun e w' => e = .returned (.tuple #[.int .i64 (hlN l magic 20 : Nat), .int .i64 (hlE l magic 20)]) ∧ w = w' := by
  have hn := hr.klen HS
  by_cases h8 : l.length < 8
  · have h1 : otherAt l 0 magic = false := by unfold otherAt; exact decide_eq_false fun e => by omega
    have rN : hlN l magic 20 = 0 := by unfold hlN; rw [h1, if_neg (by decide), if_pos (by omega)]
    have rE : hlE l magic 20 = 0 := by unfold hlE; rw [h1, if_neg (by decide), if_pos (by omega)]
    rw [rN, rE]
    have i1 : ¬ (8 : Int) ≤ n := by omega
    have i2 : (n : Int) < 20 := by omega
    clear rN rE h1
    go_enter Try.func66, Try.ntmps66
    go_wp2
    go_ret2
    exact ⟨rfl, rfl⟩
  obtain ⟨ad, rfl⟩ : ∃ ad, A = some ad := by
    obtain ⟨ad, y, e, _⟩ := hr.elemn HS (j := 0) (by omega)
    exact ⟨ad, e⟩
  have i1 : (8 : Int) ≤ n := by omega
  have i1c : (8 : Int) ≤ c := by omega
  have q1 : otherAt l 0 magic = !(fN l 0 8 == magic) := by
    unfold otherAt
    by_cases h : fN l 0 8 = magic
    · rw [decide_eq_false fun e => e.2 h]; simp [h]
    · rw [decide_eq_true ⟨by omega, h⟩]; simp [h]
  have HN1 := rnum_head (c := c) (k := 8) HS hr hb (by omega) (by decide)
  rcases hl_cases hb magic (hd := 20) (by decide) with ⟨rN, ⟨h1, rE⟩ | ⟨h1, h2⟩⟩ | ⟨h1, rE, x, hx, h3, h4, rN⟩
  · rw [h1] at q1
    have e1 : (fN l 0 8 == magic) = false := by simpa using q1.symm
    rw [rN, rE]
    generalize fN l 0 8 = x8 at *
    clear rN rE h1 q1
    go_enter Try.func66, Try.ntmps66
    go_wp2_with fail
    refine HN1.mono ?_
    rintro e w1 ⟨rfl, rfl⟩
    go_wp2
    go_ret2
    exact ⟨rfl, rfl⟩
  · rw [h1] at q1
    have e1 : (fN l 0 8 == magic) = true := by simpa using q1.symm
    have e1' : fN l 0 8 = magic := by simpa using e1
    rw [e1'] at HN1
    clear q1 e1 e1'
    rcases h2 with ⟨h2, rE⟩ | ⟨h2, x, hx, h3⟩
    · rw [rN, rE]
      have i2 : (n : Int) < 20 := by omega
      clear rN rE h1
      go_enter Try.func66, Try.ntmps66
      go_wp2_with fail
      refine HN1.mono ?_
      rintro e w1 ⟨rfl, rfl⟩
      go_wp2
      go_ret2
      exact ⟨rfl, rfl⟩
    · have i2 : ¬ (n : Int) < 20 := by omega
      have i2c : (20 : Int) ≤ c := by omega
      have cc : ¬ c = 16 := by omega
      have HN2 := rnum_sub (c := c - 16) (o := 16) (k := 4) (m := 20) HS hr hb (by omega) (by rfl)
      rw [hx] at HN2
      rcases h3 with ⟨h3, rE⟩ | ⟨h3, h4, rE⟩
      · rw [rN, rE]
        have i3 : 256 < (x : Int) := by omega
        clear rN rE h1 hx
        go_enter Try.func66, Try.ntmps66
        go_wp2_with fail
        refine HN1.mono ?_
        rintro e w1 ⟨rfl, rfl⟩
        go_wp2_with fail
        refine HN2.mono ?_
        rintro e w2 ⟨rfl, rfl⟩
        go_wp2
        go_ret2
        exact ⟨rfl, rfl⟩
      · rw [rN, rE]
        have i3 : ¬ 256 < (x : Int) := by omega
        have y1 : IntKind.i64.wrap (x : Int) = x := by rw [IntKind.wrap_i64]; omega
        have y2 : IntKind.i64.wrap (20 + (x : Int)) = 20 + x := by rw [IntKind.wrap_i64]; omega
        have i4 : (n : Int) < 20 + x := by omega
        clear rN rE h1 hx
        go_enter Try.func66, Try.ntmps66
        go_wp2_with fail
        refine HN1.mono ?_
        rintro e w1 ⟨rfl, rfl⟩
        go_wp2_with fail
        refine HN2.mono ?_
        rintro e w2 ⟨rfl, rfl⟩
        go_wp2
        go_ret2
        exact ⟨rfl, rfl⟩
  · rw [h1] at q1
    have e1 : (fN l 0 8 == magic) = true := by simpa using q1.symm
    have e1' : fN l 0 8 = magic := by simpa using e1
    rw [e1'] at HN1
    clear q1 e1 e1'
    have i2 : ¬ (n : Int) < 20 := by omega
    have i2c : (20 : Int) ≤ c := by omega
    have cc : ¬ c = 16 := by omega
    have HN2 := rnum_sub (c := c - 16) (o := 16) (k := 4) (m := 20) HS hr hb (by omega) (by rfl)
    rw [hx] at HN2
    have rN' : ((hlN l magic 20 : Nat) : Int) = 20 + x := by rw [rN]; omega
    rw [rN', rE]
    have i3 : ¬ 256 < (x : Int) := by omega
    have y1 : IntKind.i64.wrap (x : Int) = x := by rw [IntKind.wrap_i64]; omega
    have y2 : IntKind.i64.wrap (20 + (x : Int)) = 20 + x := by rw [IntKind.wrap_i64]; omega
    have i4 : ¬ (n : Int) < 20 + x := by omega
    clear rN rN' rE h1 hx
    go_enter Try.func66, Try.ntmps66
    go_wp2_with fail
    refine HN1.mono ?_
    rintro e w1 ⟨rfl, rfl⟩
    go_wp2_with fail
    refine HN2.mono ?_
    rintro e w2 ⟨rfl, rfl⟩
    go_wp2
    go_ret2
    exact ⟨rfl, rfl⟩

set_option maxHeartbeats 4000000 in
set_option maxRecDepth 100000 in
theorem hTake_calls {g : Nat} {l : List Int} (HS : Sep w0 w O (Go.Proofs.Ytgepekailoopeaa.tape g l :: L)) (hb : Byt l) (hl : l.length ≤ 140737488355328) :
    Calls Try.prog 19 #[.pointer (some ⟨g, 0, none⟩)] w fun e w' => ∃ A' c', e = .returned (.tuple #[.agg #[.int .u32 (hlX l mOp 16 8), .slice A' (hlD l mOp 16).length c'], .bool (decide ((0 : Int) < (hlN l mOp 16 : Nat))), .int .i64 (hlE l mOp 16)]) ∧
      Sep w0 w' O (own 5 1 A' (hlD l mOp 16).length c' (by8 (hlD l mOp 16)) :: Go.Proofs.Ytgepekailoopeaa.tape g (l.drop (hlN l mOp 16)) :: L) := by
  have q := fun w a n c n' c' => Lib.run_eql_slice_nil (P := Try.prog) w 131 58 a n c n' c' Try.underlying131
  have HSa := HS.alloc #[.int .u32 0, .slice none 0 0] 31
  have HL := (HSa.litB #[.int .i64 4, .int .i64 4] 3 1 2 rfl (by decide) (B := w.heap.size + 1) (by simp)).sel 3 [0, 2, 1]
  replace HL : Sep w0 _ O (own 3 1 (some ⟨w.heap.size + 1, 0, none⟩) 2 2 (iv [4, 4]) :: Go.Proofs.Ytgepekailoopeaa.tape g l :: blk w.heap.size 31 #[.int .u32 0, .slice none 0 0] :: L) := HL
  rcases hl_cases hb mOp (hd := 16) (by decide) with ⟨rN, _⟩ | ⟨h1, rE, x, hx, h3, h4, rN⟩
  · have rD : hlD l mOp 16 = [] := by unfold hlD; rw [if_pos rN]
    have rX : ∀ o, hlX l mOp 16 o = 0 := fun o => by unfold hlX; rw [if_pos rN]
    have HT := hid (htake2_no HL hb hl rN)
    rw [rN, rD]
    simp only [rX]
    generalize hlE l mOp 16 = E at *
    clear rN rD rX
    go_enter Try.func19, Try.ntmps19
    go_wp2_with fail
    refine HT.out.mono ?_
    rintro e w2 ⟨rfl, HS2⟩
    have HB2 := HS2.up1
    have cz0 := HB2.blk_at 0 rfl
    have fz0 := HB2.blk_frozen 0
    have cz1 := HB2.blk_at 1 rfl
    have fz1 := HB2.blk_frozen 1
    have HR := HB2.blk_set2 (.int .u32 0) (.slice none 0 0)
    clear HT
    go_wp2
    (try simp only [Exit.inBlock, Exit.then])
    refine bodyPost_ret (results_row2 rfl _ _ _ _ _ _ _ rfl HR.blk_heap Try.underlying31 rfl info_hraw) rfl ?_
    exact ⟨none, 0, rfl, (HR.sel 2 [1]).nil _ _⟩
  · have rD : hlD l mOp 16 = (l.drop 16).take x := by unfold hlD; rw [if_neg (by omega), rN, Nat.add_sub_cancel_left]
    have rX : ∀ o, hlX l mOp 16 o = fN l o 4 := fun o => by unfold hlX; rw [if_neg (by omega)]
    have HT := htake2_ok HL hb hl h1 hx h3 h4
    have hdl : ((l.drop 16).take x).length = x := by rw [List.length_take, List.length_drop]; omega
    have hpos : decide ((0 : Int) < ((16 + x : Nat) : Int)) = true := decide_eq_true (by omega)
    rw [rE, rD, rN, hpos, hdl]
    simp only [rX]
    rw [hx] at HT
    clear rN rD rX rE hdl hpos hx h1
    have b0 := fN_bd hb 8 4
    simp only [show (256 : Int) ^ 4 = 4294967296 from rfl] at b0
    generalize fN l 8 4 = x0 at *
    generalize num (l.take 8) = xm at *
    have y0 : IntKind.u32.wrap x0 = x0 := by rw [IntKind.wrap_u32]; omega
    have HT' := hid HT
    clear HT
    go_enter Try.func19, Try.ntmps19
    go_wp2_with fail
    refine HT'.out.mono ?_
    rintro e w5 ⟨g1, c1, A5, c5, rfl, hc1le, HS5⟩
    have hc0 : w5.cell? ⟨g1, 1, none⟩ = some (.int .u64 x0) := HS5.up1.kcell (j := 1) (by simp) rfl
    have HB2 := HS5.up3
    have cz0 := HB2.blk_at 0 rfl
    have fz0 := HB2.blk_frozen 0
    have cz1 := HB2.blk_at 1 rfl
    have fz1 := HB2.blk_frozen 1
    have HR := HB2.blk_set2 (.int .u32 x0) (.slice A5 x c5)
    clear HT' HL HSa HS
    go_wp2
    (try simp only [Exit.inBlock, Exit.then])
    refine bodyPost_ret (results_row2 rfl _ _ _ _ _ _ _ rfl HR.blk_heap Try.underlying31 rfl info_hraw) rfl ?_
    exact ⟨A5, c5, rfl, HR.sel 4 [1, 3]⟩

set_option maxHeartbeats 4000000 in
set_option maxRecDepth 100000 in
theorem rTake_calls {A : Option Addr} {n c : Nat} {l : List Int} (HS : Sep w0 w O L) (hr : Rb w0 O L 1 A n (by8 l)) (hb : Byt l) (hc : n ≤ c) (hl : n ≤ 140737488355328) :
    Calls Try.prog 20 #[.slice A n c] w fun e w' => ∃ A' c', e = .returned (.tuple #[.agg #[.int .u32 (hlX l mOp 16 8), .slice A' (hlD l mOp 16).length c'], .int .i64 (hlN l mOp 16 : Nat), .int .i64 (hlE l mOp 16)]) ∧
      Sep w0 w' O (own 5 1 A' (hlD l mOp 16).length c' (by8 (hlD l mOp 16)) :: L) := by
  have hn := hr.klen HS
  have HSa := HS.alloc #[.int .u32 0, .slice none 0 0] 25
  have HW := rwhole16_calls (magic := mOp) HSa hr.cons hb hc
  rcases hl_cases hb mOp (hd := 16) (by decide) with ⟨rN, _⟩ | ⟨h1, rE, x, hx, h3, h4, rN⟩
  · have rD : hlD l mOp 16 = [] := by unfold hlD; rw [if_pos rN]
    have rX : ∀ o, hlX l mOp 16 o = 0 := fun o => by unfold hlX; rw [if_pos rN]
    rw [rN] at HW
    rw [rN, rD]
    simp only [rX]
    generalize hlE l mOp 16 = E at *
    have HW' := hid HW
    clear rN rD rX HW
    have cz0 := HSa.blk_at 0 rfl
    have fz0 := HSa.blk_frozen 0
    have cz1 := HSa.blk_at 1 rfl
    have fz1 := HSa.blk_frozen 1
    go_enter Try.func20, Try.ntmps20
    go_wp2_with fail
    refine HW'.out.mono ?_
    rintro e w2 ⟨rfl, rfl⟩
    go_wp2
    (try simp only [Exit.inBlock, Exit.then])
    refine bodyPost_ret (results_row2 rfl _ _ _ _ _ _ _ rfl HSa.blk_heap Try.underlying25 rfl info_rraw) rfl ?_
    exact ⟨none, 0, rfl, HSa.drop.nil _ _⟩
  · have rD : hlD l mOp 16 = (l.drop 16).take x := by unfold hlD; rw [if_neg (by omega), rN, Nat.add_sub_cancel_left]
    have rX : ∀ o, hlX l mOp 16 o = fN l o 4 := fun o => by unfold hlX; rw [if_neg (by omega)]
    have hdl : ((l.drop 16).take x).length = x := by rw [List.length_take, List.length_drop]; omega
    have rN' : ((hlN l mOp 16 : Nat) : Int) = 16 + x := by rw [rN]; omega
    rw [rN', rE] at HW
    rw [rN', rE, rD, hdl]
    simp only [rX]
    obtain ⟨ad, rfl⟩ : ∃ ad, A = some ad := by
      obtain ⟨ad, y, e, _⟩ := hr.elemn HS (j := 0) (by omega)
      exact ⟨ad, e⟩
    have hcut := hr.kcut (j := 16) (m := 16 + x) (cap := c) (by omega) (by omega) hc
    rw [Option.map_some, Nat.add_sub_cancel_left] at hcut
    have e : ad.add 16 = ⟨ad.block, ad.off + 16, none⟩ := by unfold Addr.add; rw [if_neg (by omega)]
    rw [e] at hcut
    obtain ⟨DA, hDA⟩ : ∃ DA : Option Addr, (if c = 16 then some ad else some ⟨ad.block, ad.off + 16, none⟩) = DA := ⟨_, rfl⟩
    rw [hDA] at hcut
    have hm : 12 ≤ n := by omega
    have HW' := hid HW
    have HCUT := hid hcut
    clear rN rN' rD rX rE hdl hx h1 HW hcut e
    have b0 := fN_bd hb 8 4
    simp only [show (256 : Int) ^ 4 = 4294967296 from rfl] at b0
    have HM0 := hid (rnum_sub (c := c - 8) (o := 8) (k := 4) (m := 12) HSa.drew hr.cons hb hm (by rfl))
    generalize fN l 8 4 = x0 at *
    have y0 : IntKind.u32.wrap x0 = x0 := by rw [IntKind.wrap_u32]; omega
    have i0 : (x : Int) + 16 ≠ 0 := by omega
    have i0' : (((16 : Int) + x) == 0) = false := by simp; omega
    have i1 : (16 : Int) ≤ 16 + x := by omega
    have i2 : (16 : Int) + x ≤ c := by omega
    have i3 : ((16 : Int) + x).toNat = 16 + x := by omega
    have i4 : 16 + x - 16 = x := by omega
    have i5 : (12 : Int) ≤ c := by omega
    have i6 : ¬ c = 8 := by omega
    have i7 : ¬ c = 12 := by omega
    have i8 : (12 : Int) ≤ c := by omega
    go_enter Try.func20, Try.ntmps20
    go_wp2_with fail
    refine HW'.out.mono ?_
    rintro e w2 ⟨rfl, rfl⟩
    go_upto_region 4 with (fail)
    go_region_held_law (fun _ => True) (trivial)
      (first
        | (go_at_call 67; refine (rown_calls HSa.drew HCUT.out.cons (by omega)).mono ?_; rintro e w6 ⟨A6, c6, rfl, HS6⟩; have cz0 := HS6.up1.blk_at 0 rfl; have fz0 := HS6.up1.blk_frozen 0; have cz1 := HS6.up1.blk_at 1 rfl; have fz1 := HS6.up1.blk_frozen 1)
        | (go_at_call 35; refine (HM0.out).mono ?_; rintro e w1 ⟨rfl, rfl⟩; have FLAG0 : True := trivial))
    all_goals
      have HR := HS6.up1.blk_set2 (.int .u32 x0) (.slice A6 x c6)
      go_wp2
      (try simp only [Exit.inBlock, Exit.then])
      refine bodyPost_ret (results_row2 rfl _ _ _ _ _ _ _ rfl HR.blk_heap Try.underlying25 rfl info_rraw) rfl ?_
      exact ⟨A6, c6, rfl, HR.drop⟩

set_option maxHeartbeats 4000000 in
set_option maxRecDepth 100000 in
theorem hTakeReply_calls {g : Nat} {l : List Int} (HS : Sep w0 w O (Go.Proofs.Ytgepekailoopeaa.tape g l :: L)) (hb : Byt l) (hl : l.length ≤ 140737488355328) :
    Calls Try.prog 23 #[.pointer (some ⟨g, 0, none⟩)] w fun e w' => ∃ A' c', e = .returned (.tuple #[.agg #[.int .u32 (hlX l mRe 20 8), .int .u32 (hlX l mRe 20 12), .slice A' (hlD l mRe 20).length c'], .bool (decide ((0 : Int) < (hlN l mRe 20 : Nat))), .int .i64 (hlE l mRe 20)]) ∧
      Sep w0 w' O (own 5 1 A' (hlD l mRe 20).length c' (by8 (hlD l mRe 20)) :: Go.Proofs.Ytgepekailoopeaa.tape g (l.drop (hlN l mRe 20)) :: L) := by
  have q := fun w a n c n' c' => Lib.run_eql_slice_nil (P := Try.prog) w 131 58 a n c n' c' Try.underlying131
  have HSa := HS.alloc #[.int .u32 0, .int .u32 0, .slice none 0 0] 35
  have HL := (HSa.litB #[.int .i64 4, .int .i64 4, .int .i64 4] 3 1 3 rfl (by decide) (B := w.heap.size + 1) (by simp)).sel 3 [0, 2, 1]
  replace HL : Sep w0 _ O (own 3 1 (some ⟨w.heap.size + 1, 0, none⟩) 3 3 (iv [4, 4, 4]) :: Go.Proofs.Ytgepekailoopeaa.tape g l :: blk w.heap.size 35 #[.int .u32 0, .int .u32 0, .slice none 0 0] :: L) := HL
  rcases hl_cases hb mRe (hd := 20) (by decide) with ⟨rN, _⟩ | ⟨h1, rE, x, hx, h3, h4, rN⟩
  · have rD : hlD l mRe 20 = [] := by unfold hlD; rw [if_pos rN]
    have rX : ∀ o, hlX l mRe 20 o = 0 := fun o => by unfold hlX; rw [if_pos rN]
    have HT := hid (htake3_no HL hb hl rN)
    rw [rN, rD]
    simp only [rX]
    generalize hlE l mRe 20 = E at *
    clear rN rD rX
    go_enter Try.func23, Try.ntmps23
    go_wp2_with fail
    refine HT.out.mono ?_
    rintro e w2 ⟨rfl, HS2⟩
    have HB2 := HS2.up1
    have cz0 := HB2.blk_at 0 rfl
    have fz0 := HB2.blk_frozen 0
    have cz1 := HB2.blk_at 1 rfl
    have fz1 := HB2.blk_frozen 1
    have cz2 := HB2.blk_at 2 rfl
    have fz2 := HB2.blk_frozen 2
    have HR := HB2.blk_set3 (.int .u32 0) (.int .u32 0) (.slice none 0 0)
    clear HT
    go_wp2
    (try simp only [Exit.inBlock, Exit.then])
    refine bodyPost_ret (results_row2 rfl _ _ _ _ _ _ _ rfl HR.blk_heap Try.underlying35 rfl info_hrep) rfl ?_
    exact ⟨none, 0, rfl, (HR.sel 2 [1]).nil _ _⟩
  · have rD : hlD l mRe 20 = (l.drop 20).take x := by unfold hlD; rw [if_neg (by omega), rN, Nat.add_sub_cancel_left]
    have rX : ∀ o, hlX l mRe 20 o = fN l o 4 := fun o => by unfold hlX; rw [if_neg (by omega)]
    have HT := htake3_ok HL hb hl h1 hx h3 h4
    have hdl : ((l.drop 20).take x).length = x := by rw [List.length_take, List.length_drop]; omega
    have hpos : decide ((0 : Int) < ((20 + x : Nat) : Int)) = true := decide_eq_true (by omega)
    rw [rE, rD, rN, hpos, hdl]
    simp only [rX]
    rw [hx] at HT
    clear rN rD rX rE hdl hpos hx h1
    have b0 := fN_bd hb 8 4
    have b1 := fN_bd hb 12 4
    simp only [show (256 : Int) ^ 4 = 4294967296 from rfl] at b0 b1
    generalize fN l 8 4 = x0 at *
    generalize fN l 12 4 = x1 at *
    generalize num (l.take 8) = xm at *
    have y0 : IntKind.u32.wrap x0 = x0 := by rw [IntKind.wrap_u32]; omega
    have y1 : IntKind.u32.wrap x1 = x1 := by rw [IntKind.wrap_u32]; omega
    have HT' := hid HT
    clear HT
    go_enter Try.func23, Try.ntmps23
    go_wp2_with fail
    refine HT'.out.mono ?_
    rintro e w5 ⟨g1, c1, A5, c5, rfl, hc1le, HS5⟩
    have hc0 : w5.cell? ⟨g1, 1, none⟩ = some (.int .u64 x0) := HS5.up1.kcell (j := 1) (by simp) rfl
    have hc1 : w5.cell? ⟨g1, 2, none⟩ = some (.int .u64 x1) := HS5.up1.kcell (j := 2) (by simp) rfl
    have HB2 := HS5.up3
    have cz0 := HB2.blk_at 0 rfl
    have fz0 := HB2.blk_frozen 0
    have cz1 := HB2.blk_at 1 rfl
    have fz1 := HB2.blk_frozen 1
    have cz2 := HB2.blk_at 2 rfl
    have fz2 := HB2.blk_frozen 2
    have HR := HB2.blk_set3 (.int .u32 x0) (.int .u32 x1) (.slice A5 x c5)
    clear HT' HL HSa HS
    have Z0 : Aside (w5.drew.cell? ⟨g1, 1, none⟩ = some (.int .u64 x0) ∧ w5.drew.cell? ⟨g1, 2, none⟩ = some (.int .u64 x1)) := ⟨HS5.drew.up1.kcell (j := 1) (by simp) rfl, HS5.drew.up1.kcell (j := 2) (by simp) rfl⟩
    have Z1 : Aside ((((w5.setCell ⟨w.heap.size, 0, none⟩ (.int .u32 x0)).setCell ⟨w.heap.size, 1, none⟩ (.int .u32 x1)).setCell ⟨w.heap.size, 2, none⟩ (.slice A5 x c5)).drew.cell? ⟨g1, 1, none⟩ = some (.int .u64 x0) ∧ (((w5.setCell ⟨w.heap.size, 0, none⟩ (.int .u32 x0)).setCell ⟨w.heap.size, 1, none⟩ (.int .u32 x1)).setCell ⟨w.heap.size, 2, none⟩ (.slice A5 x c5)).drew.cell? ⟨g1, 2, none⟩ = some (.int .u64 x1)) := ⟨HR.drew.up2.kcell (j := 1) (by simp) rfl, HR.drew.up2.kcell (j := 2) (by simp) rfl⟩
    have Z2 : Aside ((((w5.setCell ⟨w.heap.size, 0, none⟩ (.int .u32 x0)).setCell ⟨w.heap.size, 1, none⟩ (.int .u32 x1)).setCell ⟨w.heap.size, 2, none⟩ (.slice A5 x c5)).cell? ⟨g1, 1, none⟩ = some (.int .u64 x0) ∧ (((w5.setCell ⟨w.heap.size, 0, none⟩ (.int .u32 x0)).setCell ⟨w.heap.size, 1, none⟩ (.int .u32 x1)).setCell ⟨w.heap.size, 2, none⟩ (.slice A5 x c5)).cell? ⟨g1, 2, none⟩ = some (.int .u64 x1)) := ⟨HR.up2.kcell (j := 1) (by simp) rfl, HR.up2.kcell (j := 2) (by simp) rfl⟩
    clear hc0 hc1
    go_upto_region 4 with (fail)
    go_region_held_law (fun w' => w'.cell? ⟨g1, 1, none⟩ = some (.int .u64 x0) ∧ w'.cell? ⟨g1, 2, none⟩ = some (.int .u64 x1)) (first | with_reducible exact Z0.out | with_reducible exact Z1.out | with_reducible exact Z2.out) (fail)
    all_goals
      go_wp2
      (try simp only [Exit.inBlock, Exit.then])
      refine bodyPost_ret (results_row2 rfl _ _ _ _ _ _ _ rfl HR.blk_heap Try.underlying35 rfl info_hrep) rfl ?_
      exact ⟨A5, c5, rfl, HR.sel 4 [1, 3]⟩

set_option maxHeartbeats 4000000 in
set_option maxRecDepth 100000 in
theorem rTakeReply_calls {A : Option Addr} {n c : Nat} {l : List Int} (HS : Sep w0 w O L) (hr : Rb w0 O L 1 A n (by8 l)) (hb : Byt l) (hc : n ≤ c) (hl : n ≤ 140737488355328) :
    Calls Try.prog 24 #[.slice A n c] w fun e w' => ∃ A' c', e = .returned (.tuple #[.agg #[.int .u32 (hlX l mRe 20 8), .int .u32 (hlX l mRe 20 12), .slice A' (hlD l mRe 20).length c'], .int .i64 (hlN l mRe 20 : Nat), .int .i64 (hlE l mRe 20)]) ∧
      Sep w0 w' O (own 5 1 A' (hlD l mRe 20).length c' (by8 (hlD l mRe 20)) :: L) := by
  have hn := hr.klen HS
  have HSa := HS.alloc #[.int .u32 0, .int .u32 0, .slice none 0 0] 27
  have HW := rwhole20_calls (magic := mRe) HSa hr.cons hb hc
  rcases hl_cases hb mRe (hd := 20) (by decide) with ⟨rN, _⟩ | ⟨h1, rE, x, hx, h3, h4, rN⟩
  · have rD : hlD l mRe 20 = [] := by unfold hlD; rw [if_pos rN]
    have rX : ∀ o, hlX l mRe 20 o = 0 := fun o => by unfold hlX; rw [if_pos rN]
    rw [rN] at HW
    rw [rN, rD]
    simp only [rX]
    generalize hlE l mRe 20 = E at *
    have HW' := hid HW
    clear rN rD rX HW
    have cz0 := HSa.blk_at 0 rfl
    have fz0 := HSa.blk_frozen 0
    have cz1 := HSa.blk_at 1 rfl
    have fz1 := HSa.blk_frozen 1
    have cz2 := HSa.blk_at 2 rfl
    have fz2 := HSa.blk_frozen 2
    go_enter Try.func24, Try.ntmps24
    go_wp2_with fail
    refine HW'.out.mono ?_
    rintro e w2 ⟨rfl, rfl⟩
    go_wp2
    (try simp only [Exit.inBlock, Exit.then])
    refine bodyPost_ret (results_row2 rfl _ _ _ _ _ _ _ rfl HSa.blk_heap Try.underlying27 rfl info_rrep) rfl ?_
    exact ⟨none, 0, rfl, HSa.drop.nil _ _⟩
  · have rD : hlD l mRe 20 = (l.drop 20).take x := by unfold hlD; rw [if_neg (by omega), rN, Nat.add_sub_cancel_left]
    have rX : ∀ o, hlX l mRe 20 o = fN l o 4 := fun o => by unfold hlX; rw [if_neg (by omega)]
    have hdl : ((l.drop 20).take x).length = x := by rw [List.length_take, List.length_drop]; omega
    have rN' : ((hlN l mRe 20 : Nat) : Int) = 20 + x := by rw [rN]; omega
    rw [rN', rE] at HW
    rw [rN', rE, rD, hdl]
    simp only [rX]
    obtain ⟨ad, rfl⟩ : ∃ ad, A = some ad := by
      obtain ⟨ad, y, e, _⟩ := hr.elemn HS (j := 0) (by omega)
      exact ⟨ad, e⟩
    have hcut := hr.kcut (j := 20) (m := 20 + x) (cap := c) (by omega) (by omega) hc
    rw [Option.map_some, Nat.add_sub_cancel_left] at hcut
    have e : ad.add 20 = ⟨ad.block, ad.off + 20, none⟩ := by unfold Addr.add; rw [if_neg (by omega)]
    rw [e] at hcut
    obtain ⟨DA, hDA⟩ : ∃ DA : Option Addr, (if c = 20 then some ad else some ⟨ad.block, ad.off + 20, none⟩) = DA := ⟨_, rfl⟩
    rw [hDA] at hcut
    have hm : 16 ≤ n := by omega
    have HW' := hid HW
    have HCUT := hid hcut
    clear rN rN' rD rX rE hdl hx h1 HW hcut e
    have b0 := fN_bd hb 8 4
    have b1 := fN_bd hb 12 4
    simp only [show (256 : Int) ^ 4 = 4294967296 from rfl] at b0 b1
    have HM0 := hid (rnum_sub (c := c - 8) (o := 8) (k := 4) (m := 16) HSa.drew hr.cons hb hm (by rfl))
    have HM1 := hid (rnum_sub (c := c - 12) (o := 12) (k := 4) (m := 16) HSa.drew hr.cons hb hm (by rfl))
    generalize fN l 8 4 = x0 at *
    generalize fN l 12 4 = x1 at *
    have y0 : IntKind.u32.wrap x0 = x0 := by rw [IntKind.wrap_u32]; omega
    have y1 : IntKind.u32.wrap x1 = x1 := by rw [IntKind.wrap_u32]; omega
    have i0 : (x : Int) + 20 ≠ 0 := by omega
    have i0' : (((20 : Int) + x) == 0) = false := by simp; omega
    have i1 : (20 : Int) ≤ 20 + x := by omega
    have i2 : (20 : Int) + x ≤ c := by omega
    have i3 : ((20 : Int) + x).toNat = 20 + x := by omega
    have i4 : 20 + x - 20 = x := by omega
    have i5 : (16 : Int) ≤ c := by omega
    have i6 : ¬ c = 8 := by omega
    have i7 : ¬ c = 12 := by omega
    have i8 : (12 : Int) ≤ c := by omega
    go_enter Try.func24, Try.ntmps24
    go_wp2_with fail
    refine HW'.out.mono ?_
    rintro e w2 ⟨rfl, rfl⟩
    go_upto_region 4 with (fail)
    go_region_held_law (fun _ => True) (trivial)
      (first
        | (go_at_call 67; refine (rown_calls HSa.drew HCUT.out.cons (by omega)).mono ?_; rintro e w6 ⟨A6, c6, rfl, HS6⟩; have cz0 := HS6.up1.blk_at 0 rfl; have fz0 := HS6.up1.blk_frozen 0; have cz1 := HS6.up1.blk_at 1 rfl; have fz1 := HS6.up1.blk_frozen 1; have cz2 := HS6.up1.blk_at 2 rfl; have fz2 := HS6.up1.blk_frozen 2)
        | (go_at_call 35; have hflag := FLAG0; refine (HM1.out).mono ?_; rintro e w1 ⟨rfl, rfl⟩; have FLAG1 : True := trivial)
        | (go_at_call 35; refine (HM0.out).mono ?_; rintro e w1 ⟨rfl, rfl⟩; have FLAG0 : True := trivial))
    all_goals
      have HR := HS6.up1.blk_set3 (.int .u32 x0) (.int .u32 x1) (.slice A6 x c6)
      go_wp2
      (try simp only [Exit.inBlock, Exit.then])
      refine bodyPost_ret (results_row2 rfl _ _ _ _ _ _ _ rfl HR.blk_heap Try.underlying27 rfl info_rrep) rfl ?_
      exact ⟨A6, c6, rfl, HR.drop⟩
end
end Go.Proofs.Ytgepekailoopeaa
