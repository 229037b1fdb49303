/-
  The walk of HelloOptions.
-/
import Derived.Test.YtgepekailoopeaaLaw22
import Derived.Test.YtgepekailoopeaaSameR
import Derived.Test.YtgepekailoopeaaIsRaw
import Derived.Test.YtgepekailoopeaaSees22
namespace Go.Proofs.Ytgepekailoopeaa
open Go.RowKit
set_option linter.unusedVariables false
set_option linter.unusedSimpArgs false
theorem hlN_le (l : List Int) (m : Int) (hd : Nat) : hlN l m hd ≤ l.length := by
  unfold hlN; split
  · exact Nat.zero_le _
  · split
    · exact Nat.zero_le _
    · split
      · exact Nat.zero_le _
      · split <;> omega
set_option maxHeartbeats 8000000 in
set_option maxRecDepth 100000 in
theorem helloOptions_walk (cs0 : Array Value) (cs1 : Array Value) (A2 : Option Addr) (n2 c2 : Nat) (x0 : Sh.V (.agg (.pair (.int .u32) (.pair (.slice (.int .u8) 1) .unit)))) (x1 : Sh.V (.agg (.pair (.int .u32) (.pair (.int .u32) (.pair (.slice (.int .u8) 1) .unit))))) (x2 : Sh.V (.slice (.int .u8) 1)) (w : World) (s0 : Sees w.heap (.agg (.pair (.int .u32) (.pair (.slice (.int .u8) 1) .unit))) cs0.toList x0) (s1 : Sees w.heap (.agg (.pair (.int .u32) (.pair (.int .u32) (.pair (.slice (.int .u8) 1) .unit)))) cs1.toList x1) (s2 : Sees w.heap (.slice (.int .u8) 1) [.slice A2 n2 c2] x2) (y0 : Light (.agg (.pair (.int .u32) (.pair (.slice (.int .u8) 1) .unit))) x0) (y1 : Light (.agg (.pair (.int .u32) (.pair (.int .u32) (.pair (.slice (.int .u8) 1) .unit)))) x1) (y2 : Light (.slice (.int .u8) 1) x2) :
    Calls Try.prog 3 #[.agg cs0, .agg cs1, .slice A2 n2 c2] w fun e w' => e = .returned (.bool true) ∧ Below w.heap.size w w' := by
  obtain ⟨op, A0, c0, d, rfl, ⟨o0, o1⟩, hr0, hc0, hb0, hd0⟩ := sees_raw s0 y0
  obtain ⟨rop, rkd, A1, c1, rd, rfl, ⟨ro0, ro1⟩, ⟨rk0, rk1⟩, hr1, hc1, hb1, hd1⟩ := sees_reply s1 y1
  obtain ⟨hn2, hr2, hc2, _, hw2⟩ := sees_ints s2
  obtain ⟨l, rfl⟩ : ∃ l : List Int, l = x2 := ⟨_, rfl⟩
  have hb2 : Byt l := kv_byt hw2
  have ly2 : n2 ≤ 140737488351232 := by have := y2.1; omega
  have hL : l.length ≤ 140737488355328 := by omega
  have R0 := hid (fun L => Rb.came (L := L) hr0)
  have R1 := hid (fun L => Rb.came (L := L) hr1)
  have R2 := hid (fun L => Rb.came (L := L) hr2)
  obtain ⟨m0, hm0⟩ : ∃ m, m = d.length := ⟨_, rfl⟩
  obtain ⟨m1, hm1⟩ : ∃ m, m = rd.length := ⟨_, rfl⟩
  rw [← hm0] at hc0 hd0 R0 ⊢
  rw [← hm1] at hc1 hd1 R1 ⊢
  have M0 := hid hm0
  have M1 := hid hm1
  have N2 := hid hn2
  have B2 := hid hb2
  obtain ⟨g1n, hg1⟩ : ∃ g, g = hlN l mOp 16 := ⟨_, rfl⟩
  obtain ⟨g2n, hg2⟩ : ∃ g, g = hlN l mRe 20 := ⟨_, rfl⟩
  have le1 : g1n ≤ l.length := by rw [hg1]; exact hlN_le _ _ _
  have le2 : g2n ≤ l.length := by rw [hg2]; exact hlN_le _ _ _
  have i1 : IntKind.i64.wrap ((n2 : Int) - g1n) = (l.drop g1n).length := by rw [IntKind.wrap_i64, List.length_drop]; omega
  have i2 : IntKind.i64.wrap ((n2 : Int) - g2n) = (l.drop g2n).length := by rw [IntKind.wrap_i64, List.length_drop]; omega
  have T1 : ∀ {w' : World} {L' : List Asr} {g : Nat}, Sep w w' (fun _ => False) (Go.Proofs.Ytgepekailoopeaa.tape g l :: L') → Calls Try.prog 19 #[.pointer (some ⟨g, 0, none⟩)] w' fun e w2 => ∃ A' c', e = .returned (.tuple #[.agg #[.int .u32 (hlX l mOp 16 8), .slice A' (hlD l mOp 16).length c'], .bool (decide ((0 : Int) < (g1n : Nat))), .int .i64 (hlE l mOp 16)]) ∧
      Sep w w2 (fun _ => False) (own 5 1 A' (hlD l mOp 16).length c' (by8 (hlD l mOp 16)) :: Go.Proofs.Ytgepekailoopeaa.tape g (l.drop g1n) :: L') := by rw [hg1]; exact fun H => hTake_calls H hb2 hL
  have T2 : ∀ {w' : World} {L' : List Asr}, Sep w w' (fun _ => False) L' → Calls Try.prog 20 #[.slice A2 n2 c2] w' fun e w2 => ∃ A' c', e = .returned (.tuple #[.agg #[.int .u32 (hlX l mOp 16 8), .slice A' (hlD l mOp 16).length c'], .int .i64 (g1n : Nat), .int .i64 (hlE l mOp 16)]) ∧
      Sep w w2 (fun _ => False) (own 5 1 A' (hlD l mOp 16).length c' (by8 (hlD l mOp 16)) :: L') := by rw [hg1]; exact fun H => rTake_calls H (R2.out _) hb2 hc2 (by omega)
  have T3 : ∀ {w' : World} {L' : List Asr} {g : Nat}, Sep w w' (fun _ => False) (Go.Proofs.Ytgepekailoopeaa.tape g l :: L') → Calls Try.prog 23 #[.pointer (some ⟨g, 0, none⟩)] w' fun e w2 => ∃ A' c', e = .returned (.tuple #[.agg #[.int .u32 (hlX l mRe 20 8), .int .u32 (hlX l mRe 20 12), .slice A' (hlD l mRe 20).length c'], .bool (decide ((0 : Int) < (g2n : Nat))), .int .i64 (hlE l mRe 20)]) ∧
      Sep w w2 (fun _ => False) (own 5 1 A' (hlD l mRe 20).length c' (by8 (hlD l mRe 20)) :: Go.Proofs.Ytgepekailoopeaa.tape g (l.drop g2n) :: L') := by rw [hg2]; exact fun H => hTakeReply_calls H hb2 hL
  have T4 : ∀ {w' : World} {L' : List Asr}, Sep w w' (fun _ => False) L' → Calls Try.prog 24 #[.slice A2 n2 c2] w' fun e w2 => ∃ A' c', e = .returned (.tuple #[.agg #[.int .u32 (hlX l mRe 20 8), .int .u32 (hlX l mRe 20 12), .slice A' (hlD l mRe 20).length c'], .int .i64 (g2n : Nat), .int .i64 (hlE l mRe 20)]) ∧
      Sep w w2 (fun _ => False) (own 5 1 A' (hlD l mRe 20).length c' (by8 (hlD l mRe 20)) :: L') := by rw [hg2]; exact fun H => rTakeReply_calls H (R2.out _) hb2 hc2 (by omega)
  have P1 : ∀ {w' : World} {L' : List Asr} {A : Option Addr} {n c : Nat}, Sep w w' (fun _ => False) L' → Rb w (fun _ => False) L' 1 A n (by8 d) → Calls Try.prog 14 #[.agg #[.int .u32 op, .slice A n c]] w' fun e w2 => ∃ A' c', e = .returned (.tuple #[.slice A' (rawB mOp [op] d).length c', .int .i64 (rawE d)]) ∧ Sep w w2 (fun _ => False) (own 5 1 A' (rawB mOp [op] d).length c' (by8 (rawB mOp [op] d)) :: L') := fun H q => hPut_calls H q o0 o1
  have P2 : ∀ {w' : World} {L' : List Asr}, Sep w w' (fun _ => False) L' → Calls Try.prog 15 #[.agg #[.int .u32 op, .slice A0 m0 c0]] w' fun e w2 => ∃ A' c', e = .returned (.tuple #[.slice A' (rawB mOp [op] d).length c', .int .i64 (rawE d)]) ∧ Sep w w2 (fun _ => False) (own 5 1 A' (rawB mOp [op] d).length c' (by8 (rawB mOp [op] d)) :: L') := fun H => rPut_calls H (R0.out _) o0 o1
  have P3 : ∀ {w' : World} {L' : List Asr}, Sep w w' (fun _ => False) L' → Calls Try.prog 16 #[.agg #[.int .u32 rop, .int .u32 rkd, .slice A1 m1 c1]] w' fun e w2 => ∃ A' c', e = .returned (.tuple #[.slice A' (rawB mRe [rop, rkd] rd).length c', .int .i64 (rawE rd)]) ∧ Sep w w2 (fun _ => False) (own 5 1 A' (rawB mRe [rop, rkd] rd).length c' (by8 (rawB mRe [rop, rkd] rd)) :: L') := fun H => hPutReply_calls H (R1.out _) ro0 ro1 rk0 rk1
  have P4 : ∀ {w' : World} {L' : List Asr}, Sep w w' (fun _ => False) L' → Calls Try.prog 17 #[.agg #[.int .u32 rop, .int .u32 rkd, .slice A1 m1 c1]] w' fun e w2 => ∃ A' c', e = .returned (.tuple #[.slice A' (rawB mRe [rop, rkd] rd).length c', .int .i64 (rawE rd)]) ∧ Sep w w2 (fun _ => False) (own 5 1 A' (rawB mRe [rop, rkd] rd).length c' (by8 (rawB mRe [rop, rkd] rd)) :: L') := fun H => rPutReply_calls H (R1.out _) ro0 ro1 rk0 rk1
  generalize rawB mOp [op] d = q1 at P1 P2
  generalize rawE d = e1 at P1 P2
  generalize rawB mRe [rop, rkd] rd = q2 at P3 P4
  generalize rawE rd = e2 at P3 P4
  generalize hlX l mOp 16 8 = xo at T1 T2
  generalize hlE l mOp 16 = xe at T1 T2
  generalize hlD l mOp 16 = xd at T1 T2
  generalize hlX l mRe 20 8 = yo at T3 T4
  generalize hlX l mRe 20 12 = yk at T3 T4
  generalize hlE l mRe 20 = ye at T3 T4
  generalize hlD l mRe 20 = yd at T3 T4
  generalize l.drop g1n = l1 at T1 i1
  generalize l.drop g2n = l2 at T3 i2
  have HT1 := hid @T1
  have HT2 := hid @T2
  have HT3 := hid @T3
  have HT4 := hid @T4
  have HP1 := hid @P1
  have HP2 := hid @P2
  have HP3 := hid @P3
  have HP4 := hid @P4
  clear T1 T2 T3 T4 P1 P2 P3 P4 hg1 hg2 hm0 hm1 hn2 hb2 s0 s1 s2 y0 y1 y2 hw2 hr0 hr1 hr2 le1 le2 hb0 hb1
  obtain ⟨i0, hi0, hz0, hz1, hz2⟩ := info_parts info_u8
  have HSa := ((Sep.start w).alloc #[.int .u32 op, .slice A0 m0 c0] 25).allocB #[.int .u32 rop, .int .u32 rkd, .slice A1 m1 c1] 27 (B := w.heap.size + 1) (by simp)
  have HT := HSa.nil 5 1
  have a0 := HSa.up1.blk_at 0 rfl
  have a1 := HSa.up1.blk_at 1 rfl
  have h63 : 0 + m0 ≤ maxLen := by simp only [maxLen]; omega
  have h140 : (0 + m0) * 1 ≤ 140737488355328 := by omega
  go_enter Try.func3, Try.ntmps3
  go_wp2_with (at_builtin; go_loud (refine wpList_append_sep rfl (.const (.slice none 0 0)) (.tmp 24) 23 rfl 5 i0 _ 1 1 Try.underlying23 hi0 hz0 hz1 hz2 rfl (by decide) rfl HT rfl ((R0.out _).read HT) (by8_one _) h63 h140 (Nat.zero_add m0) rfl ?_); intro A3 c3 w3 HS3 hsz3; clear a0 a1; have a0 := HS3.up2.blk_at 0 rfl)
  replace HS3 : Sep w w3 (fun _ => False) (own 5 1 A3 m0 c3 (by8 d) :: blk (w.heap.size + 1) 27 #[.int .u32 rop, .int .u32 rkd, .slice A1 m1 c1] :: blk w.heap.size 25 #[.int .u32 op, .slice A0 m0 c0] :: []) := HS3
  refine (HP1.out HS3 Rb.i0).mono ?_
  rintro e w4 ⟨A4, c4, rfl, HS4⟩
  clear a0
  have a0 := HS4.up3.blk_at 0 rfl
  have a1 := HS4.up3.blk_at 1 rfl
  go_wp2_with fail
  refine (HP2.out HS4).mono ?_
  rintro e w5 ⟨A5, c5, rfl, HS5⟩
  clear a0 a1
  have a0 := HS5.up4.blk_at 0 rfl
  have a1 := HS5.up4.blk_at 1 rfl
  have b0 := HS5.up3.blk_at 0 rfl
  have b1 := HS5.up3.blk_at 1 rfl
  have b2 := HS5.up3.blk_at 2 rfl
  have hs1 := run_str (P := Try.prog) (c := c4) (Rb.i1.read HS5) 23 9 5 Try.underlying23 Try.underlying5 Try.underlying9
  have hs2 := run_str (P := Try.prog) (c := c5) (Rb.i0.read HS5) 23 9 5 Try.underlying23 Try.underlying5 Try.underlying9
  have hs3 := run_str (P := Try.prog) (c := c3) (Rb.i2.read HS5) 23 9 5 Try.underlying23 Try.underlying5 Try.underlying9
  have hs4 := run_str (P := Try.prog) (c := c0) ((R0.out _).read HS5) 23 9 5 Try.underlying23 Try.underlying5 Try.underlying9
  generalize strOfNums q1 = sq1 at hs1 hs2
  generalize strOfNums d = sd at hs3 hs4
  go_wp2_with fail
  refine (HP3.out HS5).mono ?_
  rintro e w6 ⟨A6, c6, rfl, HS6⟩
  clear hs1 hs2 hs3 hs4 a0 a1 b0 b1 b2
  have b0 := HS6.up4.blk_at 0 rfl
  have b1 := HS6.up4.blk_at 1 rfl
  have b2 := HS6.up4.blk_at 2 rfl
  go_wp2_with fail
  refine (HP4.out HS6).mono ?_
  rintro e w7 ⟨A7, c7, rfl, HS7⟩
  clear b0 b1 b2
  have hs1 := run_str (P := Try.prog) (c := c6) (Rb.i1.read HS7) 23 9 5 Try.underlying23 Try.underlying5 Try.underlying9
  have hs2 := run_str (P := Try.prog) (c := c7) (Rb.i0.read HS7) 23 9 5 Try.underlying23 Try.underlying5 Try.underlying9
  generalize strOfNums q2 = sq2 at hs1 hs2
  have HS8 : Sep w w7 (fun _ => False) [] := HS7.sel 7 []
  go_wp2_with fail
  refine (ltape_calls HS8 (R2.out _) hL).mono ?_
  rintro e w9 ⟨g1, rfl, HS9⟩
  clear hs1 hs2
  go_wp2_with fail
  refine (ltape_calls HS9 (R2.out _) hL).mono ?_
  rintro e w10 ⟨g2, rfl, HS10⟩
  clear HSa HT HS3 HS4 HS5 HS6 HS7 HS8 HS9
  go_wp2_with fail
  refine (HT1.out HS10.up1).mono ?_
  rintro e w11 ⟨A11, c11, rfl, HS11⟩
  have HSA := HS11.alloc #[.int .u32 xo, .slice A11 xd.length c11] 31
  go_wp2_with fail
  refine (HT2.out HSA).mono ?_
  rintro e w12 ⟨A12, c12, rfl, HS12⟩
  have HSB := HS12.alloc #[.int .u32 xo, .slice A12 xd.length c12] 25
  have a0 := HSB.blk_at 0 rfl
  have a1 := HSB.blk_at 1 rfl
  have b0 := HSB.up2.blk_at 0 rfl
  have b1 := HSB.up2.blk_at 1 rfl
  go_wp2_with fail
  refine (israw_true (l := xd) HSB Rb.i3 Rb.i1).mono ?_
  rintro e w13 ⟨rfl, HS13⟩
  clear a0 a1 b0 b1
  go_wp2_with fail
  refine (len_calls HS13.up4).mono ?_
  rintro e w14 ⟨rfl, rfl⟩
  have HS14 : Sep w w13 (fun _ => False) (Go.Proofs.Ytgepekailoopeaa.tape g2 l :: []) := HS13.sel 6 [5]
  clear HS10 HS11 HS12 HSA HSB HS13
  go_wp2_with fail
  refine (HT3.out HS14).mono ?_
  rintro e w15 ⟨A15, c15, rfl, HS15⟩
  have HSC := HS15.alloc #[.int .u32 yo, .int .u32 yk, .slice A15 yd.length c15] 35
  go_wp2_with fail
  refine (HT4.out HSC).mono ?_
  rintro e w16 ⟨A16, c16, rfl, HS16⟩
  have HSD := HS16.alloc #[.int .u32 yo, .int .u32 yk, .slice A16 yd.length c16] 27
  have a0 := HSD.blk_at 0 rfl
  have a1 := HSD.blk_at 1 rfl
  have a2 := HSD.blk_at 2 rfl
  have b0 := HSD.up2.blk_at 0 rfl
  have b1 := HSD.up2.blk_at 1 rfl
  have b2 := HSD.up2.blk_at 2 rfl
  clear HS14 HS15 HS16 HSC
  have HSE : Sep w _ (fun _ => False) (own 27 3 (some ⟨w16.heap.size + 1, 0, none⟩) 1 1 (rrow [⟨yo, yk, A15, c15, yd⟩]) :: _) := HSD.litB #[.int .u32 yo, .int .u32 yk, .slice A15 yd.length c15] 27 3 1 rfl (by decide) (B := w16.heap.size + 1) (by simp)
  have HSF : Sep w _ (fun _ => False) (own 27 3 (some ⟨w16.heap.size + 2, 0, none⟩) 1 1 (rrow [⟨yo, yk, A16, c16, yd⟩]) :: _) := HSE.litB #[.int .u32 yo, .int .u32 yk, .slice A16 yd.length c16] 27 3 1 rfl (by decide) (B := w16.heap.size + 2) (by simp)
  go_wp2_with fail
  refine (rsame_true (rs := [⟨yo, yk, A15, c15, yd⟩]) (rs' := [⟨yo, yk, A16, c16, yd⟩]) HSF Rb.i1 Rb.i0 rfl (by intro r hr; obtain rfl := List.mem_singleton.1 hr; exact Rb.i5) (by intro r hr; obtain rfl := List.mem_singleton.1 hr; exact Rb.i3) (by decide)).mono ?_
  rintro e w17 ⟨rfl, HS17⟩
  clear a0 a1 a2 b0 b1 b2 HSD HSE HSF
  go_wp2_with fail
  refine (len_calls HS17.up6).mono ?_
  rintro e w18 ⟨rfl, rfl⟩
  go_wp2_with fail
  refine (wakes_calls HS17).mono ?_
  rintro e w19 ⟨rfl, HS19⟩
  go_wp2
  go_ret
  exact ⟨rfl, HS19.below⟩
end Go.Proofs.Ytgepekailoopeaa
