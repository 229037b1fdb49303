/-
  The walk of RequestPuts.
-/
import Derived.Test.YtbfcnbggkcaolaaLaw23
import Derived.Test.YtbfcnbggkcaolaaRef23Put
import Derived.Test.YtbfcnbggkcaolaaRef23Take
import Derived.Test.YtbfcnbggkcaolaaRef23Same
import Derived.Test.YtbfcnbggkcaolaaReqSees
namespace Go.Proofs.Ytbfcnbggkcaolaa
open Go.RowKit
set_option linter.unusedVariables false
set_option linter.unusedSimpArgs false

theorem takeReq_ok (l : List Int) : (takeReq l).ok = decide ((0 : Int) < ((takeReq l).gone l : Nat)) ∧ ((takeReq l).left.length : Int) = l.length - ((takeReq l).gone l : Nat) := by
  unfold Tk.gone takeReq
  have h : 28 ≤ rqSize l := by unfold rqSize; omega
  split
  · simp [noTk]
  · split
    · simp [noTk]
    · split
      · simp [noTk]
      · split
        · simp [noTk]
        · simp only [if_true, List.length_drop]
          exact ⟨(decide_eq_true (by omega)).symm, by omega⟩

theorem takeReq_byt {l : List Int} (hb : Byt l) : Byt (takeReq l).left ∧ Byt (takeReq l).d ∧ (takeReq l).left.length ≤ l.length ∧ (takeReq l).d.length ≤ l.length := by
  unfold takeReq
  split
  · exact ⟨hb, Byt.nil, Nat.le_refl _, Nat.zero_le _⟩
  · split
    · exact ⟨hb, Byt.nil, Nat.le_refl _, Nat.zero_le _⟩
    · split
      · exact ⟨hb, Byt.nil, Nat.le_refl _, Nat.zero_le _⟩
      · split
        · exact ⟨hb, Byt.nil, Nat.le_refl _, Nat.zero_le _⟩
        · refine ⟨hb.drop _, (hb.take _).drop _, ?_, ?_⟩
          · simp only [List.length_drop]; omega
          · simp only [List.length_drop, List.length_take]; omega

set_option maxHeartbeats 4000000 in
theorem requestPuts_walk (cs0 : Array Value) (A1 : Option Addr) (n1 c1 : Nat) (x0 : Sh.V (.agg (.pair (.int .i64) (.pair (.int .i64) (.pair (.int .u64) (.pair (.int .u64) (.pair (.int .u32) (.pair (.slice (.int .u8) 1) .unit)))))))) (x1 : Sh.V (.slice (.int .u8) 1)) (w : World) (s0 : Sees w.heap (.agg (.pair (.int .i64) (.pair (.int .i64) (.pair (.int .u64) (.pair (.int .u64) (.pair (.int .u32) (.pair (.slice (.int .u8) 1) .unit))))))) cs0.toList x0) (s1 : Sees w.heap (.slice (.int .u8) 1) [.slice A1 n1 c1] x1) (y0 : Light (.agg (.pair (.int .i64) (.pair (.int .i64) (.pair (.int .u64) (.pair (.int .u64) (.pair (.int .u32) (.pair (.slice (.int .u8) 1) .unit))))))) x0) (y1 : Light (.slice (.int .u8) 1) x1) :
    Calls Try.prog 5 #[.agg cs0, .slice A1 n1 c1] w fun e w' => e = .returned (.bool true) ∧ Below w.heap.size w w' := by
  obtain ⟨i0', hi0, hz0, hz1, hz2⟩ := info_parts info_u8
  obtain ⟨fl, kd, ck, off, len, A, c, d, rfl, ⟨f0, f1⟩, ⟨k0, k1⟩, ⟨ck0, ck1⟩, ⟨o0, o1⟩, ⟨l0, l1⟩, hr0, hc0, hb, hd⟩ := sees_req s0 y0
  obtain ⟨hn1, hr1, hc1, _, hw1⟩ := sees_ints s1
  obtain ⟨l, rfl⟩ : ∃ l : List Int, l = x1 := ⟨_, rfl⟩
  have hb1 := hid (kv_byt hw1)
  have ly1 : n1 ≤ 140737488351232 := by have := y1.1; omega
  have HR0 := hid (fun L => Rb.came (L := L) hr0)
  have HR1 := hid (fun L => Rb.came (L := L) hr1)
  have HB := hid hb
  have HN1 := hid hn1
  clear s0 s1 y0 y1 hw1 hr0 hr1 hb hn1
  generalize hn : d.length = n at *
  have HN := hid hn
  clear hn
  have HSb := ((Sep.start w).alloc #[.int .i64 fl, .int .i64 kd, .int .u64 ck, .int .u64 off, .int .u32 len, .slice A n c] 26).allocB #[.int .i64 fl, .int .i64 kd, .int .u64 ck, .int .u64 off, .int .u32 len, .slice A n c] 26 (B := w.heap.size + 1) (by simp)
  have a0 := HSb.up1.blk_at 0 rfl
  have a1 := HSb.up1.blk_at 1 rfl
  have a2 := HSb.up1.blk_at 2 rfl
  have a3 := HSb.up1.blk_at 3 rfl
  have a4 := HSb.up1.blk_at 4 rfl
  have a5 := HSb.up1.blk_at 5 rfl
  have hHN := HSb.nil 5 1
  have hrd := (HR0.out _).read hHN
  have hL : l.length ≤ 140737488355328 := by rw [← HN1.out]; omega
  go_enter Try.func5, Try.ntmps5
  go_upto_region 3 with (at_builtin; go_loud (refine wpList_append_sep rfl (.const (.slice none 0 0)) (.tmp 19) 24 rfl 5 i0' _ 1 1 Try.underlying24 hi0 hz0 hz1 hz2 rfl (by decide) rfl hHN rfl hrd (kv_one _ _) (by simp only [maxLen]; omega) (by omega) (Nat.zero_add n) rfl ?_); intro A9 c9 w9 HS9 hsz9; have b5 := HS9.up1.blk_frozen 5; have b6 := HS9.up1.blk_at 5 rfl)
  have HX : Sep w (w9.setCell ⟨w.heap.size + 1, 5, none⟩ (.slice A9 n c9)) (fun _ => False) [blk (w.heap.size + 1) 26 #[.int .i64 fl, .int .i64 kd, .int .u64 ck, .int .u64 off, .int .u32 len, .slice A9 n c9], own 5 1 A9 n c9 (by8 d), blk w.heap.size 26 #[.int .i64 fl, .int .i64 kd, .int .u64 ck, .int .u64 off, .int .u32 len, .slice A n c]] := by simpa using HS9.up1.blk_set 5 (.slice A9 n c9)
  obtain ⟨wx, hwx⟩ : ∃ wx, wx = w9.setCell ⟨w.heap.size + 1, 5, none⟩ (.slice A9 n c9) := ⟨_, rfl⟩
  rw [← hwx] at HX ⊢
  clear hwx HS9 HSb hHN hrd a0 a1 a2 a3 a4 a5 b5 b6 hsz9
  generalize w.heap.size = g0 at HX ⊢
  have e0 := HX.blk_at 0 rfl
  have e1 := HX.blk_at 1 rfl
  have e2 := HX.blk_at 2 rfl
  have e3 := HX.blk_at 3 rfl
  have e4 := HX.blk_at 4 rfl
  have e5 := HX.blk_at 5 rfl
  have a0 := HX.up2.blk_at 0 rfl
  have a1 := HX.up2.blk_at 1 rfl
  have a2 := HX.up2.blk_at 2 rfl
  have a3 := HX.up2.blk_at 3 rfl
  have a4 := HX.up2.blk_at 4 rfl
  have a5 := HX.up2.blk_at 5 rfl
  go_wp2_with fail
  refine (reqput_calls HX (A := A9) (d := d) (Rb.i1) (by omega) l0 l1 ck0 ck1 o0 o1).mono ?_
  rintro e w2 ⟨P, pc, rfl, HS2⟩
  clear e0 e1 e2 e3 e4 e5 a0 a1 a2 a3 a4 a5
  have e0 := HS2.up1.blk_at 0 rfl
  have e1 := HS2.up1.blk_at 1 rfl
  have e2 := HS2.up1.blk_at 2 rfl
  have e3 := HS2.up1.blk_at 3 rfl
  have e4 := HS2.up1.blk_at 4 rfl
  have e5 := HS2.up1.blk_at 5 rfl
  have a0 := HS2.up3.blk_at 0 rfl
  have a1 := HS2.up3.blk_at 1 rfl
  have a2 := HS2.up3.blk_at 2 rfl
  have a3 := HS2.up3.blk_at 3 rfl
  have a4 := HS2.up3.blk_at 4 rfl
  have a5 := HS2.up3.blk_at 5 rfl
  go_wp2_with fail
  refine (rput23_calls HS2 (HR0.out _) (by omega) l0 l1 ck0 ck1 o0 o1).mono ?_
  rintro e w3 ⟨Q, qc, rfl, HS3⟩
  clear e0 e1 e2 e3 e4 e5 a0 a1 a2 a3 a4 a5
  have e0 := HS3.up2.blk_at 0 rfl
  have e1 := HS3.up2.blk_at 1 rfl
  have e2 := HS3.up2.blk_at 2 rfl
  have e3 := HS3.up2.blk_at 3 rfl
  have e4 := HS3.up2.blk_at 4 rfl
  have e5 := HS3.up2.blk_at 5 rfl
  have a0 := HS3.up4.blk_at 0 rfl
  have a1 := HS3.up4.blk_at 1 rfl
  have a2 := HS3.up4.blk_at 2 rfl
  have a3 := HS3.up4.blk_at 3 rfl
  have a4 := HS3.up4.blk_at 4 rfl
  have a5 := HS3.up4.blk_at 5 rfl
  have hp1 := run_str (P := Try.prog) (c := pc) HS3.rd1 24 9 5 Try.underlying24 Try.underlying5 Try.underlying9
  have hp2 := run_str (P := Try.prog) (c := qc) HS3.rd0 24 9 5 Try.underlying24 Try.underlying5 Try.underlying9
  generalize strOfNums (reqOut fl kd ck off len d) = st at hp1 hp2
  go_wp2_with fail
  refine (rsame_true (d := d) HS3 (Rb.i3) (HR0.out _)).mono ?_
  rintro e w4 ⟨rfl, HS4⟩
  clear hp1 hp2 e0 e1 e2 e3 e4 e5 a0 a1 a2 a3 a4 a5
  go_wp2_with fail
  refine (ltape_calls HS4 (HR1.out _) (by omega)).mono ?_
  rintro e w5 ⟨g5, rfl, HS5⟩
  go_wp2_with fail
  refine (reqtake_calls HS5 hb1.out hL).mono ?_
  rintro e w6 ⟨X, xc, rfl, HS6⟩
  have HS7 := HS6.alloc #[.int .i64 (takeReq l).fl, .int .i64 (takeReq l).kd, .int .u64 (takeReq l).ck, .int .u64 (takeReq l).off, .int .u32 (takeReq l).len, .slice X (takeReq l).d.length xc] 26
  go_wp2_with fail
  refine (rtake23_calls HS7 (HR1.out _) hb1.out hc1 (by omega)).mono ?_
  rintro e w8 ⟨Y, yc, rfl, HS8⟩
  have HS9 := HS8.alloc #[.int .i64 (takeReq l).fl, .int .i64 (takeReq l).kd, .int .u64 (takeReq l).ck, .int .u64 (takeReq l).off, .int .u32 (takeReq l).len, .slice Y (takeReq l).d.length yc] 26
  obtain ⟨g6, hg6⟩ : ∃ g6, g6 = w6.heap.size := ⟨_, rfl⟩
  obtain ⟨g8, hg8⟩ : ∃ g8, g8 = w8.heap.size := ⟨_, rfl⟩
  obtain ⟨h1, h2⟩ := takeReq_ok l
  obtain ⟨h3, h4, h5, h6⟩ := takeReq_byt hb1.out
  have hll : (l.length : Int) = n1 := by rw [HN1.out]
  rw [hll] at h2
  have HT1 := hid h1
  have HT2 := hid h2
  clear h1 h2
  go_upto_region 10 with (fail)
  rw [← hg6, ← hg8] at HS9 ⊢
  obtain ⟨wy, hwy⟩ : ∃ wy, wy = w8.alloc (.cells #[.int .i64 (takeReq l).fl, .int .i64 (takeReq l).kd, .int .u64 (takeReq l).ck, .int .u64 (takeReq l).off, .int .u32 (takeReq l).len, .slice Y (takeReq l).d.length yc] 26) := ⟨_, rfl⟩
  rw [← hwy] at HS9 ⊢
  clear hg6 hg8 hwy HS8 HS7 HS6 HS5 HS4 HS3 HS2 HX
  have h7 := HT1.out
  have h8 := HT2.out
  generalize (takeReq l).ok = ok at *
  generalize (takeReq l).gone l = gn at *
  generalize (takeReq l).err = er at *
  generalize (takeReq l).fl = t1 at *
  generalize (takeReq l).kd = t2 at *
  generalize (takeReq l).ck = t3 at *
  generalize (takeReq l).off = t4 at *
  generalize (takeReq l).len = t5 at *
  generalize (takeReq l).d = td at *
  generalize (takeReq l).left = tl at *
  subst h7
  have e0 := HS9.blk_at 0 rfl
  have e1 := HS9.blk_at 1 rfl
  have e2 := HS9.blk_at 2 rfl
  have e3 := HS9.blk_at 3 rfl
  have e4 := HS9.blk_at 4 rfl
  have e5 := HS9.blk_at 5 rfl
  have a0 := HS9.up2.blk_at 0 rfl
  have a1 := HS9.up2.blk_at 1 rfl
  have a2 := HS9.up2.blk_at 2 rfl
  have a3 := HS9.up2.blk_at 3 rfl
  have a4 := HS9.up2.blk_at 4 rfl
  have a5 := HS9.up2.blk_at 5 rfl
  have i0 : 0 ≤ (n1 : Int) - gn := by omega
  have i1 : (n1 : Int) - gn ≤ 9223372036854775807 := by omega
  have h9 : ((tl.length : Int) == (n1 : Int) - gn) = true := by simp [h8]
  clear h8 hll
  go_wp2_with fail
  refine (rsame_true (d := td) HS9 (Rb.r0.cons.cons.cons) Rb.i1).mono ?_
  rintro e w10 ⟨rfl, HS10⟩
  go_wp2_with fail
  refine (len_calls (l := tl) HS10.up4).mono ?_
  rintro e w11 ⟨rfl, rfl⟩
  go_wp2_with fail
  refine (wakes_calls HS10).mono ?_
  rintro e w12 ⟨rfl, HS12⟩
  go_wp2
  go_ret
  exact ⟨rfl, HS12.below⟩
end Go.Proofs.Ytbfcnbggkcaolaa
