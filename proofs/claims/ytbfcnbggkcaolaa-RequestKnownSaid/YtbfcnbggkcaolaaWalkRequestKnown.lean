/-
  The walk of RequestKnown.
-/
import Derived.Test.YtbfcnbggkcaolaaLaw23
import Derived.Test.YtbfcnbggkcaolaaReqNil
import Derived.Test.YtbfcnbggkcaolaaRef22
import Derived.Test.YtbfcnbggkcaolaaView
namespace Go.Proofs.Ytbfcnbggkcaolaa
open Go.RowKit
set_option linter.unusedVariables false
set_option linter.unusedSimpArgs false

set_option maxHeartbeats 4000000 in
set_option maxRecDepth 100000 in
theorem requestKnown_walk (w : World) :
    Calls Try.prog 6 #[] w fun e w' => e = .returned (.bool true) ∧ Below w.heap.size w w' := by
  have HS := Sep.start w
  have kc := const_bytes
  have hmk : ∀ w, (Instr.makeSlice 24 (.int .i64 4097) (.int .i64 4097)).run Try.prog w = .ok (.slice (some ⟨w.heap.size, 0, none⟩) 4097 4097) (w.alloc (.cells (by8 (List.replicate 4097 0)).toArray 5)) := mk_u8 4097 (by decide)
  obtain ⟨z, hz⟩ : ∃ z : List Int, z = List.replicate 4097 0 := ⟨_, rfl⟩
  have hzl : z.length = 4097 := by rw [hz, List.length_replicate]
  rw [← hz] at hmk
  clear hz
  have e3 : reqErr 0 1 4097 z = 3 := by unfold reqErr; rw [hzl]; decide
  have e3' : reqOut 0 1 0 0 4097 z = [] := by unfold reqOut; rw [e3]; rfl
  have HE3 := hid e3
  have HO3 := hid e3'
  have HZ := hid hzl
  clear e3 e3' hzl
  go_enter Try.func6, Try.ntmps6
  go_wp2_with fail
  refine (reqput_calls (fl := 0) (kd := 0) (ck := 0) (off := 0) (len := 0) (d := [120]) (HS.mark #[.int .u8 120] 5 (1, 2) 1 rfl rfl) Rb.r0 (by decide) (by decide) (by decide) (by decide) (by decide) (by decide) (by decide)).mono ?_
  rintro e w1 ⟨A1, c1, rfl, HS1⟩
  rw [show reqErr 0 0 0 [120] = 1 from by decide]
  go_wp2_with fail
  refine (reqput_calls (fl := 0) (kd := 1) (ck := 0) (off := 0) (len := 1) (d := []) HS1 Rb.nil (by decide) (by decide) (by decide) (by decide) (by decide) (by decide) (by decide)).mono ?_
  rintro e w2 ⟨A2, c2, rfl, HS2⟩
  rw [show reqErr 0 1 1 [] = 1 from by decide]
  go_wp2_with fail
  have HS2' := HS2.lit (by8 z).toArray 5 1 4097 (by simp [kv, HZ.out]) (by decide)
  refine (reqput_calls (fl := 0) (kd := 1) (ck := 0) (off := 0) (len := 4097) (d := z) HS2' Rb.i0 (by decide) (by decide) (by decide) (by decide) (by decide) (by decide) (by decide)).mono ?_
  rintro e w3 ⟨A3, c3, rfl, HS3⟩
  rw [HE3.out, HO3.out]
  clear HS2'
  go_wp2_with fail
  refine (reqput_calls (fl := 0) (kd := 65536) (ck := 0) (off := 0) (len := 0) (d := []) HS3 Rb.nil (by decide) (by decide) (by decide) (by decide) (by decide) (by decide) (by decide)).mono ?_
  rintro e w4 ⟨A4, c4, rfl, HS4⟩
  rw [show reqErr 0 65536 0 [] = 1 from by decide]
  go_wp2_with fail
  refine (reqput_calls (fl := 65535) (kd := 65535) (ck := 0) (off := 18446744073709551615) (len := 4294967295) (d := []) HS4 Rb.nil (by decide) (by decide) (by decide) (by decide) (by decide) (by decide) (by decide)).mono ?_
  rintro e w5 ⟨A5, c5, rfl, HS5⟩
  rw [show reqErr 65535 65535 4294967295 [] = 0 from by decide, show (reqOut 65535 65535 0 18446744073709551615 4294967295 []).length = 28 from by kernel_rfl]
  go_wp2_with fail
  refine (reqtake_nil HS5).mono ?_
  rintro e w6 ⟨rfl, HS6⟩
  go_wp2_with fail
  refine (reptake_nil (m := 0) (by decide) (HS6.alloc_ _)).mono ?_
  rintro e w7 ⟨rfl, HS7⟩
  go_wp2_with fail
  refine (reptake_n (l := []) (HS7.alloc_ _) (.inr (by decide))).mono ?_
  rintro e w8 ⟨rfl, HS8⟩
  go_wp2_with fail
  refine (ltape_calls (l := [37, 96, 149, 20]) ((HS8.alloc_ (.cells #[.int .u32 0, .int .u64 0, .slice none 0 0] 51)).litB #[.int .u8 37, .int .u8 96, .int .u8 149, .int .u8 20] 5 1 4 rfl (by decide) (by simp)) Rb.i0 (by decide)).mono ?_
  rintro e w9 ⟨g9, rfl, HS9⟩
  go_wp2_with fail
  refine (reqtake_calls HS9 (by decide) (by decide)).mono ?_
  rintro e w10 ⟨A10, c10, rfl, HS10⟩
  rw [show takeReq [37, 96, 149, 20] = ⟨false, 33, 0, 0, 0, 0, 0, [], [37, 96, 149, 20]⟩ from by kernel_rfl] at HS10 ⊢
  have kc2 := const_bytes2
  go_wp2_with fail
  have HS11 := (HS10.alloc_ (.cells #[.int .i64 0, .int .i64 0, .int .u64 0, .int .u64 0, .int .u32 0, .slice A10 0 c10] 26)).mark #[.int .u8 120] 5 (1, 2) 1 rfl (B := w10.heap.size + 1) (by simp)
  refine (repput_calls (er := 5) (ck := 0) (d := [120]) HS11 Rb.r0 (by decide) (by decide) (by decide) (by decide)).mono ?_
  rintro e w11 ⟨A11, c11, rfl, HS12⟩
  rw [show repErr 5 [120] = 1 from by decide]
  have n1 : (noTr 1 []).err = 1 := rfl
  have HV := ((HS12.alloc #[.int .u64 0, .string ⟨#[]⟩, .int .u64 512, .int .u64 0, .bool false, .int .u64 0] 28).allocB #[.int .u64 0, .string ⟨#[]⟩, .int .u64 512, .int .u64 0, .bool true, .int .u64 0] 28 (B := w11.heap.size + 1) (by simp)).allocB #[.int .i64 0, .int .i64 1, .int .u64 0, .int .u64 510, .int .u32 4, .slice none 0 0] 26 (B := w11.heap.size + 1 + 1) (by simp)
  clear HS1 HS2 HS3 HS4 HS5 HS6 HS7 HS8 HS9 HS10 HS11 HS12 hmk kc kc2
  go_upto_region 18 with (fail)
  obtain ⟨wv, hwv⟩ : ∃ wv, wv = ((w11.alloc (.cells #[.int .u64 0, .string ⟨#[]⟩, .int .u64 512, .int .u64 0, .bool false, .int .u64 0] 28)).alloc (.cells #[.int .u64 0, .string ⟨#[]⟩, .int .u64 512, .int .u64 0, .bool true, .int .u64 0] 28)).alloc (.cells #[.int .i64 0, .int .i64 1, .int .u64 0, .int .u64 510, .int .u32 4, .slice none 0 0] 26) := ⟨_, rfl⟩
  rw [← hwv] at HV ⊢
  clear hwv
  have r0 := HV.blk_at 0 rfl
  have r1 := HV.blk_at 1 rfl
  have r2 := HV.blk_at 2 rfl
  have r3 := HV.blk_at 3 rfl
  have r4 := HV.blk_at 4 rfl
  have r5 := HV.blk_at 5 rfl
  have x0 := HV.up1.blk_at 0 rfl
  have x1 := HV.up1.blk_at 1 rfl
  have x2 := HV.up1.blk_at 2 rfl
  have x3 := HV.up1.blk_at 3 rfl
  have x4 := HV.up1.blk_at 4 rfl
  have x5 := HV.up1.blk_at 5 rfl
  have v0 := HV.up2.blk_at 0 rfl
  have v1 := HV.up2.blk_at 1 rfl
  have v2 := HV.up2.blk_at 2 rfl
  have v3 := HV.up2.blk_at 3 rfl
  have v4 := HV.up2.blk_at 4 rfl
  have v5 := HV.up2.blk_at 5 rfl
  go_wp2_with fail
  refine (check_calls (fl := 0) (kd := 1) (off := 510) (len := 4) (size := 512) (fixed := false) HV (by decide) (by decide) (by decide) (by decide) (by decide) (by decide) (by decide) (by decide)).mono ?_
  rintro e y0 ⟨rfl, HC0⟩
  rw [show reqCheck 0 1 510 4 512 false = 31 from by decide]
  clear HV
  clear r0 r1 r2 r3 r4 r5 x0 x1 x2 x3 x4 x5 v0 v1 v2 v3 v4 v5
  have r0 := HC0.blk_at 0 rfl
  have r1 := HC0.blk_at 1 rfl
  have r2 := HC0.blk_at 2 rfl
  have r3 := HC0.blk_at 3 rfl
  have r4 := HC0.blk_at 4 rfl
  have r5 := HC0.blk_at 5 rfl
  have x0 := HC0.up1.blk_at 0 rfl
  have x1 := HC0.up1.blk_at 1 rfl
  have x2 := HC0.up1.blk_at 2 rfl
  have x3 := HC0.up1.blk_at 3 rfl
  have x4 := HC0.up1.blk_at 4 rfl
  have x5 := HC0.up1.blk_at 5 rfl
  have v0 := HC0.up2.blk_at 0 rfl
  have v1 := HC0.up2.blk_at 1 rfl
  have v2 := HC0.up2.blk_at 2 rfl
  have v3 := HC0.up2.blk_at 3 rfl
  have v4 := HC0.up2.blk_at 4 rfl
  have v5 := HC0.up2.blk_at 5 rfl
  go_wp2_with fail
  refine (check_calls (fl := 0) (kd := 1) (off := 510) (len := 4) (size := 512) (fixed := true) HC0 (by decide) (by decide) (by decide) (by decide) (by decide) (by decide) (by decide) (by decide)).mono ?_
  rintro e y1 ⟨rfl, HC1⟩
  rw [show reqCheck 0 1 510 4 512 true = 30 from by decide]
  clear HC0
  clear r0 r1 r2 r3 r4 r5 x0 x1 x2 x3 x4 x5 v0 v1 v2 v3 v4 v5
  have r0 := HC1.blk_at 0 rfl
  have r1 := HC1.blk_at 1 rfl
  have r2 := HC1.blk_at 2 rfl
  have r3 := HC1.blk_at 3 rfl
  have r4 := HC1.blk_at 4 rfl
  have r5 := HC1.blk_at 5 rfl
  have x0 := HC1.up1.blk_at 0 rfl
  have x1 := HC1.up1.blk_at 1 rfl
  have x2 := HC1.up1.blk_at 2 rfl
  have x3 := HC1.up1.blk_at 3 rfl
  have x4 := HC1.up1.blk_at 4 rfl
  have x5 := HC1.up1.blk_at 5 rfl
  have v0 := HC1.up2.blk_at 0 rfl
  have v1 := HC1.up2.blk_at 1 rfl
  have v2 := HC1.up2.blk_at 2 rfl
  have v3 := HC1.up2.blk_at 3 rfl
  have v4 := HC1.up2.blk_at 4 rfl
  have v5 := HC1.up2.blk_at 5 rfl
  go_wp2_with fail
  refine (check_calls (fl := 0) (kd := 0) (off := 0) (len := 4097) (size := 512) (fixed := true) HC1 (by decide) (by decide) (by decide) (by decide) (by decide) (by decide) (by decide) (by decide)).mono ?_
  rintro e y2 ⟨rfl, HC2⟩
  rw [show reqCheck 0 0 0 4097 512 true = 3 from by decide]
  clear HC1
  clear r0 r1 r2 r3 r4 r5 x0 x1 x2 x3 x4 x5 v0 v1 v2 v3 v4 v5
  have r0 := HC2.blk_at 0 rfl
  have r1 := HC2.blk_at 1 rfl
  have r2 := HC2.blk_at 2 rfl
  have r3 := HC2.blk_at 3 rfl
  have r4 := HC2.blk_at 4 rfl
  have r5 := HC2.blk_at 5 rfl
  have x0 := HC2.up1.blk_at 0 rfl
  have x1 := HC2.up1.blk_at 1 rfl
  have x2 := HC2.up1.blk_at 2 rfl
  have x3 := HC2.up1.blk_at 3 rfl
  have x4 := HC2.up1.blk_at 4 rfl
  have x5 := HC2.up1.blk_at 5 rfl
  have v0 := HC2.up2.blk_at 0 rfl
  have v1 := HC2.up2.blk_at 1 rfl
  have v2 := HC2.up2.blk_at 2 rfl
  have v3 := HC2.up2.blk_at 3 rfl
  have v4 := HC2.up2.blk_at 4 rfl
  have v5 := HC2.up2.blk_at 5 rfl
  go_wp2_with fail
  refine (check_calls (fl := 0) (kd := 1) (off := 0) (len := 4097) (size := 512) (fixed := true) HC2 (by decide) (by decide) (by decide) (by decide) (by decide) (by decide) (by decide) (by decide)).mono ?_
  rintro e y3 ⟨rfl, HC3⟩
  rw [show reqCheck 0 1 0 4097 512 true = 3 from by decide]
  clear HC2
  clear r0 r1 r2 r3 r4 r5 x0 x1 x2 x3 x4 x5 v0 v1 v2 v3 v4 v5
  have r0 := HC3.blk_at 0 rfl
  have r1 := HC3.blk_at 1 rfl
  have r2 := HC3.blk_at 2 rfl
  have r3 := HC3.blk_at 3 rfl
  have r4 := HC3.blk_at 4 rfl
  have r5 := HC3.blk_at 5 rfl
  have x0 := HC3.up1.blk_at 0 rfl
  have x1 := HC3.up1.blk_at 1 rfl
  have x2 := HC3.up1.blk_at 2 rfl
  have x3 := HC3.up1.blk_at 3 rfl
  have x4 := HC3.up1.blk_at 4 rfl
  have x5 := HC3.up1.blk_at 5 rfl
  have v0 := HC3.up2.blk_at 0 rfl
  have v1 := HC3.up2.blk_at 1 rfl
  have v2 := HC3.up2.blk_at 2 rfl
  have v3 := HC3.up2.blk_at 3 rfl
  have v4 := HC3.up2.blk_at 4 rfl
  have v5 := HC3.up2.blk_at 5 rfl
  go_wp2_with fail
  refine (check_calls (fl := 0) (kd := 3) (off := 0) (len := 1) (size := 512) (fixed := false) HC3 (by decide) (by decide) (by decide) (by decide) (by decide) (by decide) (by decide) (by decide)).mono ?_
  rintro e y4 ⟨rfl, HC4⟩
  rw [show reqCheck 0 3 0 1 512 false = 1 from by decide]
  clear HC3
  clear r0 r1 r2 r3 r4 r5 x0 x1 x2 x3 x4 x5 v0 v1 v2 v3 v4 v5
  have r0 := HC4.blk_at 0 rfl
  have r1 := HC4.blk_at 1 rfl
  have r2 := HC4.blk_at 2 rfl
  have r3 := HC4.blk_at 3 rfl
  have r4 := HC4.blk_at 4 rfl
  have r5 := HC4.blk_at 5 rfl
  have x0 := HC4.up1.blk_at 0 rfl
  have x1 := HC4.up1.blk_at 1 rfl
  have x2 := HC4.up1.blk_at 2 rfl
  have x3 := HC4.up1.blk_at 3 rfl
  have x4 := HC4.up1.blk_at 4 rfl
  have x5 := HC4.up1.blk_at 5 rfl
  have v0 := HC4.up2.blk_at 0 rfl
  have v1 := HC4.up2.blk_at 1 rfl
  have v2 := HC4.up2.blk_at 2 rfl
  have v3 := HC4.up2.blk_at 3 rfl
  have v4 := HC4.up2.blk_at 4 rfl
  have v5 := HC4.up2.blk_at 5 rfl
  go_wp2_with fail
  refine (check_calls (fl := 3) (kd := 6) (off := 0) (len := 512) (size := 512) (fixed := false) HC4 (by decide) (by decide) (by decide) (by decide) (by decide) (by decide) (by decide) (by decide)).mono ?_
  rintro e y5 ⟨rfl, HC5⟩
  rw [show reqCheck 3 6 0 512 512 false = 0 from by decide]
  clear HC4
  clear r0 r1 r2 r3 r4 r5 x0 x1 x2 x3 x4 x5 v0 v1 v2 v3 v4 v5
  have r0 := HC5.blk_at 0 rfl
  have r1 := HC5.blk_at 1 rfl
  have r2 := HC5.blk_at 2 rfl
  have r3 := HC5.blk_at 3 rfl
  have r4 := HC5.blk_at 4 rfl
  have r5 := HC5.blk_at 5 rfl
  have x0 := HC5.up1.blk_at 0 rfl
  have x1 := HC5.up1.blk_at 1 rfl
  have x2 := HC5.up1.blk_at 2 rfl
  have x3 := HC5.up1.blk_at 3 rfl
  have x4 := HC5.up1.blk_at 4 rfl
  have x5 := HC5.up1.blk_at 5 rfl
  have v0 := HC5.up2.blk_at 0 rfl
  have v1 := HC5.up2.blk_at 1 rfl
  have v2 := HC5.up2.blk_at 2 rfl
  have v3 := HC5.up2.blk_at 3 rfl
  have v4 := HC5.up2.blk_at 4 rfl
  have v5 := HC5.up2.blk_at 5 rfl
  go_wp2_with fail
  refine (check_calls (fl := 2) (kd := 4) (off := 0) (len := 0) (size := 512) (fixed := false) HC5 (by decide) (by decide) (by decide) (by decide) (by decide) (by decide) (by decide) (by decide)).mono ?_
  rintro e y6 ⟨rfl, HC6⟩
  rw [show reqCheck 2 4 0 0 512 false = 1 from by decide]
  clear HC5
  clear r0 r1 r2 r3 r4 r5 x0 x1 x2 x3 x4 x5 v0 v1 v2 v3 v4 v5
  have r0 := HC6.blk_at 0 rfl
  have r1 := HC6.blk_at 1 rfl
  have r2 := HC6.blk_at 2 rfl
  have r3 := HC6.blk_at 3 rfl
  have r4 := HC6.blk_at 4 rfl
  have r5 := HC6.blk_at 5 rfl
  have x0 := HC6.up1.blk_at 0 rfl
  have x1 := HC6.up1.blk_at 1 rfl
  have x2 := HC6.up1.blk_at 2 rfl
  have x3 := HC6.up1.blk_at 3 rfl
  have x4 := HC6.up1.blk_at 4 rfl
  have x5 := HC6.up1.blk_at 5 rfl
  have v0 := HC6.up2.blk_at 0 rfl
  have v1 := HC6.up2.blk_at 1 rfl
  have v2 := HC6.up2.blk_at 2 rfl
  have v3 := HC6.up2.blk_at 3 rfl
  have v4 := HC6.up2.blk_at 4 rfl
  have v5 := HC6.up2.blk_at 5 rfl
  go_wp2_with fail
  refine (check_calls (fl := 0) (kd := 2) (off := 1099511627776) (len := 0) (size := 512) (fixed := true) HC6 (by decide) (by decide) (by decide) (by decide) (by decide) (by decide) (by decide) (by decide)).mono ?_
  rintro e y7 ⟨rfl, HC7⟩
  rw [show reqCheck 0 2 1099511627776 0 512 true = 0 from by decide]
  clear HC6
  clear r0 r1 r2 r3 r4 r5 x0 x1 x2 x3 x4 x5 v0 v1 v2 v3 v4 v5
  have r0 := HC7.blk_at 0 rfl
  have r1 := HC7.blk_at 1 rfl
  have r2 := HC7.blk_at 2 rfl
  have r3 := HC7.blk_at 3 rfl
  have r4 := HC7.blk_at 4 rfl
  have r5 := HC7.blk_at 5 rfl
  have x0 := HC7.up1.blk_at 0 rfl
  have x1 := HC7.up1.blk_at 1 rfl
  have x2 := HC7.up1.blk_at 2 rfl
  have x3 := HC7.up1.blk_at 3 rfl
  have x4 := HC7.up1.blk_at 4 rfl
  have x5 := HC7.up1.blk_at 5 rfl
  have v0 := HC7.up2.blk_at 0 rfl
  have v1 := HC7.up2.blk_at 1 rfl
  have v2 := HC7.up2.blk_at 2 rfl
  have v3 := HC7.up2.blk_at 3 rfl
  have v4 := HC7.up2.blk_at 4 rfl
  have v5 := HC7.up2.blk_at 5 rfl
  go_wp2_with fail
  refine (check_calls (fl := 0) (kd := 0) (off := 18446744073709551615) (len := 2) (size := 512) (fixed := false) HC7 (by decide) (by decide) (by decide) (by decide) (by decide) (by decide) (by decide) (by decide)).mono ?_
  rintro e y8 ⟨rfl, HC8⟩
  rw [show reqCheck 0 0 18446744073709551615 2 512 false = 31 from by decide]
  clear HC7
  clear r0 r1 r2 r3 r4 r5 x0 x1 x2 x3 x4 x5 v0 v1 v2 v3 v4 v5
  have r0 := HC8.blk_at 0 rfl
  have r1 := HC8.blk_at 1 rfl
  have r2 := HC8.blk_at 2 rfl
  have r3 := HC8.blk_at 3 rfl
  have r4 := HC8.blk_at 4 rfl
  have r5 := HC8.blk_at 5 rfl
  have x0 := HC8.up1.blk_at 0 rfl
  have x1 := HC8.up1.blk_at 1 rfl
  have x2 := HC8.up1.blk_at 2 rfl
  have x3 := HC8.up1.blk_at 3 rfl
  have x4 := HC8.up1.blk_at 4 rfl
  have x5 := HC8.up1.blk_at 5 rfl
  have v0 := HC8.up2.blk_at 0 rfl
  have v1 := HC8.up2.blk_at 1 rfl
  have v2 := HC8.up2.blk_at 2 rfl
  have v3 := HC8.up2.blk_at 3 rfl
  have v4 := HC8.up2.blk_at 4 rfl
  have v5 := HC8.up2.blk_at 5 rfl
  go_wp2_with fail
  refine (wakes_calls HC8).mono ?_
  rintro e y9 ⟨rfl, HC9⟩
  go_wp2
  go_ret
  exact ⟨rfl, HC9.below⟩
end Go.Proofs.Ytbfcnbggkcaolaa
