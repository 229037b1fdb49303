/-
  The walk of RequestGrows.
-/
import Derived.Test.YtbfcnbggkcaolaaLaw23
import Derived.Test.YtbfcnbggkcaolaaReqSees
namespace Go.Proofs.Ytbfcnbggkcaolaa
open Go.RowKit
set_option linter.unusedVariables false
set_option linter.unusedSimpArgs false

theorem wrap64 {x : Int} (h0 : 0 ≤ x) (h1 : x < 18446744073709551616) : IntKind.u64.wrap x = x := by
  rw [IntKind.wrap_u64]; omega
theorem grow_cases {fl kd off len size gs : Int} {fixed : Bool} (h : size ≤ gs) : reqCheck fl kd off len gs fixed = reqCheck fl kd off len size fixed ∨ (reqCheck fl kd off len size fixed = 31 ∧ reqCheck fl kd off len gs fixed = 0) := by
  unfold reqCheck firstBad firstBad firstBad firstBad firstBad firstBad
  by_cases h1 : chk kd fl = 0 <;> by_cases h2 : rPlain kd off len = 0 <;> by_cases h3 : rLong kd len = 0 <;> by_cases h4 : rFixed kd fixed = 0 <;> simp [h1, h2, h3, h4]
  unfold rWithin within
  by_cases a : off ≤ size <;> by_cases b : len ≤ size - off <;> by_cases a' : off ≤ gs <;> by_cases b' : len ≤ gs - off <;> simp [a, b, a', b'] <;> omega
theorem part_ok {fl kd off len size off' len' : Int} {fixed : Bool} (hk : kd ≤ 1) (h : reqCheck fl kd off len size fixed = 0) (h1 : off' + len' ≤ off + len) (h2 : len' ≤ len) (h4 : 0 ≤ len') : reqCheck fl kd off' len' size fixed = 0 ∧ off + len ≤ size := by
  have hz : ∀ a b c d e : Int, firstBad [a, b, c, d, e] = 0 ↔ a = 0 ∧ b = 0 ∧ c = 0 ∧ d = 0 ∧ e = 0 := by
    intro a b c d e
    by_cases ha : a = 0 <;> by_cases hb : b = 0 <;> by_cases hc : c = 0 <;> by_cases hd : d = 0 <;> by_cases he : e = 0 <;> simp [firstBad, ha, hb, hc, hd, he]
  unfold reqCheck at h ⊢
  rw [hz] at h ⊢
  obtain ⟨e1, e2, e3, e4, e5⟩ := h
  have hw : off ≤ size ∧ len ≤ size - off := by
    unfold rWithin within at e5
    by_cases a : off ≤ size <;> by_cases b : len ≤ size - off <;> simp [a, b] at e5 ⊢ <;> omega
  have hw' : within off' len' size = true := by
    unfold within
    rw [decide_eq_true (by omega : off' ≤ size), decide_eq_true (by omega : len' ≤ size - off')]; rfl
  refine ⟨⟨e1, ?_, ?_, e4, ?_⟩, by omega⟩
  · unfold rPlain; rw [if_neg (by omega)]
  · unfold rLong at e3 ⊢
    split at e3
    · cases e3
    · rw [if_neg (by omega)]
  · unfold rWithin; rw [hw', if_neg (by simp)]

set_option maxHeartbeats 2000000 in
theorem requestGrows_walk (cs0 : Array Value) (cs1 : Array Value) (a2 : Int) (cs3 : Array Value) (x0 : Sh.V (.agg (.pair (.int .i64) (.pair (.int .i64) (.pair (.int .u64) (.pair (.int .u64) (.pair (.int .u32) (.pair (.slice (.int .u8) 1) .unit)))))))) (x1 : Sh.V (.agg (.pair (.int .u64) (.pair .str (.pair (.int .u64) (.pair (.int .u64) (.pair .bool (.pair (.int .u64) .unit)))))))) (x2 : Sh.V (.int .u64)) (x3 : Sh.V (.agg (.pair (.int .u32) (.pair (.int .u32) .unit)))) (w : World) (s0 : Sees w.heap (.agg (.pair (.int .i64) (.pair (.int .i64) (.pair (.int .u64) (.pair (.int .u64) (.pair (.int .u32) (.pair (.slice (.int .u8) 1) .unit))))))) cs0.toList x0) (s1 : Sees w.heap (.agg (.pair (.int .u64) (.pair .str (.pair (.int .u64) (.pair (.int .u64) (.pair .bool (.pair (.int .u64) .unit))))))) cs1.toList x1) (s2 : Sees w.heap (.int .u64) [.int .u64 a2] x2) (s3 : Sees w.heap (.agg (.pair (.int .u32) (.pair (.int .u32) .unit))) cs3.toList x3) (y0 : Light (.agg (.pair (.int .i64) (.pair (.int .i64) (.pair (.int .u64) (.pair (.int .u64) (.pair (.int .u32) (.pair (.slice (.int .u8) 1) .unit))))))) x0) (y1 : Light (.agg (.pair (.int .u64) (.pair .str (.pair (.int .u64) (.pair (.int .u64) (.pair .bool (.pair (.int .u64) .unit))))))) x1) (y2 : Light (.int .u64) x2) (y3 : Light (.agg (.pair (.int .u32) (.pair (.int .u32) .unit))) x3) :
    Calls Try.prog 4 #[.agg cs0, .agg cs1, .int .u64 a2, .agg cs3] w fun e w' => e = .returned (.bool true) ∧ Below w.heap.size w w' := by
  obtain ⟨fl, kd, ck, off, len, A, c, d, rfl, ⟨f0, f1⟩, ⟨k0, k1⟩, ⟨ck0, ck1⟩, ⟨o0, o1⟩, ⟨l0, l1⟩, hr0, hc0, hb, hd⟩ := sees_req s0 y0
  obtain ⟨id, nm, size, root, fixed, orig, rfl, z0, z1⟩ := sees_vol s1
  obtain ⟨p0, p1, rfl, ⟨pa0, pa1⟩, ⟨pb0, pb1⟩⟩ : ∃ p0 p1 : Int, cs3 = #[.int .u32 p0, .int .u32 p1] ∧ (0 ≤ p0 ∧ p0 < 4294967296) ∧ (0 ≤ p1 ∧ p1 < 4294967296) := by
    obtain ⟨p0, p1, _⟩ := x3
    obtain ⟨q1, r1, hcs, hl1, ⟨rfl, hb1⟩, q2, r2, rfl, hl2, ⟨rfl, hb2⟩, rfl⟩ := s3
    have g1 := bounds_u32 hb1
    have g2 := bounds_u32 hb2
    exact ⟨p0, p1, by apply Array.toList_inj.1; rw [hcs]; rfl, by dsimp only at g1; omega, by dsimp only at g2; omega⟩
  obtain ⟨m0, m1⟩ : 0 ≤ a2 ∧ a2 < 18446744073709551616 := by
    have := bounds_u64 s2.2
    obtain ⟨e, _⟩ := s2
    injection e with e
    injection e with _ e
    omega
  generalize hn : d.length = n at *
  clear hn
  have HS := (((Sep.start w).alloc #[.int .i64 fl, .int .i64 kd, .int .u64 ck, .int .u64 off, .int .u32 len, .slice A n c] 26).allocB #[.int .u64 id, .string nm, .int .u64 size, .int .u64 root, .bool fixed, .int .u64 orig] 28 (B := w.heap.size + 1) (by simp)).allocB #[.int .u32 p0, .int .u32 p1] 35 (B := w.heap.size + 1 + 1) (by simp)
  clear s0 y0 s1 y1 hr0 s2 y2 s3 y3
  obtain ⟨gs, hgs⟩ : ∃ gs, gs = if size < a2 then a2 else size := ⟨_, rfl⟩
  have hgs1 : size ≤ gs := by rw [hgs]; split <;> omega
  have hgs2 : gs < 18446744073709551616 := by rw [hgs]; split <;> omega
  have HGS := hid hgs
  clear hgs
  obtain ⟨E, hE⟩ : ∃ E, E = reqCheck fl kd off len size fixed := ⟨_, rfl⟩
  obtain ⟨F, hF⟩ : ∃ F, F = reqCheck fl kd off len gs fixed := ⟨_, rfl⟩
  have key : (E = 0 ∧ F = 0) ∨ ((E == 0) = false ∧ (E != F) = false ∧ (E != 0) = true) ∨ (E = 31 ∧ F = 0) := by
    rcases grow_cases (fl := fl) (kd := kd) (off := off) (len := len) (fixed := fixed) hgs1 with h | ⟨h1, h2⟩
    · rw [← hE, ← hF] at h
      subst h
      by_cases h0 : F = 0
      · exact .inl ⟨h0, h0⟩
      · exact .inr (.inl (by simp [h0]))
    · rw [← hE] at h1; rw [← hF] at h2
      exact .inr (.inr ⟨h1, h2⟩)
  have HE := hid hE
  have HF := hid hF
  clear hE hF
  go_enter Try.func4, Try.ntmps4
  go_wp2_with fail
  obtain ⟨g0, hg0⟩ : ∃ g0, g0 = w.heap.size := ⟨_, rfl⟩
  rw [← hg0] at HS ⊢
  clear hg0
  refine (check_calls HS f0 f1 l0 l1 o0 o1 z0 z1).mono ?_
  rintro e w1 ⟨rfl, HS1⟩
  rw [← HE.out]
  clear HS
  have v0 := HS1.up1.blk_at 0 rfl
  have v1 := HS1.up1.blk_at 1 rfl
  have v2 := HS1.up1.blk_at 2 rfl
  have v3 := HS1.up1.blk_at 3 rfl
  have v4 := HS1.up1.blk_at 4 rfl
  have v5 := HS1.up1.blk_at 5 rfl
  have r0 := HS1.up2.blk_at 0 rfl
  have r1 := HS1.up2.blk_at 1 rfl
  have r2 := HS1.up2.blk_at 2 rfl
  have r3 := HS1.up2.blk_at 3 rfl
  have r4 := HS1.up2.blk_at 4 rfl
  have r5 := HS1.up2.blk_at 5 rfl
  have HA := HS1.alloc #[.int .u64 id, .string nm, .int .u64 size, .int .u64 root, .bool fixed, .int .u64 orig] 28
  have q2 := HA.up2.blk_at 2 rfl
  go_upto_region 4 with (fail)
  rw [← HGS.out]
  have HG := HS1.alloc #[.int .u64 id, .string nm, .int .u64 gs, .int .u64 root, .bool fixed, .int .u64 orig] 28
  clear HA q2
  have q0 := HG.blk_at 0 rfl
  have q1 := HG.blk_at 1 rfl
  have q2 := HG.blk_at 2 rfl
  have q3 := HG.blk_at 3 rfl
  have q4 := HG.blk_at 4 rfl
  have q5 := HG.blk_at 5 rfl
  have p0' := HG.up3.blk_at 0 rfl
  have p1' := HG.up3.blk_at 1 rfl
  have p2 := HG.up3.blk_at 2 rfl
  have p3 := HG.up3.blk_at 3 rfl
  have p4 := HG.up3.blk_at 4 rfl
  have p5 := HG.up3.blk_at 5 rfl
  obtain ⟨g1, hg1⟩ : ∃ g1, g1 = w1.heap.size := ⟨_, rfl⟩
  obtain ⟨w2, hw2⟩ : ∃ w2, w2 = w1.alloc (.cells #[.int .u64 id, .string nm, .int .u64 gs, .int .u64 root, .bool fixed, .int .u64 orig] 28) := ⟨_, rfl⟩
  rw [← hg1, ← hw2] at HG q0 q1 q2 q3 q4 q5 ⊢
  rw [← hw2] at p0' p1' p2 p3 p4 p5
  clear hg1 hw2 HS1 v0 v1 v2 v3 v4 v5 r0 r1 r2 r3 r4 r5
  go_wp2_with fail
  refine (check_calls HG f0 f1 l0 l1 o0 o1 (by omega) hgs2).mono ?_
  rintro e w3 ⟨rfl, HS3⟩
  rw [← HF.out]
  clear HG q0 q1 q2 q3 q4 q5 p0' p1' p2 p3 p4 p5
  have v0 := HS3.up2.blk_at 0 rfl
  have v1 := HS3.up2.blk_at 1 rfl
  have v2 := HS3.up2.blk_at 2 rfl
  have v3 := HS3.up2.blk_at 3 rfl
  have v4 := HS3.up2.blk_at 4 rfl
  have v5 := HS3.up2.blk_at 5 rfl
  have r0 := HS3.up3.blk_at 0 rfl
  have r1 := HS3.up3.blk_at 1 rfl
  have r2 := HS3.up3.blk_at 2 rfl
  have r3 := HS3.up3.blk_at 3 rfl
  have r4 := HS3.up3.blk_at 4 rfl
  have r5 := HS3.up3.blk_at 5 rfl
  have b0 := HS3.up1.blk_at 0 rfl
  have b1 := HS3.up1.blk_at 1 rfl
  have fr3 := HS3.up3.blk_frozen 3
  have fr4 := HS3.up3.blk_frozen 4
  have fr5 := HS3.up3.blk_frozen 5
  rcases key with ⟨rfl, rfl⟩ | ⟨e1, e2, e3⟩ | ⟨rfl, rfl⟩
  · by_cases hk : 1 < kd
    · go_wp2_with fail
      refine (wakes_calls HS3).mono ?_
      rintro e w4 ⟨rfl, HS4⟩
      go_wp2
      go_ret
      exact ⟨rfl, HS4.below⟩
    · have hk' : kd ≤ 1 := by omega
      have s1 : IntKind.u64.wrap (len + 1) = len + 1 := wrap64 (by omega) (by omega)
      have s2 : (len + 1 == 0) = false := by simp; omega
      have m1 := Int.emod_nonneg p0 (show len + 1 ≠ 0 by omega)
      have m2 := Int.emod_lt_of_pos p0 (show 0 < len + 1 by omega)
      generalize hfr : p0 % (len + 1) = fr at m1 m2
      have hfr' := hid hfr
      have q1 := Int.emod_nonneg p1 (show len - fr + 1 ≠ 0 by omega)
      have q2 := Int.emod_lt_of_pos p1 (show 0 < len - fr + 1 by omega)
      generalize hln : p1 % (len - fr + 1) = ln at q1 q2
      have hok := part_ok (off' := off + fr) (len' := ln) hk' HE.out.symm (by omega) (by omega) q1
      have s3 : IntKind.u64.wrap (len - fr) = len - fr := wrap64 (by omega) (by omega)
      have s4 : IntKind.u64.wrap (len - fr + 1) = len - fr + 1 := wrap64 (by omega) (by omega)
      have s5 : (len - fr + 1 == 0) = false := by simp; omega
      have s6 : IntKind.u64.wrap (off + fr) = off + fr := wrap64 (by omega) (by omega)
      have s7 : ln % 4294967296 = ln := Int.emod_eq_of_lt q1 (by omega)
      obtain ⟨hok, hsz⟩ := hok
      have HK := hid hok
      clear hok hfr'
      have HX : Sep w (((w3.setCell ⟨g0, 3, none⟩ (.int .u64 (off + fr))).setCell ⟨g0, 4, none⟩ (.int .u32 ln)).setCell ⟨g0, 5, none⟩ (.slice none 0 0)) (fun _ => False) (blk g0 26 #[.int .i64 fl, .int .i64 kd, .int .u64 ck, .int .u64 (off + fr), .int .u32 ln, .slice none 0 0] :: []) := by simpa using (((HS3.sel 4 [3]).blk_set 3 (.int .u64 (off + fr))).blk_set 4 (.int .u32 ln)).blk_set 5 (.slice none 0 0)
      go_wp2_with fail
      refine (check_calls HX f0 f1 q1 (by omega) (by omega) (by omega) z0 z1).mono ?_
      rintro e w4 ⟨rfl, HS4⟩
      rw [HK.out]
      go_wp2_with fail
      refine (wakes_calls HS4).mono ?_
      rintro e w5 ⟨rfl, HS5⟩
      go_wp2
      go_ret
      exact ⟨rfl, HS5.below⟩
  · go_wp2_with fail
    refine (wakes_calls HS3).mono ?_
    rintro e w4 ⟨rfl, HS4⟩
    go_wp2
    go_ret
    exact ⟨rfl, HS4.below⟩
  · go_wp2_with fail
    refine (wakes_calls HS3).mono ?_
    rintro e w4 ⟨rfl, HS4⟩
    go_wp2
    go_ret
    exact ⟨rfl, HS4.below⟩
end Go.Proofs.Ytbfcnbggkcaolaa
