/-
  Contracts of the document's Refs (cisternref07): Commit, Abort, Copy.
-/
import Derived.Test.YtepooiiaijbljaaRefsF
namespace Go.Proofs.Ytepooiiaijbljaa
open Go.RowKit
set_option linter.unusedVariables false
set_option linter.unusedSimpArgs false
section
variable {w0 w : World} {O : Nat → Prop} {L : List Asr} {g : Nat} {now was : List Int}

set_option maxHeartbeats 1000000 in
theorem dcommit_calls (HS : Sep w0 w O (docA g now was :: L)) :
    Calls Try.prog 26 #[.pointer (some ⟨g, 0, none⟩)] w fun e w' => e = .returned (.tuple #[]) ∧ Sep w0 w' O (docA g now now :: L) := by
  obtain ⟨hok, a0, a1, a2, c0, c1, c2, H⟩ := HS.undoc
  have b0 := H.blkAt 0 rfl
  have hhi := hok.hi
  have HOK := hid (commit_ok hok)
  obtain ⟨n, hn⟩ : ∃ n, n = now.length := ⟨_, rfl⟩
  rw [← hn] at H b0 hhi
  have HNN := hid hn
  have hmk := mk_bool n (by omega)
  clear hok hn HS
  go_enter Try.func26, Try.ntmps26
  go_wp2_with fail
  refine (dnown_calls H Rb.i1 (by omega)).mono ?_
  rintro e w1 ⟨A, c, rfl, H1⟩
  have d1 := H1.up1.blkAt 1 rfl
  have z1 := H1.up1.blk_frozen 1
  have H2 := H1.up1.blk_set 1 (.slice A n c)
  have H2' : Sep w0 (w1.setCell ⟨g, 1, none⟩ (.slice A n c)) O (blk g 67 #[.slice (some ⟨a0, 0, none⟩) n c0, .slice A n c, .slice (some ⟨a2, 0, none⟩) n c2] :: own 5 1 A n c (kv .u8 now) :: own 5 1 (some ⟨a0, 0, none⟩) n c0 (kv .u8 now) :: own 5 1 (some ⟨a1, 0, none⟩) n c1 (kv .u8 was) :: own 4 1 (some ⟨a2, 0, none⟩) n c2 (bv (frOf now was)) :: L) := H2
  obtain ⟨w2, hw2⟩ : ∃ w2, w2 = w1.setCell ⟨g, 1, none⟩ (.slice A n c) := ⟨_, rfl⟩
  rw [← hw2] at H2'
  have HW2 := hid hw2
  clear hw2 H2 H1 H
  go_upto_region 1 with (fail)
  rw [← HW2.out]
  clear d1 z1 b0
  have d0 := H2'.blkAt 0 rfl
  have H3 := H2'.lit (Array.replicate n (.bool false)) 4 1 n (by simp) (by simp only [maxLen]; omega)
  have d2 := H3.up1.blkAt 2 rfl
  have z2 := H3.up1.blk_frozen 2
  have H4 := H3.up1.blk_set 2 (.slice (some ⟨w2.heap.size, 0, none⟩) n n)
  go_wp2
  go_end0
  have hz : (Array.replicate n (Value.bool false)).toList = bv (frOf now now) := by rw [frOf_self, ← HNN.out]; simp [bv]
  rw [hz] at H4
  exact ⟨rfl, Sep.docd (A0 := some ⟨a0, 0, none⟩) (A1 := A) (A2 := some ⟨w2.heap.size, 0, none⟩) (c0 := c0) (c1 := c) (c2 := n) HOK.out HNN.out HNN.out HNN.out (H4.sel 6 [0, 3, 2, 1])⟩

set_option maxHeartbeats 1000000 in
theorem dabort_calls (HS : Sep w0 w O (docA g now was :: L)) :
    Calls Try.prog 27 #[.pointer (some ⟨g, 0, none⟩)] w fun e w' => e = .returned (.tuple #[]) ∧ Sep w0 w' O (docA g was was :: L) := by
  obtain ⟨hok, a0, a1, a2, c0, c1, c2, H⟩ := HS.undoc
  have b1 := H.blkAt 1 rfl
  have hhi := hok.hi
  have HOK := hid (abort_ok hok)
  have HWL := hid hok.len
  obtain ⟨n, hn⟩ : ∃ n, n = now.length := ⟨_, rfl⟩
  rw [← hn] at H b1 hhi
  have HNN := hid hn
  have hmk := mk_bool n (by omega)
  clear hok hn HS
  go_enter Try.func27, Try.ntmps27
  go_wp2_with fail
  refine (dnown_calls H Rb.i2 (by omega)).mono ?_
  rintro e w1 ⟨A, c, rfl, H1⟩
  have d1 := H1.up1.blkAt 0 rfl
  have z1 := H1.up1.blk_frozen 0
  have H2 := H1.up1.blk_set 0 (.slice A n c)
  have H2' : Sep w0 (w1.setCell ⟨g, 0, none⟩ (.slice A n c)) O (blk g 67 #[.slice A n c, .slice (some ⟨a1, 0, none⟩) n c1, .slice (some ⟨a2, 0, none⟩) n c2] :: own 5 1 A n c (kv .u8 was) :: own 5 1 (some ⟨a0, 0, none⟩) n c0 (kv .u8 now) :: own 5 1 (some ⟨a1, 0, none⟩) n c1 (kv .u8 was) :: own 4 1 (some ⟨a2, 0, none⟩) n c2 (bv (frOf now was)) :: L) := H2
  obtain ⟨w2, hw2⟩ : ∃ w2, w2 = w1.setCell ⟨g, 0, none⟩ (.slice A n c) := ⟨_, rfl⟩
  rw [← hw2] at H2'
  have HW2 := hid hw2
  clear hw2 H2 H1 H
  go_upto_region 1 with (fail)
  rw [← HW2.out]
  clear d1 z1 b1
  have d0 := H2'.blkAt 0 rfl
  have H3 := H2'.lit (Array.replicate n (.bool false)) 4 1 n (by simp) (by simp only [maxLen]; omega)
  have d2 := H3.up1.blkAt 2 rfl
  have z2 := H3.up1.blk_frozen 2
  have H4 := H3.up1.blk_set 2 (.slice (some ⟨w2.heap.size, 0, none⟩) n n)
  go_wp2
  go_end0
  have hz : (Array.replicate n (Value.bool false)).toList = bv (frOf was was) := by rw [frOf_self, HWL.out, ← HNN.out]; simp [bv]
  rw [hz] at H4
  exact ⟨rfl, Sep.docd (A0 := A) (A1 := some ⟨a1, 0, none⟩) (A2 := some ⟨w2.heap.size, 0, none⟩) (c0 := c) (c1 := c1) (c2 := n) HOK.out (HNN.out.trans HWL.out.symm) (HNN.out.trans HWL.out.symm) (HNN.out.trans HWL.out.symm) (H4.sel 6 [0, 2, 4, 1])⟩

set_option maxHeartbeats 4000000 in
set_option maxRecDepth 10000 in
theorem dcopy_calls (HS : Sep w0 w O (docA g now was :: L)) :
    Calls Try.prog 28 #[.pointer (some ⟨g, 0, none⟩)] w fun e w' => ∃ g', e = .returned (.pointer (some ⟨g', 0, none⟩)) ∧ Sep w0 w' O (docA g' now was :: docA g now was :: L) := by
  obtain ⟨hok, a0, a1, a2, c0, c1, c2, H⟩ := HS.undoc
  obtain ⟨i0, hi0, hz0, hz1, hz2⟩ := info_parts info_bool
  have hhi := hok.hi
  have HOK := hid hok
  obtain ⟨n, hn⟩ : ∃ n, n = now.length := ⟨_, rfl⟩
  rw [← hn] at H hhi
  have HNN := hid hn
  obtain ⟨fr, hfr⟩ : ∃ fr, fr = frOf now was := ⟨_, rfl⟩
  rw [← hfr] at H
  have HFR := hid hfr
  have hb1 : 0 + n ≤ maxLen := by simp only [maxLen]; omega
  have hb2 : (0 + n) * 1 ≤ 140737488355328 := by omega
  have hhi' : n ≤ 140737488355328 := by omega
  have HB1 := hid hb1
  have HB2 := hid hb2
  clear hok hn hfr HS hb1 hb2
  go_enter Try.func28, Try.ntmps28
  go_upto_region 2 with (fail)
  have HA := H.drew
  go_region_held_law (fun w' => w'.cell? ⟨g, 0, none⟩ = some (.slice (some ⟨a0, 0, none⟩) n c0) ∧ w'.cell? ⟨g, 1, none⟩ = some (.slice (some ⟨a1, 0, none⟩) n c1) ∧ w'.cell? ⟨g, 2, none⟩ = some (.slice (some ⟨a2, 0, none⟩) n c2))
    (first
      | exact ⟨(KABC.alloc _ _).up4.blkAt 0 rfl, (KABC.alloc _ _).up4.blkAt 1 rfl, (KABC.alloc _ _).up4.blkAt 2 rfl⟩
      | exact ⟨(KACB.alloc _ _).up4.blkAt 0 rfl, (KACB.alloc _ _).up4.blkAt 1 rfl, (KACB.alloc _ _).up4.blkAt 2 rfl⟩
      | exact ⟨(KCAB.alloc _ _).up4.blkAt 0 rfl, (KCAB.alloc _ _).up4.blkAt 1 rfl, (KCAB.alloc _ _).up4.blkAt 2 rfl⟩
      | exact ⟨KABC.up3.blkAt 0 rfl, KABC.up3.blkAt 1 rfl, KABC.up3.blkAt 2 rfl⟩
      | exact ⟨KACB.up3.blkAt 0 rfl, KACB.up3.blkAt 1 rfl, KACB.up3.blkAt 2 rfl⟩
      | exact ⟨KCAB.up3.blkAt 0 rfl, KCAB.up3.blkAt 1 rfl, KCAB.up3.blkAt 2 rfl⟩
      | exact ⟨KAB.up2.blkAt 0 rfl, KAB.up2.blkAt 1 rfl, KAB.up2.blkAt 2 rfl⟩
      | exact ⟨KAC.up2.blkAt 0 rfl, KAC.up2.blkAt 1 rfl, KAC.up2.blkAt 2 rfl⟩
      | exact ⟨KCA.up2.blkAt 0 rfl, KCA.up2.blkAt 1 rfl, KCA.up2.blkAt 2 rfl⟩
      | exact ⟨KA.up1.blkAt 0 rfl, KA.up1.blkAt 1 rfl, KA.up1.blkAt 2 rfl⟩
      | exact ⟨KC.up1.blkAt 0 rfl, KC.up1.blkAt 1 rfl, KC.up1.blkAt 2 rfl⟩
      | exact ⟨HA.blkAt 0 rfl, HA.blkAt 1 rfl, HA.blkAt 2 rfl⟩)
    (first
      | (go_loud (refine step_append_sep rfl (.tmp 14) (.tmp 18) 58 rfl 4 i0 _ 1 1 Try.underlying58 hi0 hz0 hz1 hz2 rfl (by decide) rfl (KAB.nil 4 1) rfl (Rb.i5.cons.read (KAB.nil 4 1)) (bv_one fr) HB1.out HB2.out (Nat.zero_add n) rfl ?_); intro A3 d3 w3 KABC hsz3)
      | (go_simp; go_at_call 40; refine (dnown_calls (xs := was) KAC Rb.i4 hhi').mono ?_; rintro e w2 ⟨A2, d2, rfl, KACB⟩)
      | (go_simp; go_at_call 40; refine (dnown_calls (xs := was) KCA Rb.i4 hhi').mono ?_; rintro e w2 ⟨A2, d2, rfl, KCAB⟩)
      | (go_simp; go_at_call 40; refine (dnown_calls (xs := now) KC Rb.i2 hhi').mono ?_; rintro e w1 ⟨A1, d1, rfl, KCA⟩)
      | (go_simp; go_at_call 40; refine (dnown_calls (xs := was) KA Rb.i3 hhi').mono ?_; rintro e w2 ⟨A2, d2, rfl, KAB⟩)
      | (go_loud (refine step_append_sep rfl (.tmp 14) (.tmp 18) 58 rfl 4 i0 _ 1 1 Try.underlying58 hi0 hz0 hz1 hz2 rfl (by decide) rfl (KA.nil 4 1) rfl (Rb.i5.read (KA.nil 4 1)) (bv_one fr) HB1.out HB2.out (Nat.zero_add n) rfl ?_); intro A3 d3 w3 KAC hsz3)
      | (go_simp; go_at_call 40; refine (dnown_calls (xs := now) HA Rb.i1 hhi').mono ?_; rintro e w1 ⟨A1, d1, rfl, KA⟩)
      | (go_loud (refine step_append_sep rfl (.tmp 14) (.tmp 18) 58 rfl 4 i0 _ 1 1 Try.underlying58 hi0 hz0 hz1 hz2 rfl (by decide) rfl (HA.nil 4 1) rfl (Rb.i4.read (HA.nil 4 1)) (bv_one fr) HB1.out HB2.out (Nat.zero_add n) rfl ?_); intro A3 d3 w3 KC hsz3))
  all_goals
    first
    | have K9 := (KABC.alloc #[.slice A1 n d1, .slice A2 n d2, .slice A3 n d3] 67).sel 8 [0, 3, 2, 1, 4, 5, 6, 7]
    | have K9 := (KACB.alloc #[.slice A1 n d1, .slice A2 n d2, .slice A3 n d3] 67).sel 8 [0, 3, 1, 2, 4, 5, 6, 7]
    | have K9 := (KCAB.alloc #[.slice A1 n d1, .slice A2 n d2, .slice A3 n d3] 67).sel 8 [0, 2, 1, 3, 4, 5, 6, 7]
    rw [HFR.out] at K9
    go_wp2
    go_ret
    have h2 := Sep.docd (now := now) (was := was) (A0 := A1) (A1 := A2) (A2 := A3) (c0 := d1) (c1 := d2) (c2 := d3) HOK.out HNN.out HNN.out HNN.out K9
    have h3 := Sep.docd (now := now) (was := was) (A0 := some ⟨a0, 0, none⟩) (A1 := some ⟨a1, 0, none⟩) (A2 := some ⟨a2, 0, none⟩) (c0 := c0) (c1 := c1) (c2 := c2) HOK.out HNN.out HNN.out HNN.out (h2.sel 5 [1, 2, 3, 4, 0])
    exact ⟨_, rfl, h3.up1⟩
end
end Go.Proofs.Ytepooiiaijbljaa
