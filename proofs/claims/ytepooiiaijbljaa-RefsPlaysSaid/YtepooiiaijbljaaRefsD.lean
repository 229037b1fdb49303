/-
  Contracts of Refs: Copy, Become; Refs that no call made; bytes.Equal.
-/
import Derived.Test.YtepooiiaijbljaaRefsC
import Derived.Test.YtepooiiaijbljaaStrU
namespace Go.Proofs.Ytepooiiaijbljaa
open Go.RowKit
set_option linter.unusedVariables false
set_option linter.unusedSimpArgs false
section
variable {w0 w : World} {O : Nat → Prop} {L : List Asr} {g : Nat} {now was : List Int}

set_option maxHeartbeats 4000000 in
set_option maxRecDepth 10000 in
theorem rcopy_calls (HS : Sep w0 w O (refsA g now was :: L)) :
    Calls Try.prog 17 #[.pointer (some ⟨g, 0, none⟩)] w fun e w' => ∃ g', e = .returned (.pointer (some ⟨g', 0, none⟩)) ∧ Sep w0 w' O (refsA g' now was :: refsA g now was :: L) := by
  have hR := rright_refs HS
  obtain ⟨hok, a0, a1, a2, c0, c1, c2, gs, H⟩ := HS.unrefs
  have hhi := hok.hi
  have hwl := hok.len
  have hfl := frOf_len hok.len
  have HOK := hid hok
  obtain ⟨n, hn⟩ : ∃ n, n = now.length := ⟨_, rfl⟩
  rw [← hn] at H hhi
  have HNN := hid hn
  obtain ⟨fr, hfr⟩ : ∃ fr, fr = frOf now was := ⟨_, rfl⟩
  obtain ⟨io, hio⟩ : ∃ io, io = isOf now was := ⟨_, rfl⟩
  rw [← hfr, ← hio] at H
  have HFR := hid hfr
  have HIO := hid hio
  clear hok hn hwl hfl hfr hio
  go_enter Try.func17, Try.ntmps17
  go_wp2_with fail
  refine hR.mono ?_
  rintro e w' ⟨rfl, rfl⟩
  clear hR HS
  go_upto_region 3 with (fail)
  go_region_held_law (fun w' => w'.cell? ⟨g, 0, none⟩ = some (.slice (some ⟨a0, 0, none⟩) n c0) ∧ w'.cell? ⟨g, 1, none⟩ = some (.slice (some ⟨a1, 0, none⟩) n c1) ∧ w'.cell? ⟨g, 2, none⟩ = some (.slice (some ⟨a2, 0, none⟩) n c2) ∧ w'.cell? ⟨g, 3, none⟩ = some (.pointer (some ⟨gs, 0, none⟩)))
    (first
      | exact ⟨K5.up6.blkAt 0 rfl, K5.up6.blkAt 1 rfl, K5.up6.blkAt 2 rfl, K5.up6.blkAt 3 rfl⟩
      | exact ⟨K4.up5.blkAt 0 rfl, K4.up5.blkAt 1 rfl, K4.up5.blkAt 2 rfl, K4.up5.blkAt 3 rfl⟩
      | exact ⟨K3.up3.blkAt 0 rfl, K3.up3.blkAt 1 rfl, K3.up3.blkAt 2 rfl, K3.up3.blkAt 3 rfl⟩
      | exact ⟨K2.up2.blkAt 0 rfl, K2.up2.blkAt 1 rfl, K2.up2.blkAt 2 rfl, K2.up2.blkAt 3 rfl⟩
      | exact ⟨K1.up1.blkAt 0 rfl, K1.up1.blkAt 1 rfl, K1.up1.blkAt 2 rfl, K1.up1.blkAt 3 rfl⟩
      | exact ⟨H.drew.blkAt 0 rfl, H.drew.blkAt 1 rfl, H.drew.blkAt 2 rfl, H.drew.blkAt 3 rfl⟩)
    (first
      | (go_simp; go_at_call 38; refine (copy_calls (K3.sel 8 [7, 0, 1, 2, 3, 4, 5, 6])).mono ?_; rintro e w4 ⟨gc, rfl, K4⟩; have K5 := K4.alloc #[.slice A1 n d1, .slice A2 n d2, .slice A3 n d3, .pointer (some ⟨gc, 0, none⟩)] 61)
      | (go_simp; go_at_call 37; refine (cloneb_calls (xs := fr) K2 Rb.i5 (by omega)).mono ?_; rintro e w3 ⟨A3, d3, rfl, K3⟩)
      | (go_simp; go_at_call 30; refine (cloneu_calls (xs := was) K1 Rb.i3 (by omega)).mono ?_; rintro e w2 ⟨A2, d2, rfl, K2⟩)
      | (go_simp; go_at_call 30; refine (cloneu_calls (xs := now) H.drew Rb.i1 (by omega)).mono ?_; rintro e w1 ⟨A1, d1, rfl, K1⟩))
  all_goals
    go_wp2
    go_ret
    have h1 := K5.sel 10 [0, 5, 4, 3, 1, 6, 7, 8, 9, 2]
    rw [HFR.out, HIO.out] at h1
    have h2 := Sep.refsd (now := now) (was := was) (A0 := A1) (A1 := A2) (A2 := A3) (c0 := d1) (c1 := d2) (c2 := d3) (gs := gc) HOK.out HNN.out HNN.out HNN.out h1
    have h3 := Sep.refsd (now := now) (was := was) (A0 := some ⟨a0, 0, none⟩) (A1 := some ⟨a1, 0, none⟩) (A2 := some ⟨a2, 0, none⟩) (c0 := c0) (c1 := c1) (c2 := c2) (gs := gs) HOK.out HNN.out HNN.out HNN.out (h2.sel 6 [1, 2, 3, 4, 5, 0])
    exact ⟨_, rfl, h3.up1⟩
theorem rcopy_nil : Calls Try.prog 17 #[.pointer none] w fun e w' => e = .returned (.pointer none) ∧ w = w' := by
  go_enter Try.func17, Try.ntmps17
  go_wp2_with fail
  refine rright_nil.mono ?_
  rintro e w' ⟨rfl, rfl⟩
  go_wp2
  go_ret
  exact ⟨rfl, rfl⟩

set_option maxHeartbeats 4000000 in
theorem rbecome_calls {gx : Nat} {nx wx : List Int} (HS : Sep w0 w O (refsA g now was :: refsA gx nx wx :: L)) (hn : nx.length = now.length) :
    Calls Try.prog 20 #[.pointer (some ⟨g, 0, none⟩), .pointer (some ⟨gx, 0, none⟩)] w fun e w' => e = .returned (.int .i64 0) ∧ Sep w0 w' O (refsA g nx wx :: refsA gx nx wx :: L) := by
  have hR := rright_refs HS
  obtain ⟨hok, a0, a1, a2, c0, c1, c2, gs, H⟩ := HS.unrefs
  obtain ⟨hokx, x0, x1, x2, d0, d1, d2, gsx, Hx⟩ := HS.up1.unrefs
  have b0 := H.blkAt 0 rfl
  have bx0 := Hx.blkAt 0 rfl
  rw [hn] at bx0
  clear hok hokx H Hx hn
  go_enter Try.func20, Try.ntmps20
  go_wp2_with fail
  refine hR.mono ?_
  rintro e w' ⟨rfl, rfl⟩
  clear hR
  go_upto_region 3 with (fail)
  go_quiet (first | (go_at_call 32; exact Calls.quiet_of_same ((rright_refs (HS.drewN _).up1).mono fun _ _ h => ⟨h.1, h.2.symm⟩)))
  obtain ⟨wq, hwq⟩ : ∃ wq, wq = w.drewN nq := ⟨_, rfl⟩
  have HQ : Sep w0 wq O (refsA g now was :: refsA gx nx wx :: L) := by rw [hwq]; exact HS.drewN nq
  rw [← hwq]
  clear b0 bx0 HS hwq
  go_wp2_with fail
  refine (rcopy_calls HQ.up1).mono ?_
  rintro e w1 ⟨gc, rfl, K⟩
  obtain ⟨hok, a0, a1, a2, c0, c1, c2, gs, K1⟩ := (K.sel 3 [2, 0, 1]).unrefs
  have K2 : Sep w0 w1 O (refsA gc nx wx :: blk g 61 #[.slice (some ⟨a0, 0, none⟩) now.length c0, .slice (some ⟨a1, 0, none⟩) now.length c1, .slice (some ⟨a2, 0, none⟩) now.length c2, .pointer (some ⟨gs, 0, none⟩)] :: refsA gx nx wx :: L) := K1.sel 7 [5, 0, 6]
  obtain ⟨hokx, x0, x1, x2, d0, d1, d2, gsx, K3⟩ := K2.unrefs
  have y0 := K3.blkAt 0 rfl
  have y1 := K3.blkAt 1 rfl
  have y2 := K3.blkAt 2 rfl
  have y3 := K3.blkAt 3 rfl
  have K4 := K3.up5
  have z0 := K4.blkAt 0 rfl
  have z1 := K4.blkAt 1 rfl
  have z2 := K4.blkAt 2 rfl
  have z3 := K4.blkAt 3 rfl
  have f0 := K4.blk_frozen 0
  have f1 := K4.blk_frozen 1
  have f2 := K4.blk_frozen 2
  have f3 := K4.blk_frozen 3
  have HW := (((K4.blk_set 0 (.slice (some ⟨x0, 0, none⟩) nx.length d0)).blk_set 1 (.slice (some ⟨x1, 0, none⟩) nx.length d1)).blk_set 2 (.slice (some ⟨x2, 0, none⟩) nx.length d2)).blk_set 3 (.pointer (some ⟨gsx, 0, none⟩))
  have HW2 : Sep w0 ((((w1.setCell ⟨g, 0, none⟩ (.slice (some ⟨x0, 0, none⟩) nx.length d0)).setCell ⟨g, 1, none⟩ (.slice (some ⟨x1, 0, none⟩) nx.length d1)).setCell ⟨g, 2, none⟩ (.slice (some ⟨x2, 0, none⟩) nx.length d2)).setCell ⟨g, 3, none⟩ (.pointer (some ⟨gsx, 0, none⟩))) O (blk g 61 #[.slice (some ⟨x0, 0, none⟩) nx.length d0, .slice (some ⟨x1, 0, none⟩) nx.length d1, .slice (some ⟨x2, 0, none⟩) nx.length d2, .pointer (some ⟨gsx, 0, none⟩)] :: own 5 1 (some ⟨x0, 0, none⟩) nx.length d0 (kv .u8 nx) :: own 5 1 (some ⟨x1, 0, none⟩) nx.length d1 (kv .u8 wx) :: own 4 1 (some ⟨x2, 0, none⟩) nx.length d2 (bv (frOf nx wx)) :: space gsx (isOf nx wx) :: refsA gx nx wx :: L) := HW.sel 7 [0, 2, 3, 4, 5, 6]
  have HOK := hid hokx
  clear hok hokx K K1 K2 K3 K4 HQ HW
  go_wp2
  go_ret
  exact ⟨rfl, Sep.refsd (A0 := some ⟨x0, 0, none⟩) (A1 := some ⟨x1, 0, none⟩) (A2 := some ⟨x2, 0, none⟩) (c0 := d0) (c1 := d1) (c2 := d2) (gs := gsx) HOK.out rfl rfl rfl HW2⟩

theorem equal_true {A B : Option Addr} {n c d : Nat} {xs : List Int} (HS : Sep w0 w O L) (hr : Rb w0 O L 1 A n (kv .u8 xs)) (hq : Rb w0 O L 1 B n (kv .u8 xs)) :
    Calls Try.prog 13 #[.slice A n c, .slice B n d] w fun e w' => e = .returned (.bool true) ∧ w = w' := by
  have hs1 := run_stru (P := Try.prog) (c := c) (hr.read HS) 22 9 5 Try.underlying22 Try.underlying5 Try.underlying9
  have hs2 := run_stru (P := Try.prog) (c := d) (hq.read HS) 22 9 5 Try.underlying22 Try.underlying5 Try.underlying9
  generalize strOfNums xs = st at hs1 hs2
  clear HS hr hq
  go_enter Try.func13, Try.ntmps13
  go_wp2
  go_ret
  exact ⟨rfl, rfl⟩
theorem ralloc_nil : Calls Try.prog 14 #[.pointer none] w fun e w' => e = .returned (.tuple #[.int .i64 0, .int .i64 2]) ∧ w = w' := by
  go_enter Try.func14, Try.ntmps14
  go_wp2_with fail
  refine rright_nil.mono ?_
  rintro e w' ⟨rfl, rfl⟩
  go_wp2
  go_ret2
  exact ⟨rfl, rfl⟩
theorem rdoes_nil {x : Int} {f : Value} : Calls Try.prog 35 #[.pointer none, .int .i64 x, f] w fun e w' => e = .returned (.int .i64 2) ∧ w = w' := by
  go_enter Try.func35, Try.ntmps35
  go_wp2_with fail
  refine rright_nil.mono ?_
  rintro e w' ⟨rfl, rfl⟩
  go_wp2
  go_ret
  exact ⟨rfl, rfl⟩
theorem rdec_nil {x : Int} : Calls Try.prog 15 #[.pointer none, .int .i64 x] w fun e w' => e = .returned (.tuple #[.bool false, .int .i64 2]) ∧ w = w' := by
  go_enter Try.func15, Try.ntmps15
  go_wp2_with fail
  refine rdoes_nil.mono ?_
  rintro e w' ⟨rfl, rfl⟩
  go_wp2
  go_ret2
  exact ⟨rfl, rfl⟩
theorem rinc_nil {x : Int} : Calls Try.prog 18 #[.pointer none, .int .i64 x] w fun e w' => e = .returned (.int .i64 2) ∧ w = w' := by
  go_enter Try.func18, Try.ntmps18
  go_wp2_with fail
  refine rdoes_nil.mono ?_
  rintro e w' ⟨rfl, rfl⟩
  go_wp2
  go_ret
  exact ⟨rfl, rfl⟩
theorem rcommit_nil : Calls Try.prog 19 #[.pointer none] w fun e w' => e = .returned (.int .i64 2) ∧ w = w' := by
  go_enter Try.func19, Try.ntmps19
  go_wp2_with fail
  refine rright_nil.mono ?_
  rintro e w' ⟨rfl, rfl⟩
  go_wp2
  go_ret
  exact ⟨rfl, rfl⟩
theorem rabort_nil : Calls Try.prog 16 #[.pointer none] w fun e w' => e = .returned (.int .i64 2) ∧ w = w' := by
  go_enter Try.func16, Try.ntmps16
  go_wp2_with fail
  refine rright_nil.mono ?_
  rintro e w' ⟨rfl, rfl⟩
  go_wp2
  go_ret
  exact ⟨rfl, rfl⟩
theorem rcount_nil {x : Int} : Calls Try.prog 21 #[.pointer none, .int .i64 x] w fun e w' => e = .returned (.int .i64 0) ∧ w = w' := by
  go_enter Try.func21, Try.ntmps21
  go_wp2_with fail
  refine rright_nil.mono ?_
  rintro e w' ⟨rfl, rfl⟩
  go_wp2
  go_ret
  exact ⟨rfl, rfl⟩
theorem rfresh_nil {x : Int} : Calls Try.prog 12 #[.pointer none, .int .i64 x] w fun e w' => e = .returned (.bool false) ∧ w = w' := by
  go_enter Try.func12, Try.ntmps12
  go_wp2_with fail
  refine rright_nil.mono ?_
  rintro e w' ⟨rfl, rfl⟩
  go_wp2
  go_ret
  exact ⟨rfl, rfl⟩
theorem rfree_nil : Calls Try.prog 10 #[.pointer none] w fun e w' => e = .returned (.int .i64 0) ∧ w = w' := by
  go_enter Try.func10, Try.ntmps10
  go_wp2_with fail
  refine rright_nil.mono ?_
  rintro e w' ⟨rfl, rfl⟩
  go_wp2
  go_ret
  exact ⟨rfl, rfl⟩
theorem rcounts_nil : Calls Try.prog 9 #[.pointer none] w fun e w' => e = .returned (.slice none 0 0) ∧ w = w' := by
  go_enter Try.func9, Try.ntmps9
  go_wp2_with fail
  refine rright_nil.mono ?_
  rintro e w' ⟨rfl, rfl⟩
  go_wp2
  go_ret
  exact ⟨rfl, rfl⟩
theorem rbecome_nil {p : Value} : Calls Try.prog 20 #[.pointer none, p] w fun e w' => e = .returned (.int .i64 2) ∧ w = w' := by
  go_enter Try.func20, Try.ntmps20
  go_wp2_with fail
  refine rright_nil.mono ?_
  rintro e w' ⟨rfl, rfl⟩
  go_wp2
  go_ret
  exact ⟨rfl, rfl⟩
end
end Go.Proofs.Ytepooiiaijbljaa
