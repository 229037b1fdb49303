/-
  A queue's Drop.
-/
import Derived.Test.YtkdoocgjagpcbaaQueueS
namespace Go.Proofs.Ytkdoocgjagpcbaa
open Go.RowKit
set_option linter.unusedVariables false
set_option linter.unusedSimpArgs false
section
variable {w0 w : World} {O : Nat → Prop} {L : List Asr} {g b : Nat} {q : Qu}
theorem ofL_drop (S : List Hd) {k : Nat} (hk : k < 8) : (ofL S).set k 0 = ofL (S.filter fun h => !(h.flow == (k : Int))) := by
  have e : ∀ g : Int, cntF (S.filter fun h => !(h.flow == (k : Int))) g = if g = k then 0 else cntF S g := fun g => cntF_filter S k g
  unfold ofL
  simp only [e]
  rcases (show k = 0 ∨ k = 1 ∨ k = 2 ∨ k = 3 ∨ k = 4 ∨ k = 5 ∨ k = 6 ∨ k = 7 by omega) with rfl | rfl | rfl | rfl | rfl | rfl | rfl | rfl <;> simp

set_option maxHeartbeats 2000000 in
set_option maxRecDepth 10000 in
theorem qdrop_calls {f : Int} (HS : Sep w0 w O (quA g b q :: L)) : Calls Try.prog 16 #[.pointer (some ⟨g, 0, none⟩), .int .i64 f] w fun e w' => e = .returned (.int .i64 (ofQ q f)) ∧ Sep w0 w' O (quA g b (drQ q f) :: L) := by
  have HB := HS.alloc #[.int .i64 f] 3
  obtain ⟨gf, hgf⟩ : ∃ gf, gf = w.heap.size := ⟨_, rfl⟩
  obtain ⟨wf, hwf⟩ : ∃ wf, wf = w.alloc (.cells #[.int .i64 f] 3) := ⟨_, rfl⟩
  rw [← hgf, ← hwf] at HB
  have HG := hid hgf
  have HW := hid hwf
  clear hgf hwf HS
  have hO := qof_calls (f := f) HB.up1
  have hN := none_qu HB.up1
  have b0 := HB.blkAt 0 rfl
  by_cases hbad : f < 0 ∨ 8 ≤ f
  · have e1 : ofQ q f = 0 := by unfold ofQ; rw [if_pos hbad]
    have e2 : drQ q f = q := by unfold drQ; rw [if_pos hbad]
    rw [e1] at hO ⊢
    rw [e2]
    have HBD := hid hbad
    clear e1 e2 hbad
    by_cases h0 : f < 0
    · go_enter Try.func16, Try.ntmps16
      go_upto_region 1 with (fail)
      rw [← HG.out, ← HW.out]
      go_wp2_with fail
      refine hO.mono ?_
      rintro e w' ⟨rfl, rfl⟩
      go_wp2_with fail
      refine hN.mono ?_
      rintro e w' ⟨rfl, rfl⟩
      go_wp2
      go_ret
      exact ⟨rfl, HB.drop⟩
    · have h1 : 8 ≤ f := by have := HBD.out; omega
      go_enter Try.func16, Try.ntmps16
      go_upto_region 1 with (fail)
      rw [← HG.out, ← HW.out]
      go_wp2_with fail
      refine hO.mono ?_
      rintro e w' ⟨rfl, rfl⟩
      go_wp2_with fail
      refine hN.mono ?_
      rintro e w' ⟨rfl, rfl⟩
      go_wp2
      go_ret
      exact ⟨rfl, HB.drop⟩
  · obtain ⟨hok, xs, A, cc, h2, h3, h4, H⟩ := HB.up1.unqu
    have HDR := hid (drQ_ok hok f)
    have e2 : drQ q f = ⟨q.time, q.n, q.last.set f.toNat 0, q.S.filter fun h => !(h.flow == f)⟩ := by unfold drQ; rw [if_neg hbad]
    rw [e2] at HDR ⊢
    obtain ⟨k, rfl⟩ := Int.eq_ofNat_of_zero_le (show 0 ≤ f by omega)
    rw [Int.toNat_natCast] at HDR ⊢
    have hk : k < 8 := by omega
    have hk0 : ¬ (k : Int) < 0 := by omega
    have hk1 : (k : Int) < 8 := by omega
    have hk2 : ¬ (8 : Int) ≤ k := by omega
    obtain ⟨ofk, hofk⟩ : ∃ ofk, ofk = ofQ q k := ⟨_, rfl⟩
    rw [← hofk] at hO ⊢
    have HOK := hid hok
    have HP := hid h3
    have hq19 := H.up1.blkAt 19 (qc_v hok.len (ofL_len _))
    have H1 : Sep w0 wf O (own 65 5 A xs.length cc (hv xs) :: blk gf 3 #[.int .i64 k] :: blk g 61 (qc q.time q.n q.last (ofL q.S) (.slice A xs.length cc)) :: L) := H.sel 3 [0, 2, 1]
    have hdl := qdelf_calls H1 (by omega)
    have HDL := hid hdl
    clear e2 hbad h2 h3 hok hofk H HB hdl H1
    go_enter Try.func16, Try.ntmps16
    go_upto_region 1 with (fail)
    rw [← HG.out, ← HW.out]
    go_wp2_with fail
    refine hO.mono ?_
    rintro e w' ⟨rfl, hw1⟩
    obtain rfl := hw1.symm
    go_wp2_with fail
    refine hN.mono ?_
    rintro e w' ⟨rfl, hw1⟩
    obtain rfl := hw1.symm
    clear hO hN
    go_wp2_with fail
    refine HDL.out.mono ?_
    rintro e w2 ⟨B, cb, rfl, H2⟩
    clear hq19 b0 HDL
    obtain ⟨ys, hys⟩ : ∃ ys, ys = xs.filter fun h => !(h.flow == (k : Int)) := ⟨_, rfl⟩
    rw [← hys] at H2 ⊢
    have hyl : ys.length ≤ 1048576 := by
      have := List.length_filter_le (fun h : Hd => !(h.flow == (k : Int))) xs
      rw [← hys] at this; omega
    have HYS := hid hys
    clear hys
    have d19 := H2.up2.blkAt 19 (qc_v HOK.out.len (ofL_len _))
    have z19 := H2.up2.blk_frozen 19
    have H3 := H2.up2.blk_set 19 (.slice B ys.length cb)
    rw [qc_sv HOK.out.len (ofL_len _)] at H3
    have H4 : Sep w0 (w2.setCell ⟨g, 19, none⟩ (.slice B ys.length cb)) O (heapB g 19 61 (qc q.time q.n q.last (ofL q.S) (.slice none 0 0)) ys :: blk gf 3 #[.int .i64 k] :: L) := by
      refine Sep.heapedB (A := B) (c := cb) ?_
      rw [qc_sv HOK.out.len (ofL_len _)]
      exact H3.sel 3 [1, 0, 2]
    have ho : 19 < (qc q.time q.n q.last (ofL q.S) (.slice none 0 0)).size := by rw [qc_size HOK.out.len (ofL_len _)]; decide
    have hin := init_calls (hmethB w0 O g 19 61 _ ho) H4 hyl
    have HIN := hid hin
    clear hin ho H4 H3 H2
    go_wp2_with fail
    refine HIN.out.mono ?_
    rintro e w3 ⟨rfl, H5⟩
    clear d19 z19 HIN
    obtain ⟨D, cd, H6⟩ := H5.unheapB
    rw [qc_sv HOK.out.len (ofL_len _)] at H6
    obtain ⟨i1, i2, i3⟩ := init_ok ltH_ordr (ys.length / 2) ys (half_heap ys)
    obtain ⟨zs, hzs⟩ : ∃ zs, zs = initL ltH ys (ys.length / 2) := ⟨_, rfl⟩
    rw [← hzs] at H6 i1 i2 i3
    rw [← i3] at i1
    have HI1 := hid i1
    have HI2 := hid i2
    have K := H6.up1
    have b0 := K.up2.blkAt 0 rfl
    have co := K.blkAt (11 + k) (qc_o HOK.out.len (ofL_len _) hk)
    have cl := K.blkAt (3 + k) (qc_l HOK.out.len hk)
    have zo := K.blk_frozen (11 + k)
    have zl := K.blk_frozen (3 + k)
    have K1 := K.blk_set (11 + k) (.int .i64 0)
    rw [qc_so HOK.out.len (ofL_len _) hk] at K1
    have cl1 := K1.blkAt (3 + k) (qc_l HOK.out.len hk)
    have zl1 := K1.blk_frozen (3 + k)
    have K2 := K1.blk_set (3 + k) (.int .i64 0)
    rw [qc_sl HOK.out.len hk] at K2
    clear i1 i2 i3 hzs H5 H6
    go_upto_region 6 with (fail)
    go_cut [4] (fun v wx => Sep w0 wx O (blk g 61 (qc q.time q.n (q.last.set k 0) ((ofL q.S).set k 0) (.slice D zs.length cd)) :: own 65 5 D zs.length cd (hv zs) :: blk gf 3 #[.int .i64 k] :: L))
    case first =>
      go_region_law (fail)
      all_goals
        go_wp2
        go_meet
        case rel => exact K2.drew
    case rest =>
      go_wp2
      go_ret
      refine ⟨rfl, Sep.qued (q := ⟨q.time, q.n, q.last.set k 0, q.S.filter fun h => !(h.flow == (k : Int))⟩) HDR.out HI1.out ?_ rfl (ofL_drop q.S hk) (hcut.sel 3 [1, 0])⟩
      rw [HYS.out] at HI2
      exact HI2.out.trans (HP.out.filter _)
end
end Go.Proofs.Ytkdoocgjagpcbaa
