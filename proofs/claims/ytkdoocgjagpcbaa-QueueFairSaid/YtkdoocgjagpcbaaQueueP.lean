/-
  A queue's TakeAt, Take.
-/
import Derived.Test.YtkdoocgjagpcbaaQueueO
namespace Go.Proofs.Ytkdoocgjagpcbaa
open Go.RowKit
set_option linter.unusedVariables false
set_option linter.unusedSimpArgs false
section
variable {w0 w : World} {O : Nat → Prop} {L : List Asr} {g b : Nat} {q : Qu}
theorem ofL_era (S : List Hd) {i f : Nat} (hi : i < S.length) (hf : f < 8) (hx : (gat S i).flow = f) : (ofL S).set f (cntF S f - 1) = ofL (S.eraseIdx i) := by
  have e : ∀ g : Int, cntF S g = cntF (S.eraseIdx i) g + if (gat S i).flow = g then 1 else 0 := fun g => by rw [cntF_perm (erase_perm hi), cntF_cons]
  unfold ofL
  simp only [e, hx]
  rcases (show f = 0 ∨ f = 1 ∨ f = 2 ∨ f = 3 ∨ f = 4 ∨ f = 5 ∨ f = 6 ∨ f = 7 by omega) with rfl | rfl | rfl | rfl | rfl | rfl | rfl | rfl <;> simp

set_option maxHeartbeats 4000000 in
set_option maxRecDepth 10000 in
theorem qtakeat_calls {i : Int} (HS : Sep w0 w O (quA g b q :: L)) (hb : b ≤ 8000000000000) : Calls Try.prog 15 #[.pointer (some ⟨g, 0, none⟩), .int .i64 i] w fun e w' => e = .returned (.tuple #[.agg #[.int .i64 (tkAt q i).flow, .int .i64 (tkAt q i).cost, .int .u64 (tkAt q i).id], .bool (tkIs q i)]) ∧ Sep w0 w' O (quA g b (tkQ q i) :: L) := by
  have HB := HS.alloc #[.int .i64 0, .int .i64 0, .int .u64 0] 35
  obtain ⟨gb, hgb⟩ : ∃ gb, gb = w.heap.size := ⟨_, rfl⟩
  rw [← hgb] at HB
  have HG := hid hgb
  clear hgb HS
  have hA := qall_calls HB.up1
  obtain ⟨hok, -⟩ := HB.up1.unqu
  have hsm := hok.small
  have HOK := hid hok
  clear hok
  by_cases hr : i < 0 ∨ (q.S.length : Int) ≤ i
  · have e1 : tkAt q i = ⟨0, 0, 0, 0, 0⟩ := by unfold tkAt; rw [if_pos hr]
    have e2 : tkIs q i = false := by unfold tkIs; rw [if_pos hr]
    have e3 : tkQ q i = q := by unfold tkQ; rw [if_pos hr]
    rw [e1, e2, e3]
    clear e1 e2 e3
    have HR := hid hr
    clear hr
    go_enter Try.func15, Try.ntmps15
    go_upto_region 1 with (fail)
    rw [← HG.out]
    go_wp2_with fail
    refine hA.mono ?_
    rintro e w1 ⟨A, c, rfl, H1⟩
    have H2 := H1.up2
    have d0 := H2.blkAt 0 rfl
    have d1 := H2.blkAt 1 rfl
    have d2 := H2.blkAt 2 rfl
    have f0 := H2.blk_frozen 0
    have f1 := H2.blk_frozen 1
    have f2 := H2.blk_frozen 2
    have H4 := ((H2.blk_set 0 (.int .i64 0)).blk_set 1 (.int .i64 0)).blk_set 2 (.int .u64 0)
    rcases HR.out with h0 | h1
    · go_wp2
      (try simp only [Exit.inBlock, Exit.then])
      refine bodyPost_ret (results_rowa rfl _ _ _ _ _ _ _ rfl H4.blk_heap Try.underlying35 rfl info_item) rfl ?_
      exact ⟨rfl, H4.sel 3 [2]⟩
    · have h0 : ¬ i < 0 := by omega
      go_wp2
      (try simp only [Exit.inBlock, Exit.then])
      refine bodyPost_ret (results_rowa rfl _ _ _ _ _ _ _ rfl H4.blk_heap Try.underlying35 rfl info_item) rfl ?_
      exact ⟨rfl, H4.sel 3 [2]⟩
  · have e1 : tkAt q i = gat q.S i.toNat := by unfold tkAt; rw [if_neg hr]
    have e2 : tkIs q i = true := by unfold tkIs; rw [if_neg hr]
    have HT := hid (tkQ_ok HOK.out i)
    have e3 : tkQ q i = ⟨max q.time (gat q.S i.toNat).tag, q.n, q.last, q.S.eraseIdx i.toNat⟩ := by unfold tkQ; rw [if_neg hr]
    rw [e1, e2, e3]
    rw [e3] at HT
    clear e1 e2 e3
    obtain ⟨k, rfl⟩ := Int.eq_ofNat_of_zero_le (show 0 ≤ i by omega)
    rw [Int.toNat_natCast] at HT ⊢
    have hk : k < q.S.length := by omega
    have h0 : ¬ (k : Int) < 0 := by omega
    have h1 : ¬ (q.S.length : Int) ≤ k := by omega
    have h2 : (k : Int) < q.S.length := by omega
    obtain ⟨x, hx⟩ : ∃ x, x = gat q.S k := ⟨_, rfl⟩
    have HX := hid hx
    rw [← hx] at HT ⊢
    have hxm : x ∈ q.S := by rw [hx]; exact gat_mem hk
    have hfl := HOK.out.flow x hxm
    have htg := HOK.out.tag x hxm
    have hti := HOK.out.t0
    have HXM := hid hxm
    obtain ⟨fl, hfe⟩ := Int.eq_ofNat_of_zero_le hfl.1
    have HFE := hid hfe
    have hfl8 : fl < 8 := by omega
    clear hr hx hxm hfl hfe
    go_enter Try.func15, Try.ntmps15
    go_upto_region 1 with (fail)
    rw [← HG.out]
    go_wp2_with fail
    refine hA.mono ?_
    rintro e w1 ⟨Al, cl, rfl, H0⟩
    obtain ⟨a, rfl⟩ := H0.own_some (by omega)
    obtain ⟨-, xs, A, cc, hhp, hpm, hxl, H0'⟩ := H0.up1.unqu
    have HHP := hid hhp
    have HPM := hid hpm
    have hxx : x ∈ xs := hpm.symm.subset HXM.out
    have HXX := hid hxx
    have HV := hid (qc_v (t := q.time) (n := q.n) (o := ofL q.S) (v := .slice A xs.length cc) HOK.out.len (ofL_len _))
    have H1 : Sep w0 w1 O (own 65 5 A xs.length cc (hv xs) :: blk g 61 (qc q.time q.n q.last (ofL q.S) (.slice A xs.length cc)) :: own 65 5 (some ⟨a, 0, none⟩) q.S.length cl (hv q.S) :: blk gb 35 #[.int .i64 0, .int .i64 0, .int .u64 0] :: L) := H0'
    clear H0 H0' hA hhp hpm hxx
    go_upto_region 4 with (fail)
    go_region_held_law (fun w' => w'.cell? ⟨g, 19, none⟩ = some (.slice A xs.length cc) ∧ w'.cell? ⟨a, k * 5, none⟩ = some (.int .i64 x.flow) ∧ w'.cell? ⟨a, k * 5 + 1, none⟩ = some (.int .i64 x.cost) ∧ w'.cell? ⟨a, k * 5 + 2, none⟩ = some (.int .u64 x.id) ∧ w'.cell? ⟨a, k * 5 + 3, none⟩ = some (.int .i64 x.tag) ∧ w'.cell? ⟨a, k * 5 + 4, none⟩ = some (.int .i64 x.n))
      (first | exact ⟨H2.up1.blkAt 19 HV.out, H2.up2.hcell hk rfl 0 (by rw [← HX.out]; rfl), H2.up2.hcell hk rfl 1 (by rw [← HX.out]; rfl), H2.up2.hcell hk rfl 2 (by rw [← HX.out]; rfl), H2.up2.hcell hk rfl 3 (by rw [← HX.out]; rfl), H2.up2.hcell hk rfl 4 (by rw [← HX.out]; rfl)⟩ | exact ⟨H1.drew.up1.blkAt 19 HV.out, H1.drew.up2.hcell hk rfl 0 (by rw [← HX.out]; rfl), H1.drew.up2.hcell hk rfl 1 (by rw [← HX.out]; rfl), H1.drew.up2.hcell hk rfl 2 (by rw [← HX.out]; rfl), H1.drew.up2.hcell hk rfl 3 (by rw [← HX.out]; rfl), H1.drew.up2.hcell hk rfl 4 (by rw [← HX.out]; rfl)⟩)
      (first | (go_simp; go_at_call 28; refine (qindex_calls H1.drew HXX.out (by omega)).mono ?_; rintro e w2 ⟨z, rfl, hz, hzx, H2⟩))
    have hrm := rm_ok ltH_ordr (l := xs) (i := z) HHP.out hz
    rw [hzx] at hrm
    have H3 : Sep w0 w2 O (heapB g 19 61 (qc q.time q.n q.last (ofL q.S) (.slice none 0 0)) xs :: own 65 5 (some ⟨a, 0, none⟩) q.S.length cl (hv q.S) :: blk gb 35 #[.int .i64 0, .int .i64 0, .int .u64 0] :: L) := by
      refine Sep.heapedB (A := A) (c := cc) ?_
      rw [qc_sv HOK.out.len (ofL_len _)]
      exact H2
    have ho : 19 < (qc q.time q.n q.last (ofL q.S) (.slice none 0 0)).size := by rw [qc_size HOK.out.len (ofL_len _)]; decide
    have hre := heapremove_calls (hmethB w0 O g 19 61 _ ho) (hmethBP w0 O g 19 61 _ ho) H3 hz (by omega)
    obtain ⟨r1, r2, r3, r4⟩ := hrm
    rw [r2] at hre
    obtain ⟨ys, hys⟩ : ∃ ys, ys = (rmL ltH xs z).take (xs.length - 1) := ⟨_, rfl⟩
    have hyl : ys.length = xs.length - 1 := by rw [hys, List.length_take, r1]; omega
    rw [← hys] at hre r3 r4
    rw [← hyl] at r3
    have HYH := hid r3
    have HYP := hid r4
    have hre2 : Calls Try.prog 29 #[.iface 63 (.pointer (some ⟨g, 19, none⟩)), .int .i64 z] w2 fun e w' => e = .returned (.iface 65 (.agg #[.int .i64 x.flow, .int .i64 x.cost, .int .u64 x.id, .int .i64 x.tag, .int .i64 x.n])) ∧ Sep w0 w' O (heapB g 19 61 (qc q.time q.n q.last (ofL q.S) (.slice none 0 0)) ys :: own 65 5 (some ⟨a, 0, none⟩) q.S.length cl (hv q.S) :: blk gb 35 #[.int .i64 0, .int .i64 0, .int .u64 0] :: L) := hre
    have ta : ∀ w, (Instr.typeAssert (.iface 65 (.agg #[.int .i64 x.flow, .int .i64 x.cost, .int .u64 x.id, .int .i64 x.tag, .int .i64 x.n])) 20 65 false).run Try.prog w = .ok (.agg #[.int .i64 x.flow, .int .i64 x.cost, .int .u64 x.id, .int .i64 x.tag, .int .i64 x.n]) w := fun w => ta_held w x
    have HRE := hid hre2
    clear hre hre2 r1 r2 r3 r4 hys hz hzx H3 ho H2 H1
    go_wp2_with fail
    refine HRE.out.mono ?_
    rintro e w3 ⟨rfl, H4⟩
    obtain ⟨B, cb, H5⟩ := H4.unheapB
    rw [qc_sv HOK.out.len (ofL_len _)] at H5
    have H6 : Sep w0 (w3.alloc (.cells #[.int .i64 x.flow, .int .i64 x.cost, .int .u64 x.id, .int .i64 x.tag, .int .i64 x.n] 65)) O (blk w3.heap.size 65 #[.int .i64 x.flow, .int .i64 x.cost, .int .u64 x.id, .int .i64 x.tag, .int .i64 x.n] :: blk g 61 (qc q.time q.n q.last (ofL q.S) (.slice B ys.length cb)) :: own 65 5 B ys.length cb (hv ys) :: blk gb 35 #[.int .i64 0, .int .i64 0, .int .u64 0] :: L) := (H5.alloc #[.int .i64 x.flow, .int .i64 x.cost, .int .u64 x.id, .int .i64 x.tag, .int .i64 x.n] 65).sel 5 [0, 2, 1, 4]
    obtain ⟨gh, hgh⟩ : ∃ gh, gh = w3.heap.size := ⟨_, rfl⟩
    obtain ⟨w4, hw4⟩ : ∃ w4, w4 = w3.alloc (.cells #[.int .i64 x.flow, .int .i64 x.cost, .int .u64 x.id, .int .i64 x.tag, .int .i64 x.n] 65) := ⟨_, rfl⟩
    rw [← hgh, ← hw4] at H6
    have HGH := hid hgh
    have HW4 := hid hw4
    clear H4 H5 hgh hw4
    go_upto_region 6 with (fail)
    rw [← HGH.out, ← HW4.out]
    clear ta
    have x0 := H6.blkAt 0 rfl
    rw [HFE.out] at x0
    have co := H6.up1.blkAt (11 + fl) (qc_o HOK.out.len (ofL_len _) hfl8)
    rw [ofL_get _ hfl8] at co
    have zo := H6.up1.blk_frozen (11 + fl)
    have zod := H6.up1.drew.blk_frozen (11 + fl)
    have hm16 := HOK.out.cnt fl
    obtain ⟨m, hm⟩ : ∃ m, m = cntF q.S fl := ⟨_, rfl⟩
    have HM := hid hm
    have hm1 : 1 ≤ m := by
      rw [hm, cntF_perm (erase_perm hk), cntF_cons, ← HX.out, if_pos HFE.out]; omega
    rw [← hm] at co hm16
    have wm : IntKind.i64.wrap ((m : Int) - 1) = (m : Int) - 1 := by rw [IntKind.wrap_i64]; omega
    have fl0 : (fl : Int) < 8 := by omega
    have H7 := H6.up1.blk_set (11 + fl) (.int .i64 ((m : Int) - 1))
    rw [qc_so HOK.out.len (ofL_len _) hfl8] at H7
    clear hm
    go_cut [5] (fun v wx => v = .bool false ∧ Sep w0 wx O (blk g 61 (qc q.time q.n q.last ((ofL q.S).set fl ((m : Int) - 1)) (.slice B ys.length cb)) :: blk gh 65 #[.int .i64 x.flow, .int .i64 x.cost, .int .u64 x.id, .int .i64 x.tag, .int .i64 x.n] :: own 65 5 B ys.length cb (hv ys) :: blk gb 35 #[.int .i64 0, .int .i64 0, .int .u64 0] :: L))
    case first =>
      go_region_law (fail)
      all_goals
        go_wp2
        go_meet
        case rel => exact ⟨rfl, H7.drew⟩
    case rest =>
      obtain ⟨rfl, H8⟩ := hcut
      clear H6 H7 x0 co zo zod
      have HOO := hid (show ((ofL q.S).set fl ((m : Int) - 1)).length = 8 by rw [List.length_set]; rfl)
      have c1 := H8.blkAt (v := .int .i64 q.time) 1 rfl
      have z1 := H8.blk_frozen 1
      have z1d := H8.drew.blk_frozen 1
      have x3 := H8.up1.blkAt 3 rfl
      have H9 := H8.blk_set 1 (.int .i64 (max q.time x.tag))
      rw [qc_st] at H9
      go_upto_region 7 with (fail)
      go_cut [5] (fun v wx => v = .bool false ∧ Sep w0 wx O (blk g 61 (qc (max q.time x.tag) q.n q.last ((ofL q.S).set fl ((m : Int) - 1)) (.slice B ys.length cb)) :: blk gh 65 #[.int .i64 x.flow, .int .i64 x.cost, .int .u64 x.id, .int .i64 x.tag, .int .i64 x.n] :: own 65 5 B ys.length cb (hv ys) :: blk gb 35 #[.int .i64 0, .int .i64 0, .int .u64 0] :: L))
      case first =>
        by_cases hlt : q.time < x.tag
        · have hmx : max q.time x.tag = x.tag := by omega
          rw [hmx] at H9
          have HMX := hid hmx
          clear hmx
          go_region_law (fail)
          all_goals
            go_wp2
            go_meet
            case rel => exact ⟨rfl, by rw [HMX.out]; exact H9.drew⟩
        · have hmx : max q.time x.tag = q.time := by omega
          rw [hmx] at H9
          have HMX := hid hmx
          clear hmx
          go_region_law (fail)
          all_goals
            go_wp2
            go_meet
            case rel => exact ⟨rfl, by rw [HMX.out]; exact H9.drew⟩
      case rest =>
        obtain ⟨rfl, H10⟩ := hcut
        clear H8 H9 c1 z1 z1d x3
        have x0 := H10.up1.blkAt 0 rfl
        have x1 := H10.up1.blkAt 1 rfl
        have x2 := H10.up1.blkAt 2 rfl
        have H11 := H10.up3
        have f0 := H11.blk_frozen 0
        have f1 := H11.blk_frozen 1
        have f2 := H11.blk_frozen 2
        have d0 := H11.blkAt 0 rfl
        have d1 := H11.blkAt 1 rfl
        have d2 := H11.blkAt 2 rfl
        have H12 := ((H11.blk_set 0 (.int .i64 x.flow)).blk_set 1 (.int .i64 x.cost)).blk_set 2 (.int .u64 x.id)
        go_wp2
        (try simp only [Exit.inBlock, Exit.then])
        refine bodyPost_ret (results_rowa rfl _ _ _ _ _ _ _ rfl H12.blk_heap Try.underlying35 rfl info_item) rfl ?_
        refine ⟨rfl, ?_⟩
        have hyp : ys.Perm (q.S.eraseIdx k) := by
          have h1 := (HYP.out.symm.trans HPM.out).trans (erase_perm hk)
          rw [← HX.out] at h1
          exact (List.perm_cons x).1 h1
        have hoe := ofL_era q.S hk hfl8 (by rw [← HX.out]; exact HFE.out)
        rw [← HM.out] at hoe
        exact Sep.qued (q := ⟨max q.time x.tag, q.n, q.last, q.S.eraseIdx k⟩) HT.out HYH.out hyp rfl hoe (H12.sel 4 [3, 1])

theorem qtake_calls (HS : Sep w0 w O (quA g b q :: L)) (hb : b ≤ 8000000000000) : Calls Try.prog 11 #[.pointer (some ⟨g, 0, none⟩)] w fun e w' => e = .returned (.tuple #[.agg #[.int .i64 (tkAt q 0).flow, .int .i64 (tkAt q 0).cost, .int .u64 (tkAt q 0).id], .bool (tkIs q 0)]) ∧ Sep w0 w' O (quA g b (tkQ q 0) :: L) := by
  have HB := HS.alloc #[.int .i64 0, .int .i64 0, .int .u64 0] 35
  obtain ⟨gb, hgb⟩ : ∃ gb, gb = w.heap.size := ⟨_, rfl⟩
  rw [← hgb] at HB
  have HG := hid hgb
  have hT := qtakeat_calls (i := 0) HB.up1 hb
  clear hgb HS
  generalize tkIs q 0 = is at *
  generalize tkAt q 0 = x at *
  generalize tkQ q 0 = q2 at *
  go_enter Try.func11, Try.ntmps11
  go_upto_region 1 with (fail)
  rw [← HG.out]
  go_wp2_with fail
  refine hT.mono ?_
  rintro e w1 ⟨rfl, H1⟩
  have H2 := H1.up1
  have d0 := H2.blkAt 0 rfl
  have d1 := H2.blkAt 1 rfl
  have d2 := H2.blkAt 2 rfl
  have f0 := H2.blk_frozen 0
  have f1 := H2.blk_frozen 1
  have f2 := H2.blk_frozen 2
  have H4 := ((H2.blk_set 0 (.int .i64 x.flow)).blk_set 1 (.int .i64 x.cost)).blk_set 2 (.int .u64 x.id)
  go_wp2
  (try simp only [Exit.inBlock, Exit.then])
  refine bodyPost_ret (results_rowa rfl _ _ _ _ _ _ _ rfl H4.blk_heap Try.underlying35 rfl info_item) rfl ?_
  exact ⟨rfl, H4.up1.up1.drop⟩
end
end Go.Proofs.Ytkdoocgjagpcbaa
