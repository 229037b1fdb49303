/-
  The document's queue: Copy; cisternlaw26's is, looks.
-/
import Derived.Test.YtkdoocgjagpcbaaQueueG
import Derived.Test.YtkdoocgjagpcbaaQueueQ
import Derived.Test.YtkdoocgjagpcbaaLaw26
namespace Go.Proofs.Ytkdoocgjagpcbaa
open Go.RowKit
set_option linter.unusedVariables false
set_option linter.unusedSimpArgs false
section
variable {w0 w : World} {O : Nat → Prop} {L : List Asr} {g b hh : Nat} {q : Qu}
theorem cnt_none {S : List Hd} {f : Int} (h : ∀ y ∈ S, ¬ y.flow = f) : cntF S f = 0 := by
  unfold cntF
  rw [List.countP_eq_zero]
  intro y hy
  simpa using h y hy
theorem ofQ_cnt (h : QuOk b q) (f : Int) : ofQ q f = cntF q.S f := by
  unfold ofQ
  split
  · rename_i hf
    rw [cnt_none]
    intro y hy
    have := h.flow y hy
    omega
  · rfl

set_option maxHeartbeats 2000000 in
set_option maxRecDepth 10000 in
theorem dcopy_calls (HS : Sep w0 w O (docQ g q :: L)) (hl8 : q.last.length = 8) (hn : q.S.length ≤ 1024) : Calls Try.prog 21 #[.pointer (some ⟨g, 0, none⟩)] w fun e w' => ∃ g', e = .returned (.pointer (some ⟨g', 0, none⟩)) ∧ Sep w0 w' O (docQ g' q :: docQ g q :: L) := by
  obtain ⟨i0, hi0, hz0, hz1, hz2⟩ := info_parts info_ditem
  obtain ⟨A, c, H⟩ := HS.undocQ
  obtain ⟨l0, l1, l2, l3, l4, l5, l6, l7, hl⟩ := list8 hl8
  obtain ⟨N, hN⟩ : ∃ N, N = q.S.length := ⟨_, rfl⟩
  have HN := hid hN
  have HL := hid hl
  rw [← hN] at H hn
  have HQ : dq (.slice A N c) q.time q.last = #[.slice A N c, .int .i64 q.time, .int .i64 l0, .int .i64 l1, .int .i64 l2, .int .i64 l3, .int .i64 l4, .int .i64 l5, .int .i64 l6, .int .i64 l7] := by rw [hl]; rfl
  have HQ2 : dq (.slice none 0 0) q.time q.last = #[.slice none 0 0, .int .i64 q.time, .int .i64 l0, .int .i64 l1, .int .i64 l2, .int .i64 l3, .int .i64 l4, .int .i64 l5, .int .i64 l6, .int .i64 l7] := by rw [hl]; rfl
  have HQQ := hid HQ
  have HQQ2 := hid HQ2
  rw [HQ] at H
  have b0 := H.up1.blkAt 0 rfl
  have b1 := H.up1.blkAt 1 rfl
  have b2 := H.up1.blkAt 2 rfl
  have b3 := H.up1.blkAt 3 rfl
  have b4 := H.up1.blkAt 4 rfl
  have b5 := H.up1.blkAt 5 rfl
  have b6 := H.up1.blkAt 6 rfl
  have b7 := H.up1.blkAt 7 rfl
  have b8 := H.up1.blkAt 8 rfl
  have b9 := H.up1.blkAt 9 rfl
  have HBX : Sep w0 (w.alloc (.cells #[.slice none 0 0, .int .i64 q.time, .int .i64 l0, .int .i64 l1, .int .i64 l2, .int .i64 l3, .int .i64 l4, .int .i64 l5, .int .i64 l6, .int .i64 l7] 49)) O (blk w.heap.size 49 #[.slice none 0 0, .int .i64 q.time, .int .i64 l0, .int .i64 l1, .int .i64 l2, .int .i64 l3, .int .i64 l4, .int .i64 l5, .int .i64 l6, .int .i64 l7] :: own 52 4 A N c (dv q.S) :: blk g 49 #[.slice A N c, .int .i64 q.time, .int .i64 l0, .int .i64 l1, .int .i64 l2, .int .i64 l3, .int .i64 l4, .int .i64 l5, .int .i64 l6, .int .i64 l7] :: L) := H.alloc #[.slice none 0 0, .int .i64 q.time, .int .i64 l0, .int .i64 l1, .int .i64 l2, .int .i64 l3, .int .i64 l4, .int .i64 l5, .int .i64 l6, .int .i64 l7] 49
  clear hN hl hl8 HQ HQ2 HS
  go_enter Try.func21, Try.ntmps21
  go_upto_region 1 with (fail)
  go_cut [3] (fun v wx => ∃ gx, v = .pointer (some ⟨gx, 0, none⟩) ∧ Sep w0 wx O (blk gx 49 #[.slice none 0 0, .int .i64 q.time, .int .i64 l0, .int .i64 l1, .int .i64 l2, .int .i64 l3, .int .i64 l4, .int .i64 l5, .int .i64 l6, .int .i64 l7] :: own 52 4 A N c (dv q.S) :: blk g 49 #[.slice A N c, .int .i64 q.time, .int .i64 l0, .int .i64 l1, .int .i64 l2, .int .i64 l3, .int .i64 l4, .int .i64 l5, .int .i64 l6, .int .i64 l7] :: L))
  case first =>
    go_region_law (fail)
    all_goals
      go_wp2
      go_meet
      case rel => exact ⟨_, rfl, HBX.drew⟩
  case rest =>
    obtain ⟨gx, rfl, H1⟩ := hcut
    clear b0 b1 b2 b3 b4 b5 b6 b7 b8 b9 HBX
    have hrd := H1.drew.rd1
    have HNL := H1.drew.nil 52 4
    have hrd2 := HNL.rd2
    have x0 := H1.blkAt 0 rfl
    have y0 := H1.up2.blkAt 0 rfl
    have hb1 : 0 + N ≤ maxLen := by simp only [maxLen]; omega
    have hb2 : (0 + N) * 32 ≤ 140737488355328 := by omega
    go_upto_region 2 with (fail)
    go_region_law (first | go_loud (refine step_append_sep rfl (.tmp 18) (.tmp 22) 47 rfl 52 i0 _ 4 32 Try.underlying47 hi0 hz0 hz1 hz2 rfl (by decide) rfl HNL rfl hrd2 (dv_one q.S) hb1 hb2 (Nat.zero_add N) (List.nil_append _) ?_; intro A12 c12 w12 HS12 hsz12; have q1 := HS12.up1.blk_frozen 0; have q2 := HS12.up1.blkAt 0 rfl))
    all_goals
      have HW := HS12.up1.blk_set 0 (.slice A12 N c12)
      go_wp2
      go_ret
      have HW2 : Sep w0 _ O (own 52 4 A N c (dv q.S) :: blk g 49 #[.slice A N c, .int .i64 q.time, .int .i64 l0, .int .i64 l1, .int .i64 l2, .int .i64 l3, .int .i64 l4, .int .i64 l5, .int .i64 l6, .int .i64 l7] :: own 52 4 A12 N c12 (dv q.S) :: blk gx 49 #[.slice A12 N c12, .int .i64 q.time, .int .i64 l0, .int .i64 l1, .int .i64 l2, .int .i64 l3, .int .i64 l4, .int .i64 l5, .int .i64 l6, .int .i64 l7] :: L) := HW.sel 4 [2, 3, 1, 0]
      rw [← HQQ.out, show (#[.slice A12 N c12, .int .i64 q.time, .int .i64 l0, .int .i64 l1, .int .i64 l2, .int .i64 l3, .int .i64 l4, .int .i64 l5, .int .i64 l6, .int .i64 l7] : Array Value) = dq (.slice A12 N c12) q.time q.last by rw [HL.out]; rfl] at HW2
      exact ⟨gx, rfl, Sep.docedQ rfl HN.out ((Sep.docedQ (A := A) (c := c) (q := q) rfl HN.out HW2).sel 3 [1, 2, 0])⟩

theorem is_calls {x : Hd} (HS : Sep w0 w O L) : Calls Try.prog 20 #[.agg #[.int .i64 x.flow, .int .i64 x.cost, .int .u64 x.id], .agg #[.int .i64 x.flow, .int .i64 x.cost, .int .u64 x.id, .int .i64 x.tag]] w fun e w' => e = .returned (.bool true) ∧ Sep w0 w' O L := by
  have H1 := HS.alloc #[.int .i64 x.flow, .int .i64 x.cost, .int .u64 x.id] 35
  have H2 := H1.allocAt #[.int .i64 x.flow, .int .i64 x.cost, .int .u64 x.id, .int .i64 x.tag] 52 (B := w.heap.size + 1) (by simp)
  have a0 := H2.blkAt 0 rfl
  have a1 := H2.blkAt 1 rfl
  have a2 := H2.blkAt 2 rfl
  have b0 := H2.up1.blkAt 0 rfl
  have b1 := H2.up1.blkAt 1 rfl
  have b2 := H2.up1.blkAt 2 rfl
  go_enter Try.func20, Try.ntmps20
  go_wp2
  go_ret
  exact ⟨rfl, H2.drop.drop⟩

set_option maxHeartbeats 4000000 in
set_option maxRecDepth 10000 in
theorem looks_calls (HS : Sep w0 w O (quA g b q :: docQ hh q :: L)) : Calls Try.prog 24 #[.pointer (some ⟨g, 0, none⟩), .pointer (some ⟨hh, 0, none⟩)] w fun e w' => e = .returned (.bool true) ∧ Sep w0 w' O (quA g b q :: docQ hh q :: L) := by
  obtain ⟨hok, -⟩ := HS.unqu
  have HOK := hid hok
  have hsm := hok.small
  have hls := qlist_calls HS
  obtain ⟨N, hN⟩ : ∃ N, N = q.S.length := ⟨_, rfl⟩
  have HN := hid hN
  rw [← hN] at hls hsm
  clear hN hok HS
  go_enter Try.func24, Try.ntmps24
  go_wp2_with fail
  refine hls.mono ?_
  rintro e w1 ⟨B, cB, rfl, H1⟩
  clear hls
  obtain ⟨D, cd, H2⟩ := H1.up2.undocQ
  rw [← HN.out] at H2
  have b0 := H2.up1.blkAt (v := .slice D N cd) 0 rfl
  have b1 := H2.up1.blkAt (v := .int .i64 q.time) 1 rfl
  have hLN := fun q' => qlen_calls (H1.up1.drewN q')
  rw [← HN.out] at hLN
  have hTM := fun q' => qtime_calls (H1.up1.drewN q')
  go_upto_region 2 with (fail)
  go_quiet (first
    | (go_at_call 12; exact Calls.quiet_of_same (hLN _))
    | (go_at_call 14; exact Calls.quiet_of_same (hTM _)))
  clear hLN hTM b0 b1
  have H3 : Sep w0 (w1.drewN nq) O (own 35 3 B N cB (iv q.S) :: quA g b q :: own 52 4 D N cd (dv q.S) :: blk hh 49 (dq (.slice D N cd) q.time q.last) :: L) := (H2.drewN nq).sel 4 [2, 3, 0, 1]
  clear H1 H2
  go_wp2
  go_loopw [6] (fun i wr => ∃ k : Nat, k ≤ N ∧ i = .int .i64 k ∧ Sep w0 wr O (own 35 3 B N cB (iv q.S) :: quA g b q :: own 52 4 D N cd (dv q.S) :: blk hh 49 (dq (.slice D N cd) q.time q.last) :: L)) (fun i _ => N - (intOf i).toNat)
  case atStart => exact ⟨0, Nat.zero_le _, rfl, H3⟩
  case round =>
    obtain ⟨k, hk, rfl, H4⟩ := hrel
    clear H3
    by_cases hlt : k < N
    · have hk1 : (k : Int) < N := by omega
      have HKX := hid (show k < q.S.length by have := HN.out; omega)
      obtain ⟨a, rfl⟩ := H4.own_some (by omega)
      obtain ⟨d, rfl⟩ := H4.up2.own_some (by omega)
      obtain ⟨x, hx⟩ : ∃ x, x = gat q.S k := ⟨_, rfl⟩
      have HX := hid hx
      clear hx
      have H5 := H4.drew
      go_upto_region 7 with (fail)
      go_region_held_law (fun w' => w'.cell? ⟨hh, 0, none⟩ = some (.slice (some ⟨d, 0, none⟩) N cd) ∧ w'.cell? ⟨a, k * 3, none⟩ = some (.int .i64 x.flow) ∧ w'.cell? ⟨a, k * 3 + 1, none⟩ = some (.int .i64 x.cost) ∧ w'.cell? ⟨a, k * 3 + 2, none⟩ = some (.int .u64 x.id) ∧ w'.cell? ⟨d, k * 4, none⟩ = some (.int .i64 x.flow) ∧ w'.cell? ⟨d, k * 4 + 1, none⟩ = some (.int .i64 x.cost) ∧ w'.cell? ⟨d, k * 4 + 2, none⟩ = some (.int .u64 x.id) ∧ w'.cell? ⟨d, k * 4 + 3, none⟩ = some (.int .i64 x.tag))
        (first | exact ⟨H6.up3.blkAt 0 rfl, H6.icell HKX.out HN.out.symm 0 (by rw [← HX.out]; rfl), H6.icell HKX.out HN.out.symm 1 (by rw [← HX.out]; rfl), H6.icell HKX.out HN.out.symm 2 (by rw [← HX.out]; rfl), H6.up2.dcell HKX.out HN.out.symm 0 (by rw [← HX.out]; rfl), H6.up2.dcell HKX.out HN.out.symm 1 (by rw [← HX.out]; rfl), H6.up2.dcell HKX.out HN.out.symm 2 (by rw [← HX.out]; rfl), H6.up2.dcell HKX.out HN.out.symm 3 (by rw [← HX.out]; rfl)⟩ | exact ⟨H5.up3.blkAt 0 rfl, H5.icell HKX.out HN.out.symm 0 (by rw [← HX.out]; rfl), H5.icell HKX.out HN.out.symm 1 (by rw [← HX.out]; rfl), H5.icell HKX.out HN.out.symm 2 (by rw [← HX.out]; rfl), H5.up2.dcell HKX.out HN.out.symm 0 (by rw [← HX.out]; rfl), H5.up2.dcell HKX.out HN.out.symm 1 (by rw [← HX.out]; rfl), H5.up2.dcell HKX.out HN.out.symm 2 (by rw [← HX.out]; rfl), H5.up2.dcell HKX.out HN.out.symm 3 (by rw [← HX.out]; rfl)⟩)
        (first | (go_simp; go_at_call 20; refine (is_calls (x := x) H5).mono ?_; rintro e w2 ⟨rfl, H6⟩))
      all_goals
        go_wp2
        go_roundw
        case rel => exact ⟨k + 1, by omega, by go_num, H6⟩
        case measure => simp [intOf]; omega
    · obtain rfl : k = N := by omega
      have hk1 : ¬ (k : Int) < k := by omega
      have H5 : Sep w0 wr O (quA g b q :: docQ hh q :: L) := (Sep.docedQ (q := q) rfl HN.out (H4.sel 4 [2, 3, 1])).up1
      clear H4
      go_wp2
      go_loopw [7] (fun i wr => ∃ f : Int, -1 ≤ f ∧ f ≤ 9 ∧ i = .int .i64 f ∧ Sep w0 wr O (quA g b q :: docQ hh q :: L)) (fun i _ => (9 - intOf i).toNat)
      case atStart => exact ⟨-1, by decide, by decide, rfl, H5⟩
      case round =>
        obtain ⟨f, hf0, hf1, rfl, H6⟩ := hrel
        clear H5
        by_cases hf : f ≤ 8
        · have h1 := qof_calls (f := f) H6
          have h2 := dof_calls (f := f) H6.up1 (by have := HN.out; omega)
          rw [ofQ_cnt HOK.out] at h1
          generalize cntF q.S f = m at h1 h2
          have wf : IntKind.i64.wrap (f + 1) = f + 1 := by rw [IntKind.wrap_i64]; omega
          go_wp2_with fail
          refine h1.mono ?_
          rintro e w' ⟨rfl, hw'⟩
          obtain rfl := hw'.symm
          go_wp2_with fail
          refine h2.mono ?_
          rintro e w' ⟨rfl, hw'⟩
          obtain rfl := hw'.symm
          clear h1 h2
          go_wp2
          go_roundw
          case rel => exact ⟨f + 1, by omega, by omega, by first | rfl | go_num, H6⟩
          case measure => simp [intOf]; omega
        · go_wp2
          go_ret
          exact ⟨rfl, H6⟩
end
end Go.Proofs.Ytkdoocgjagpcbaa
