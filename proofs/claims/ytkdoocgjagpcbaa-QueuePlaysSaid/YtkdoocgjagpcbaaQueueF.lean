/-
  The document's queue (cisternref26): TakeAt, Add.
-/
import Derived.Test.YtkdoocgjagpcbaaQueueD
import Derived.Deep.CutBlock
import Derived.Deep.DeepCutAuto
namespace Go.Proofs.Ytkdoocgjagpcbaa
open Go.RowKit
set_option linter.unusedVariables false
set_option linter.unusedSimpArgs false
section
variable {w0 w : World} {O : Nat → Prop} {L : List Asr} {g b : Nat} {q : Qu}
theorem era_more {S : List Hd} {k i : Nat} (hk : k < S.length) : (S.take (k + 1)).eraseIdx i = if k = i then (S.take k).eraseIdx i else (S.take k).eraseIdx i ++ [gat S k] := by
  have hl : (S.take k).length = k := by rw [List.length_take]; omega
  rw [List.take_add_one, gat_get hk]
  show (S.take k ++ [gat S k]).eraseIdx i = _
  rcases Nat.lt_trichotomy i k with h | h | h
  · rw [if_neg (by omega), List.eraseIdx_append_of_lt_length (by omega)]
  · subst h
    rw [if_pos rfl, List.eraseIdx_append_of_length_le (by omega), hl, Nat.sub_self, List.eraseIdx_of_length_le (l := S.take i) (by omega)]
    simp
  · rw [if_neg (by omega), List.eraseIdx_append_of_length_le (by omega), hl, List.eraseIdx_of_length_le (l := S.take k) (by omega), List.eraseIdx_of_length_le (l := [gat S k]) (by simp; omega)]
theorem era_zero {S : List Hd} {i : Nat} : (S.take 0).eraseIdx i = [] := by simp

set_option maxHeartbeats 4000000 in
set_option maxRecDepth 10000 in
theorem dtake_calls {i : Int} (HS : Sep w0 w O (docQ g q :: L)) (hn : q.S.length ≤ 1024) : Calls Try.prog 19 #[.pointer (some ⟨g, 0, none⟩), .int .i64 i] w fun e w' => e = .returned (.tuple #[.agg #[.int .i64 (tkAt q i).flow, .int .i64 (tkAt q i).cost, .int .u64 (tkAt q i).id, .int .i64 (tkAt q i).tag], .bool (tkIs q i)]) ∧ Sep w0 w' O (docQ g (tkQ q i) :: L) := by
  obtain ⟨i0, hi0, hz0, hz1, hz2⟩ := info_parts info_ditem
  have HB := (HS.alloc #[.int .i64 0, .int .i64 0, .int .u64 0, .int .i64 0] 52).up1
  obtain ⟨gb, hgb⟩ : ∃ gb, gb = w.heap.size := ⟨_, rfl⟩
  obtain ⟨wb, hwb⟩ : ∃ wb, wb = w.alloc (.cells #[.int .i64 0, .int .i64 0, .int .u64 0, .int .i64 0] 52) := ⟨_, rfl⟩
  rw [← hgb, ← hwb] at HB
  have HG := hid hgb
  have HW := hid hwb
  clear hgb hwb HS
  obtain ⟨A, c, H⟩ := HB.undocQ
  by_cases hr : i < 0 ∨ (q.S.length : Int) ≤ i
  · have e1 : tkAt q i = ⟨0, 0, 0, 0, 0⟩ := by unfold tkAt; rw [if_pos hr]
    have e2 : tkIs q i = false := by unfold tkIs; rw [if_pos hr]
    have e3 : tkQ q i = q := by unfold tkQ; rw [if_pos hr]
    rw [e1, e2, e3]
    clear e1 e2 e3
    have HR := hid hr
    clear hr
    have b0 := H.up1.blkAt (v := .slice A q.S.length c) 0 rfl
    have K := HB.up1
    have d0 := K.blkAt 0 rfl
    have d1 := K.blkAt 1 rfl
    have d2 := K.blkAt 2 rfl
    have d3 := K.blkAt 3 rfl
    have f0 := K.blk_frozen 0
    have f1 := K.blk_frozen 1
    have f2 := K.blk_frozen 2
    have f3 := K.blk_frozen 3
    have H4 := (((K.blk_set 0 (.int .i64 0)).blk_set 1 (.int .i64 0)).blk_set 2 (.int .u64 0)).blk_set 3 (.int .i64 0)
    by_cases h0 : i < 0
    · go_enter Try.func19, Try.ntmps19
      go_upto_region 1 with (fail)
      rw [← HG.out, ← HW.out]
      go_wp2
      (try simp only [Exit.inBlock, Exit.then])
      refine bodyPost_ret (results_rowa rfl _ _ _ _ _ _ _ rfl H4.blk_heap Try.underlying52 rfl info_dit) rfl ?_
      exact ⟨rfl, H4.drop⟩
    · have h1 : (q.S.length : Int) ≤ i := by have := HR.out; omega
      go_enter Try.func19, Try.ntmps19
      go_upto_region 1 with (fail)
      rw [← HG.out, ← HW.out]
      go_wp2
      (try simp only [Exit.inBlock, Exit.then])
      refine bodyPost_ret (results_rowa rfl _ _ _ _ _ _ _ rfl H4.blk_heap Try.underlying52 rfl info_dit) rfl ?_
      exact ⟨rfl, H4.drop⟩
  · have e1 : tkAt q i = gat q.S i.toNat := by unfold tkAt; rw [if_neg hr]
    have e2 : tkIs q i = true := by unfold tkIs; rw [if_neg hr]
    have e3 : tkQ q i = ⟨max q.time (gat q.S i.toNat).tag, q.n, q.last, q.S.eraseIdx i.toNat⟩ := by unfold tkQ; rw [if_neg hr]
    rw [e1, e2, e3]
    clear e1 e2 e3
    obtain ⟨k, rfl⟩ := Int.eq_ofNat_of_zero_le (show 0 ≤ i by omega)
    rw [Int.toNat_natCast]
    have hk : k < q.S.length := by omega
    have hkb := hk
    obtain ⟨x, hx⟩ : ∃ x, x = gat q.S k := ⟨_, rfl⟩
    have HX := hid hx
    rw [← hx]
    obtain ⟨N, hN⟩ : ∃ N, N = q.S.length := ⟨_, rfl⟩
    have HN := hid hN
    rw [← hN] at H hn hkb
    have h0 : ¬ (k : Int) < 0 := by omega
    have h1 : ¬ (N : Int) ≤ k := by omega
    have h2 : (k : Int) < N := by omega
    have b0 := H.up1.blkAt (v := .slice A N c) 0 rfl
    obtain ⟨a, rfl⟩ := H.own_some (by omega)
    have c0 : wb.cell? ⟨a, k * 4, none⟩ = some (.int .i64 x.flow) := H.dcell hk hN.symm 0 (by rw [← hx]; rfl)
    have c1 : wb.cell? ⟨a, k * 4 + 1, none⟩ = some (.int .i64 x.cost) := H.dcell hk hN.symm 1 (by rw [← hx]; rfl)
    have c2 : wb.cell? ⟨a, k * 4 + 2, none⟩ = some (.int .u64 x.id) := H.dcell hk hN.symm 2 (by rw [← hx]; rfl)
    have c3 : wb.cell? ⟨a, k * 4 + 3, none⟩ = some (.int .i64 x.tag) := H.dcell hk hN.symm 3 (by rw [← hx]; rfl)
    have HK := hid hk
    have H1 := H.alloc #[.int .i64 x.flow, .int .i64 x.cost, .int .u64 x.id, .int .i64 x.tag] 52
    obtain ⟨gx, hgx⟩ : ∃ gx, gx = wb.heap.size := ⟨_, rfl⟩
    obtain ⟨wx, hwx⟩ : ∃ wx, wx = wb.alloc (.cells #[.int .i64 x.flow, .int .i64 x.cost, .int .u64 x.id, .int .i64 x.tag] 52) := ⟨_, rfl⟩
    rw [← hgx, ← hwx] at H1
    have HGX := hid hgx
    have HWX := hid hwx
    have H2 : Sep w0 wx O (own 52 4 none 0 0 [] :: own 52 4 (some ⟨a, 0, none⟩) N c (dv q.S) :: blk g 49 (dq (.slice (some ⟨a, 0, none⟩) N c) q.time q.last) :: blk gx 52 #[.int .i64 x.flow, .int .i64 x.cost, .int .u64 x.id, .int .i64 x.tag] :: blk gb 52 #[.int .i64 0, .int .i64 0, .int .u64 0, .int .i64 0] :: L) := (H1.nil _ _).sel 5 [0, 2, 3, 1, 4]
    clear hr hx hN hk HB H H1 hgx hwx
    go_enter Try.func19, Try.ntmps19
    go_upto_region 1 with (fail)
    rw [← HG.out, ← HW.out]
    go_upto_region 4 with (fail)
    rw [← HGX.out, ← HWX.out]
    clear c0 c1 c2 c3 b0
    go_wp2
    go_loopw [7, 8] (fun v u wr => ∃ (j n ck : Nat) (Q : Option Addr) (zs : List Hd), j ≤ N ∧ n ≤ j ∧ v = .slice Q n ck ∧ u = .int .i64 j ∧ Aside (zs = (q.S.take j).eraseIdx k ∧ zs.length = n) ∧ Sep w0 wr O (own 52 4 Q n ck (dv zs) :: own 52 4 (some ⟨a, 0, none⟩) N c (dv q.S) :: blk g 49 (dq (.slice (some ⟨a, 0, none⟩) N c) q.time q.last) :: blk gx 52 #[.int .i64 x.flow, .int .i64 x.cost, .int .u64 x.id, .int .i64 x.tag] :: blk gb 52 #[.int .i64 0, .int .i64 0, .int .u64 0, .int .i64 0] :: L)) (fun _ u _ => N - (intOf u).toNat)
    case atStart => exact ⟨0, 0, 0, none, [], Nat.zero_le _, Nat.le_refl _, rfl, rfl, ⟨by simp, rfl⟩, H2⟩
    case round =>
      obtain ⟨j, n, ck, Q, zs, hj, hnj, rfl, rfl, HZ, H3⟩ := hrel
      clear H2
      have b0 := H3.up2.blkAt (v := .slice (some ⟨a, 0, none⟩) N c) 0 rfl
      by_cases hlt : j < N
      · have hj1 : (j : Int) < N := by omega
        have hjx : j < q.S.length := by have := HN.out; omega
        obtain ⟨y, hy⟩ : ∃ y, y = gat q.S j := ⟨_, rfl⟩
        have c0 : wr.cell? ⟨a, j * 4, none⟩ = some (.int .i64 y.flow) := H3.up1.dcell hjx HN.out.symm 0 (by rw [← hy]; rfl)
        have c1 : wr.cell? ⟨a, j * 4 + 1, none⟩ = some (.int .i64 y.cost) := H3.up1.dcell hjx HN.out.symm 1 (by rw [← hy]; rfl)
        have c2 : wr.cell? ⟨a, j * 4 + 2, none⟩ = some (.int .u64 y.id) := H3.up1.dcell hjx HN.out.symm 2 (by rw [← hy]; rfl)
        have c3 : wr.cell? ⟨a, j * 4 + 3, none⟩ = some (.int .i64 y.tag) := H3.up1.dcell hjx HN.out.symm 3 (by rw [← hy]; rfl)
        have hmr := era_more (i := k) hjx
        rw [← hy] at hmr
        clear hy hjx
        by_cases hf : j = k
        · rw [if_pos hf] at hmr
          have HM := hid hmr
          have HF := hid hf
          have e1 : ((j : Int) != k) = false := by simp; omega
          have e2 : (j : Int) = k := by omega
          clear hmr hf
          go_wp2
          go_roundw
          case rel => exact ⟨j + 1, n, ck, Q, zs, by omega, by omega, rfl, by go_num, ⟨by rw [HM.out]; exact HZ.out.1, HZ.out.2⟩, H3⟩
          case measure => simp [intOf]; omega
        · rw [if_neg hf] at hmr
          have HM := hid hmr
          have e1 : ((j : Int) != k) = true := by simp; omega
          have e2 : ¬ (j : Int) = k := by omega
          have e3 : ((j : Int) == k) = false := beq_eq_false_iff_ne.2 e2
          have h1c : ∀ u ∈ (#[.int .i64 y.flow, .int .i64 y.cost, .int .u64 y.id, .int .i64 y.tag] : Array Value).toList, u.oneCell' = true := by
            intro u hu
            simp at hu
            rcases hu with rfl | rfl | rfl | rfl <;> rfl
          have hap : dv zs ++ (#[.int .i64 y.flow, .int .i64 y.cost, .int .u64 y.id, .int .i64 y.tag] : Array Value).toList = dv (zs ++ [y]) := by simp [dv, dcs]
          have HAP := hid hap
          have H1C := hid h1c
          have hb1 : n + 1 ≤ maxLen := by simp only [maxLen]; omega
          have hb2 : (n + 1) * 32 ≤ 140737488355328 := by omega
          have H4 := (H3.lit #[.int .i64 y.flow, .int .i64 y.cost, .int .u64 y.id, .int .i64 y.tag] 52 4 1 rfl (by decide)).up1
          have f0 := H4.up3.blkAt (v := .slice (some ⟨a, 0, none⟩) N c) 0 rfl
          clear hmr hap h1c
          go_wp2_with (at_builtin; go_loud (refine wpList_append_sep rfl (.tmp 40) (.tmp 48) 47 rfl 52 i0 _ 4 32 Try.underlying47 hi0 hz0 hz1 hz2 rfl (by decide) rfl H4 rfl H4.rd1 H1C.out hb1 hb2 rfl HAP.out ?_); intro Q' cq' w6 HS7 hsz7)
          go_roundw
          case rel => exact ⟨j + 1, n + 1, cq', Q', zs ++ [y], by omega, by omega, rfl, by go_num, ⟨by rw [HM.out, ← HZ.out.1], by rw [List.length_append, HZ.out.2]; rfl⟩, HS7.sel 6 [0, 2, 3, 4, 5]⟩
          case measure => simp [intOf]; omega
      · obtain rfl : j = N := by omega
        have hj1 : ¬ (j : Int) < j := by omega
        have hzs : zs = q.S.eraseIdx k := by rw [HZ.out.1, List.take_of_length_le (by have := HN.out; omega)]
        have HZS := hid hzs
        have z0 := H3.up2.blk_frozen 0
        have K1 := H3.up2.blk_set 0 (.slice Q n ck)
        rw [dq_sv] at K1
        obtain ⟨wk, hwk⟩ : ∃ wk, wk = wr.setCell ⟨g, 0, none⟩ (.slice Q n ck) := ⟨_, rfl⟩
        rw [← hwk] at K1
        have HWK := hid hwk
        clear hzs H3 hwk
        go_upto_region 11 with (fail)
        rw [← HWK.out]
        clear b0 z0
        have t1 := K1.blkAt (v := .int .i64 q.time) 1 rfl
        have y3 := K1.up3.blkAt 3 rfl
        go_quiet (fail)
        clear t1 y3
        obtain ⟨wm, hwm⟩ : ∃ wm, wm = wk.drewN nq := ⟨_, rfl⟩
        have K2 := K1.drewN nq
        rw [← hwm] at K2
        rw [← hwm]
        clear K1 hwm
        by_cases hlt : q.time < x.tag
        · have hmx : max q.time x.tag = x.tag := by omega
          have HMX := hid hmx
          have t1 := K2.blkAt (v := .int .i64 q.time) 1 rfl
          have z1 := K2.blk_frozen 1
          have K3 := K2.blk_set 1 (.int .i64 x.tag)
          rw [dq_st] at K3
          have y3 := K2.up3.blkAt 3 rfl
          have x0 := K3.up3.blkAt 0 rfl
          have x1 := K3.up3.blkAt 1 rfl
          have x2 := K3.up3.blkAt 2 rfl
          have x3 := K3.up3.blkAt 3 rfl
          have K4 := K3.up4
          have d0 := K4.blkAt 0 rfl
          have d1 := K4.blkAt 1 rfl
          have d2 := K4.blkAt 2 rfl
          have d3 := K4.blkAt 3 rfl
          have f0 := K4.blk_frozen 0
          have f1 := K4.blk_frozen 1
          have f2 := K4.blk_frozen 2
          have f3 := K4.blk_frozen 3
          have K5 := (((K4.blk_set 0 (.int .i64 x.flow)).blk_set 1 (.int .i64 x.cost)).blk_set 2 (.int .u64 x.id)).blk_set 3 (.int .i64 x.tag)
          clear hmx
          go_wp2
          (try simp only [Exit.inBlock, Exit.then])
          refine bodyPost_ret (results_rowa rfl _ _ _ _ _ _ _ rfl K5.blk_heap Try.underlying52 rfl info_dit) rfl ?_
          refine ⟨rfl, Sep.docedQ (A := Q) (c := ck) (q := ⟨max q.time x.tag, q.n, q.last, q.S.eraseIdx k⟩) HZS.out (by rw [← HZS.out, HZ.out.2]) ?_⟩
          show Sep w0 _ O (own 52 4 Q n ck (dv zs) :: blk g 49 (dq (.slice Q n ck) (max q.time x.tag) q.last) :: L)
          rw [HMX.out]
          exact K5.sel 5 [2, 1]
        · have hmx : max q.time x.tag = q.time := by omega
          have HMX := hid hmx
          have x0 := K2.up3.blkAt 0 rfl
          have x1 := K2.up3.blkAt 1 rfl
          have x2 := K2.up3.blkAt 2 rfl
          have x3 := K2.up3.blkAt 3 rfl
          have K4 := K2.up4
          have d0 := K4.blkAt 0 rfl
          have d1 := K4.blkAt 1 rfl
          have d2 := K4.blkAt 2 rfl
          have d3 := K4.blkAt 3 rfl
          have f0 := K4.blk_frozen 0
          have f1 := K4.blk_frozen 1
          have f2 := K4.blk_frozen 2
          have f3 := K4.blk_frozen 3
          have K5 := (((K4.blk_set 0 (.int .i64 x.flow)).blk_set 1 (.int .i64 x.cost)).blk_set 2 (.int .u64 x.id)).blk_set 3 (.int .i64 x.tag)
          clear hmx
          go_wp2
          (try simp only [Exit.inBlock, Exit.then])
          refine bodyPost_ret (results_rowa rfl _ _ _ _ _ _ _ rfl K5.blk_heap Try.underlying52 rfl info_dit) rfl ?_
          refine ⟨rfl, Sep.docedQ (A := Q) (c := ck) (q := ⟨max q.time x.tag, q.n, q.last, q.S.eraseIdx k⟩) HZS.out (by rw [← HZS.out, HZ.out.2]) ?_⟩
          show Sep w0 _ O (own 52 4 Q n ck (dv zs) :: blk g 49 (dq (.slice Q n ck) (max q.time x.tag) q.last) :: L)
          rw [HMX.out]
          exact K5.sel 5 [2, 1]
end
end Go.Proofs.Ytkdoocgjagpcbaa
