/-
  The document's queue (cisternref26): Add, Copy.
-/
import Derived.Test.YtkdoocgjagpcbaaQueueF
namespace Go.Proofs.Ytkdoocgjagpcbaa
open Go.RowKit
set_option linter.unusedVariables false
set_option linter.unusedSimpArgs false
theorem nb0 {n j N : Nat} {d : Bool} (h : n ≤ j + d.toNat) (hj : j ≤ N) (hN : N ≤ 128) : n ≤ 200 := by
  have h1 : d.toNat ≤ 1 := by cases d <;> decide
  omega
theorem nb1 {n : Nat} (h : n ≤ 200) : n + 1 ≤ maxLen := by simp only [maxLen]; omega
theorem nb2 {n : Nat} (h : n ≤ 200) : (n + 1) * 32 ≤ 140737488355328 := by omega
theorem nb3 {n : Nat} (h : n ≤ 200) : n + 1 + 1 ≤ maxLen := by simp only [maxLen]; omega
theorem nb4 {n : Nat} (h : n ≤ 200) : (n + 1 + 1) * 32 ≤ 140737488355328 := by omega
theorem nb5 {n j : Nat} (h : n ≤ j) (hj : j ≤ 128) : n ≤ 200 := by omega
section
variable {w0 w : World} {O : Nat → Prop} {L : List Asr} {g b : Nat} {q : Qu}
theorem drop_cons {S : List Hd} {j : Nat} (h : j < S.length) : S.drop j = gat S j :: S.drop (j + 1) := by
  have := gat_get h
  rw [List.getElem?_eq_getElem h] at this
  injection this with this
  rw [← this, List.drop_eq_getElem_cons h]

set_option maxHeartbeats 40000000 in
set_option maxRecDepth 10000 in
theorem dadd_calls {f c id : Int} (HS : Sep w0 w O (docQ g q :: L)) (hok : QuOk b q) (hb : b ≤ 8000000000000) : Calls Try.prog 18 #[.pointer (some ⟨g, 0, none⟩), .int .i64 f, .int .i64 c, .int .u64 id] w fun e w' => e = .returned (.int .i64 (adE q f c)) ∧ Sep w0 w' O (docQ g (adQ q f c id) :: L) := by
  obtain ⟨i0, hi0, hz0, hz1, hz2⟩ := info_parts info_ditem
  by_cases hbad : f < 0 ∨ 8 ≤ f ∨ c < 1 ∨ 1048576 < c
  · have e1 : adE q f c = 1 := by unfold adE; rw [if_pos hbad]
    have e2 : adQ q f c id = q := by unfold adQ; rw [if_neg (by rw [e1]; decide)]
    rw [e1, e2]
    have HB := hid hbad
    clear e1 e2 hok hbad
    by_cases h0 : f < 0
    · go_enter Try.func18, Try.ntmps18
      go_wp2
      go_ret
      exact ⟨rfl, HS⟩
    · by_cases h1 : 7 < f
      · go_enter Try.func18, Try.ntmps18
        go_wp2
        go_ret
        exact ⟨rfl, HS⟩
      · by_cases h5 : c < 1
        · go_enter Try.func18, Try.ntmps18
          go_wp2
          go_ret
          exact ⟨rfl, HS⟩
        · have h6 : 1048576 < c := by have := HB.out; omega
          go_enter Try.func18, Try.ntmps18
          go_wp2
          go_ret
          exact ⟨rfl, HS⟩
  · obtain ⟨k, rfl⟩ := Int.eq_ofNat_of_zero_le (show 0 ≤ f by omega)
    have hk : k < 8 := by omega
    have hk0 : ¬ (k : Int) < 0 := by omega
    have hk1 : (k : Int) < 8 := by omega
    have hk2 : ¬ (7 : Int) < k := by omega
    have hc1 : ¬ c < 1 := by omega
    have hc2 : ¬ 1048576 < c := by omega
    have hsm := hok.small
    have hO := dof_calls (f := (k : Int)) HS (by omega)
    by_cases h16 : 16 ≤ cntF q.S k
    · have e1 : adE q k c = 8 := by unfold adE; rw [if_neg hbad, if_pos h16]
      have e2 : adQ q k c id = q := by unfold adQ; rw [if_neg (by rw [e1]; decide)]
      rw [e1, e2]
      have h16i : (16 : Int) ≤ cntF q.S k := by omega
      generalize cntF q.S k = m at *
      clear e1 e2 hok hbad
      go_enter Try.func18, Try.ntmps18
      go_wp2_with fail
      refine hO.mono ?_
      rintro e w' ⟨rfl, hw'⟩
      obtain rfl := hw'.symm
      go_wp2
      go_ret
      exact ⟨rfl, HS⟩
    · have e1 : adE q k c = 0 := by unfold adE; rw [if_neg hbad, if_neg h16]
      have e2 : adQ q k c id = ⟨q.time, q.n + 1, q.last.set k (adTag q k c), insH ⟨k, c, id, adTag q k c, q.n + 1⟩ q.S⟩ := by unfold adQ; rw [if_pos e1, Int.toNat_natCast]
      rw [e1, e2]
      have h16i : ¬ (16 : Int) ≤ cntF q.S k := by omega
      generalize cntF q.S k = m at hO h16i
      obtain ⟨tg, htg⟩ : ∃ tg, tg = adTag q k c := ⟨_, rfl⟩
      have htb := adTag_bd hok (f := (k : Int)) (c := c) ⟨by omega, by omega⟩ ⟨by omega, by omega⟩
      rw [← htg] at htb ⊢
      have HLL := hid hok.len
      obtain ⟨la, hla⟩ : ∃ la, la = gat q.last k := ⟨_, rfl⟩
      have htg2 : tg = max q.time la + c := by rw [htg]; unfold adTag; rw [Int.toNat_natCast, hla]
      have wt1 : q.time < la → IntKind.i64.wrap (la + c) = tg := fun h => by rw [IntKind.wrap_i64]; omega
      have wt2 : ¬ q.time < la → IntKind.i64.wrap (q.time + c) = tg := fun h => by rw [IntKind.wrap_i64]; omega
      have WT1 := hid wt1
      have WT2 := hid wt2
      obtain ⟨A, cc, H⟩ := HS.undocQ
      obtain ⟨N, hN⟩ : ∃ N, N = q.S.length := ⟨_, rfl⟩
      have HN := hid hN
      rw [← hN] at H hsm
      obtain ⟨x, hx⟩ : ∃ x : Hd, x = ⟨k, c, id, tg, q.n + 1⟩ := ⟨_, rfl⟩
      have HX := hid hx
      rw [← hx]
      have t1 := H.up1.blkAt (v := .int .i64 q.time) 1 rfl
      have tl := H.up1.blkAt (2 + k) (dq_l hok.len hk)
      rw [← hla] at tl
      have H1 := H.alloc #[.int .i64 k, .int .i64 c, .int .u64 id, .int .i64 tg] 52
      obtain ⟨gx, hgx⟩ : ∃ gx, gx = w.heap.size := ⟨_, rfl⟩
      obtain ⟨w1, hw1⟩ : ∃ w1, w1 = w.alloc (.cells #[.int .i64 k, .int .i64 c, .int .u64 id, .int .i64 tg] 52) := ⟨_, rfl⟩
      rw [← hgx, ← hw1] at H1
      have HGX := hid hgx
      have HW1 := hid hw1
      have H2 : Sep w0 w1 O (blk g 49 (dq (.slice A N cc) q.time q.last) :: own 52 4 A N cc (dv q.S) :: blk gx 52 #[.int .i64 k, .int .i64 c, .int .u64 id, .int .i64 tg] :: L) := H1.sel 3 [2, 1, 0]
      clear e1 e2 wt1 wt2 htg2 htg hla hok hbad h16 hx hN H HS H1 hgx hw1
      go_enter Try.func18, Try.ntmps18
      go_wp2_with fail
      refine hO.mono ?_
      rintro e w' ⟨rfl, hw'⟩
      obtain rfl := hw'.symm
      clear hO hw'
      go_upto_region 6 with (fail)
      go_upto_if 43 with (fail)
      go_cut [9] (fun v wx => v = .int .i64 (max q.time la) ∧ wx = w)
      case first =>
        by_cases hlt : q.time < la
        · have hmx : max q.time la = la := by omega
          have HMX := hid hmx
          clear hmx
          go_wp2
          go_meet
          case rel => exact ⟨by rw [HMX.out], rfl⟩
        · have hmx : max q.time la = q.time := by omega
          have HMX := hid hmx
          clear hmx
          go_wp2
          go_meet
          case rel => exact ⟨by rw [HMX.out], rfl⟩
      case rest =>
        obtain ⟨rfl, rfl⟩ := hcut
        have wt : IntKind.i64.wrap (max q.time la + c) = tg := by
          by_cases hlt : q.time < la
          · rw [show max q.time la = la by omega]; exact WT1.out (by omega)
          · rw [show max q.time la = q.time by omega]; exact WT2.out (by omega)
        generalize max q.time la = mx at *
        clear t1 tl
        go_upto_region 9 with (fail)
        rw [← HGX.out, ← HW1.out]
        have x3 := H2.up2.blkAt 3 rfl
        have tl := H2.blkAt (2 + k) (dq_l HLL.out hk)
        have zl := H2.blk_frozen (2 + k)
        have zld := H2.drew.blk_frozen (2 + k)
        have H3 := H2.blk_set (2 + k) (.int .i64 tg)
        rw [dq_sl HLL.out hk] at H3
        go_cut [8] (fun v wx => v = .int .i64 0 ∧ Sep w0 wx O (blk g 49 (dq (.slice A N cc) q.time (q.last.set k tg)) :: own 52 4 A N cc (dv q.S) :: blk gx 52 #[.int .i64 k, .int .i64 c, .int .u64 id, .int .i64 tg] :: L))
        case first =>
          go_region_law (fail)
          all_goals
            go_wp2
            go_meet
            case rel => exact ⟨rfl, H3.drew⟩
        case rest =>
          obtain ⟨rfl, H4⟩ := hcut
          clear H2 H3 x3 tl zl zld
          have H5 := (H4.up1).nil 52 4
          clear H4
          go_wp2
          go_loopw [11, 12, 13] (fun v dn i wr => ∃ (j n ck : Nat) (Q : Option Addr) (zs : List Hd) (d : Bool), j ≤ N ∧ n ≤ j + d.toNat ∧ v = .slice Q n ck ∧ dn = .bool d ∧ i = .int .i64 j ∧ Aside (zs ++ (if d = true then q.S.drop j else insH x (q.S.drop j)) = insH x q.S ∧ zs.length = n) ∧ Sep w0 wr O (own 52 4 Q n ck (dv zs) :: own 52 4 A N cc (dv q.S) :: blk g 49 (dq (.slice A N cc) q.time (q.last.set k tg)) :: blk gx 52 #[.int .i64 k, .int .i64 c, .int .u64 id, .int .i64 tg] :: L)) (fun _ _ i _ => N - (intOf i).toNat)
          case atStart => exact ⟨0, 0, 0, none, [], false, Nat.zero_le _, Nat.le_refl _, rfl, rfl, rfl, ⟨by simp, rfl⟩, H5⟩
          case round =>
            obtain ⟨j, n, ck, Q, zs, d, hj, hnj, rfl, rfl, rfl, HZ, H6⟩ := hrel
            clear H5
            have b0 := H6.up2.blkAt (v := .slice A N cc) 0 rfl
            by_cases hlt : j < N
            · have hj1 : (j : Int) < N := by omega
              have hjx : j < q.S.length := by have := HN.out; omega
              obtain ⟨a, rfl⟩ := H6.up1.own_some (by omega)
              obtain ⟨y, hy⟩ : ∃ y, y = gat q.S j := ⟨_, rfl⟩
              have c0 : wr.cell? ⟨a, j * 4, none⟩ = some (.int .i64 y.flow) := H6.up1.dcell hjx HN.out.symm 0 (by rw [← hy]; rfl)
              have c1 : wr.cell? ⟨a, j * 4 + 1, none⟩ = some (.int .i64 y.cost) := H6.up1.dcell hjx HN.out.symm 1 (by rw [← hy]; rfl)
              have c2 : wr.cell? ⟨a, j * 4 + 2, none⟩ = some (.int .u64 y.id) := H6.up1.dcell hjx HN.out.symm 2 (by rw [← hy]; rfl)
              have c3 : wr.cell? ⟨a, j * 4 + 3, none⟩ = some (.int .i64 y.tag) := H6.up1.dcell hjx HN.out.symm 3 (by rw [← hy]; rfl)
              have x3 := H6.up3.blkAt 3 rfl
              have hdc := drop_cons hjx
              rw [← hy] at hdc
              have HDC := hid hdc
              have h1c : ∀ u ∈ (#[.int .i64 y.flow, .int .i64 y.cost, .int .u64 y.id, .int .i64 y.tag] : Array Value).toList, u.oneCell' = true := by
                intro u hu
                simp at hu
                rcases hu with rfl | rfl | rfl | rfl <;> rfl
              have hap : dv zs ++ (#[.int .i64 y.flow, .int .i64 y.cost, .int .u64 y.id, .int .i64 y.tag] : Array Value).toList = dv (zs ++ [y]) := by simp [dv, dcs]
              have HAP := hid hap
              have H1C := hid h1c
              have HJ := hid hjx
              have HY := hid hy
              clear hy hjx hdc h1c hap
              have hnb : n ≤ 200 := nb0 hnj hj hsm
              cases d with
              | true =>
                have hnj2 : n ≤ j + 1 := hnj
                have hb1 : n + 1 ≤ maxLen := nb1 hnb
                have hb2 : (n + 1) * 32 ≤ 140737488355328 := nb2 hnb
                go_upto_region 15 with (fail)
                go_quiet (fail)
                clear c0 c1 c2 c3 b0 x3
                have H7 := H6.drewN nq
                obtain ⟨wq, hwq⟩ : ∃ wq, wq = wr.drewN nq := ⟨_, rfl⟩
                rw [← hwq] at H7 ⊢
                clear hwq H6
                have b0 := H7.up2.blkAt (v := .slice (some ⟨a, 0, none⟩) N cc) 0 rfl
                have c0 : wq.cell? ⟨a, j * 4, none⟩ = some (.int .i64 y.flow) := H7.up1.dcell HJ.out HN.out.symm 0 (by rw [← HY.out]; rfl)
                have c1 : wq.cell? ⟨a, j * 4 + 1, none⟩ = some (.int .i64 y.cost) := H7.up1.dcell HJ.out HN.out.symm 1 (by rw [← HY.out]; rfl)
                have c2 : wq.cell? ⟨a, j * 4 + 2, none⟩ = some (.int .u64 y.id) := H7.up1.dcell HJ.out HN.out.symm 2 (by rw [← HY.out]; rfl)
                have c3 : wq.cell? ⟨a, j * 4 + 3, none⟩ = some (.int .i64 y.tag) := H7.up1.dcell HJ.out HN.out.symm 3 (by rw [← HY.out]; rfl)
                have H8 := (H7.lit #[.int .i64 y.flow, .int .i64 y.cost, .int .u64 y.id, .int .i64 y.tag] 52 4 1 rfl (by decide)).up1
                have f0 := H8.up3.blkAt (v := .slice (some ⟨a, 0, none⟩) N cc) 0 rfl
                go_wp2_with (at_builtin; go_loud (refine wpList_append_sep rfl (.tmp 92) (.tmp 100) 47 rfl 52 i0 _ 4 32 Try.underlying47 hi0 hz0 hz1 hz2 rfl (by decide) rfl H8 rfl H8.rd1 H1C.out hb1 hb2 rfl HAP.out ?_); intro QB cB wB HSB hszB)
                go_roundw
                case rel => exact ⟨j + 1, n + 1, cB, QB, zs ++ [y], true, by omega, by show n + 1 ≤ j + 1 + 1; omega, rfl, rfl, by go_num, ⟨by have h := HZ.out.1; rw [if_pos rfl, HDC.out] at h; rw [if_pos rfl, ← h]; simp, by rw [List.length_append, HZ.out.2]; rfl⟩, HSB.sel 5 [0, 2, 3, 4]⟩
                case measure => simp [intOf]; omega
              | false =>
                have hnj2 : n ≤ j := hnj
                have hb1 : n + 1 ≤ maxLen := nb1 hnb
                have hb2 : (n + 1) * 32 ≤ 140737488355328 := nb2 hnb
                by_cases hty : tg < y.tag
                · have hb3 : n + 1 + 1 ≤ maxLen := nb3 hnb
                  have hb4 : (n + 1 + 1) * 32 ≤ 140737488355328 := nb4 hnb
                  have h1x : ∀ u ∈ (#[.int .i64 k, .int .i64 c, .int .u64 id, .int .i64 tg] : Array Value).toList, u.oneCell' = true := by
                    intro u hu
                    simp at hu
                    rcases hu with rfl | rfl | rfl | rfl <;> rfl
                  have H1X := hid h1x
                  have HAX := hid (show dv zs ++ (#[.int .i64 k, .int .i64 c, .int .u64 id, .int .i64 tg] : Array Value).toList = dv (zs ++ [x]) by rw [HX.out]; simp [dv, dcs])
                  have HAY := hid (show dv (zs ++ [x]) ++ (#[.int .i64 y.flow, .int .i64 y.cost, .int .u64 y.id, .int .i64 y.tag] : Array Value).toList = dv ((zs ++ [x]) ++ [y]) by simp [dv, dcs])
                  have HIN : Aside (insH x (q.S.drop j) = x :: y :: q.S.drop (j + 1)) := ⟨by rw [HDC.out, insH, if_pos (by rw [HX.out]; exact hty)]⟩
                  clear h1x
                  go_upto_region 15 with (fail)
                  go_quiet (fail)
                  clear c0 c1 c2 c3 b0 x3
                  have H7 := H6.drewN nq
                  obtain ⟨wq, hwq⟩ : ∃ wq, wq = wr.drewN nq := ⟨_, rfl⟩
                  rw [← hwq] at H7 ⊢
                  clear hwq H6
                  have x0 := H7.up3.blkAt 0 rfl
                  have x1 := H7.up3.blkAt 1 rfl
                  have x2 := H7.up3.blkAt 2 rfl
                  have x3 := H7.up3.blkAt 3 rfl
                  have H8 := (H7.lit #[.int .i64 k, .int .i64 c, .int .u64 id, .int .i64 tg] 52 4 1 rfl (by decide)).up1
                  go_upto_region 17 with (at_builtin; go_loud (refine wpList_append_sep rfl (.tmp 88) (.tmp 90) 47 rfl 52 i0 _ 4 32 Try.underlying47 hi0 hz0 hz1 hz2 rfl (by decide) rfl H8 rfl H8.rd1 H1X.out hb1 hb2 rfl HAX.out ?_); intro QA cA wA HSA hszA)
                  clear x0 x1 x2 x3
                  have H9 : Sep w0 wA O (own 52 4 QA (n + 1) cA (dv (zs ++ [x])) :: own 52 4 (some ⟨a, 0, none⟩) N cc (dv q.S) :: blk g 49 (dq (.slice (some ⟨a, 0, none⟩) N cc) q.time (q.last.set k tg)) :: blk gx 52 #[.int .i64 k, .int .i64 c, .int .u64 id, .int .i64 tg] :: L) := HSA.sel 5 [0, 2, 3, 4]
                  have b0 := H9.up2.blkAt (v := .slice (some ⟨a, 0, none⟩) N cc) 0 rfl
                  have c0 : wA.cell? ⟨a, j * 4, none⟩ = some (.int .i64 y.flow) := H9.up1.dcell HJ.out HN.out.symm 0 (by rw [← HY.out]; rfl)
                  have c1 : wA.cell? ⟨a, j * 4 + 1, none⟩ = some (.int .i64 y.cost) := H9.up1.dcell HJ.out HN.out.symm 1 (by rw [← HY.out]; rfl)
                  have c2 : wA.cell? ⟨a, j * 4 + 2, none⟩ = some (.int .u64 y.id) := H9.up1.dcell HJ.out HN.out.symm 2 (by rw [← HY.out]; rfl)
                  have c3 : wA.cell? ⟨a, j * 4 + 3, none⟩ = some (.int .i64 y.tag) := H9.up1.dcell HJ.out HN.out.symm 3 (by rw [← HY.out]; rfl)
                  have H10 := (H9.lit #[.int .i64 y.flow, .int .i64 y.cost, .int .u64 y.id, .int .i64 y.tag] 52 4 1 rfl (by decide)).up1
                  go_wp2_with (at_builtin; go_loud (refine wpList_append_sep rfl (.tmp 92) (.tmp 100) 47 rfl 52 i0 _ 4 32 Try.underlying47 hi0 hz0 hz1 hz2 rfl (by decide) rfl H10 rfl H10.rd1 H1C.out hb3 hb4 rfl HAY.out ?_); intro QB cB wB HSB hszB)
                  go_roundw
                  case rel => exact ⟨j + 1, n + 1 + 1, cB, QB, (zs ++ [x]) ++ [y], true, by omega, by show n + 1 + 1 ≤ j + 1 + 1; omega, rfl, rfl, by go_num, ⟨by have h := HZ.out.1; rw [if_neg (by simp), HIN.out] at h; rw [if_pos rfl, ← h]; simp, by rw [List.length_append, List.length_append, HZ.out.2]; rfl⟩, HSB.sel 5 [0, 2, 3, 4]⟩
                  case measure => simp [intOf]; omega
                · have HIN : Aside (insH x (q.S.drop j) = y :: insH x (q.S.drop (j + 1))) := ⟨by rw [HDC.out, insH, if_neg (by rw [HX.out]; exact hty)]⟩
                  go_upto_region 15 with (fail)
                  go_quiet (fail)
                  clear c0 c1 c2 c3 b0 x3
                  have H7 := H6.drewN nq
                  obtain ⟨wq, hwq⟩ : ∃ wq, wq = wr.drewN nq := ⟨_, rfl⟩
                  rw [← hwq] at H7 ⊢
                  clear hwq H6
                  have b0 := H7.up2.blkAt (v := .slice (some ⟨a, 0, none⟩) N cc) 0 rfl
                  have c0 : wq.cell? ⟨a, j * 4, none⟩ = some (.int .i64 y.flow) := H7.up1.dcell HJ.out HN.out.symm 0 (by rw [← HY.out]; rfl)
                  have c1 : wq.cell? ⟨a, j * 4 + 1, none⟩ = some (.int .i64 y.cost) := H7.up1.dcell HJ.out HN.out.symm 1 (by rw [← HY.out]; rfl)
                  have c2 : wq.cell? ⟨a, j * 4 + 2, none⟩ = some (.int .u64 y.id) := H7.up1.dcell HJ.out HN.out.symm 2 (by rw [← HY.out]; rfl)
                  have c3 : wq.cell? ⟨a, j * 4 + 3, none⟩ = some (.int .i64 y.tag) := H7.up1.dcell HJ.out HN.out.symm 3 (by rw [← HY.out]; rfl)
                  have H8 := (H7.lit #[.int .i64 y.flow, .int .i64 y.cost, .int .u64 y.id, .int .i64 y.tag] 52 4 1 rfl (by decide)).up1
                  go_wp2_with (at_builtin; go_loud (refine wpList_append_sep rfl (.tmp 92) (.tmp 100) 47 rfl 52 i0 _ 4 32 Try.underlying47 hi0 hz0 hz1 hz2 rfl (by decide) rfl H8 rfl H8.rd1 H1C.out hb1 hb2 rfl HAP.out ?_); intro QB cB wB HSB hszB)
                  go_roundw
                  case rel => exact ⟨j + 1, n + 1, cB, QB, zs ++ [y], false, by omega, by show n + 1 ≤ j + 1; omega, rfl, rfl, by go_num, ⟨by have h := HZ.out.1; rw [if_neg (by simp), HIN.out] at h; rw [if_neg (by simp), ← h]; simp, by rw [List.length_append, HZ.out.2]; rfl⟩, HSB.sel 5 [0, 2, 3, 4]⟩
                  case measure => simp [intOf]; omega
            · obtain rfl : j = N := by omega
              have hj1 : ¬ (j : Int) < j := by omega
              have hdr : q.S.drop j = [] := List.drop_of_length_le (by have := HN.out; omega)
              have hnb : n ≤ 200 := nb0 hnj hj hsm
              cases d with
              | true =>
                have hzs : zs = insH x q.S := by have h := HZ.out.1; rw [if_pos rfl, hdr, List.append_nil] at h; exact h
                have HZS := hid hzs
                have z0 := H6.up2.blk_frozen 0
                have K1 := H6.up2.blk_set 0 (.slice Q n ck)
                rw [dq_sv] at K1
                clear hzs hdr H6
                go_wp2
                go_ret
                exact ⟨rfl, Sep.docedQ (A := Q) (c := ck) (q := ⟨q.time, q.n + 1, q.last.set k tg, insH x q.S⟩) HZS.out (by rw [← HZS.out, HZ.out.2]) (K1.sel 4 [1, 0])⟩
              | false =>
                have hzs : zs ++ [x] = insH x q.S := by have h := HZ.out.1; rw [if_neg (by simp), hdr] at h; exact h
                have HZS := hid hzs
                have hnj2 : n ≤ j := hnj
                have hnb : n ≤ 200 := nb5 hnj2 hsm
                have hb1 : n + 1 ≤ maxLen := nb1 hnb
                have hb2 : (n + 1) * 32 ≤ 140737488355328 := nb2 hnb
                have h1x : ∀ u ∈ (#[.int .i64 k, .int .i64 c, .int .u64 id, .int .i64 tg] : Array Value).toList, u.oneCell' = true := by
                  intro u hu
                  simp at hu
                  rcases hu with rfl | rfl | rfl | rfl <;> rfl
                have H1X := hid h1x
                have HAX := hid (show dv zs ++ (#[.int .i64 k, .int .i64 c, .int .u64 id, .int .i64 tg] : Array Value).toList = dv (zs ++ [x]) by rw [HX.out]; simp [dv, dcs])
                have x0 := H6.up3.blkAt 0 rfl
                have x1 := H6.up3.blkAt 1 rfl
                have x2 := H6.up3.blkAt 2 rfl
                have x3 := H6.up3.blkAt 3 rfl
                have H8 := (H6.lit #[.int .i64 k, .int .i64 c, .int .u64 id, .int .i64 tg] 52 4 1 rfl (by decide)).up1
                clear h1x hzs hdr
                go_upto_region 21 with (at_builtin; go_loud (refine wpList_append_sep rfl (.tmp 104) (.tmp 106) 47 rfl 52 i0 _ 4 32 Try.underlying47 hi0 hz0 hz1 hz2 rfl (by decide) rfl H8 rfl H8.rd1 H1X.out hb1 hb2 rfl HAX.out ?_); intro QA cA wA HSA hszA)
                have H9 := HSA.sel 5 [0, 2, 3, 4]
                have d0 := HSA.up3.blkAt (v := .slice A j cc) 0 rfl
                have z0 := HSA.up3.blk_frozen 0
                have K1 := HSA.up3.blk_set 0 (.slice QA (n + 1) cA)
                rw [dq_sv] at K1
                clear H9 H6 b0
                go_wp2
                go_ret
                exact ⟨rfl, Sep.docedQ (A := QA) (c := cA) (q := ⟨q.time, q.n + 1, q.last.set k tg, insH x q.S⟩) HZS.out (by rw [← HZS.out, List.length_append, HZ.out.2]; rfl) (K1.sel 5 [1, 0])⟩
end
end Go.Proofs.Ytkdoocgjagpcbaa
