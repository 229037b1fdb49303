/-
  The walk of QueueOnce.
-/
import Derived.Test.YtkdoocgjagpcbaaLaw26
import Derived.Test.YtkdoocgjagpcbaaActs4
import Derived.Deep.CutBlock
import Derived.Deep.DeepCutAuto
namespace Go.Proofs.Ytkdoocgjagpcbaa
open Go.RowKit
set_option linter.unusedVariables false
set_option linter.unusedSimpArgs false
theorem adQ_len (q : Qu) (f c id : Int) : (adQ q f c id).S.length = q.S.length + if adE q f c = 0 then 1 else 0 := by
  unfold adQ
  split
  · rw [(insH_perm _ _).length_eq]; rfl
  · rfl
theorem tkQ_len (q : Qu) (i : Int) : q.S.length = (tkQ q i).S.length + if tkIs q i = true then 1 else 0 := by
  unfold tkQ tkIs
  split
  · rw [if_neg (by simp)]; rfl
  · rw [if_pos rfl]
    show q.S.length = (q.S.eraseIdx i.toNat).length + 1
    rw [List.length_eraseIdx, if_pos (by omega)]
    omega
theorem tkQ_time (q : Qu) (i : Int) : q.time ≤ (tkQ q i).time := by
  unfold tkQ
  split
  · exact Int.le_refl _
  · show q.time ≤ max q.time _
    omega
theorem ofQ_drQ (q : Qu) (f : Int) : ofQ (drQ q f) f = 0 := by
  unfold ofQ drQ
  split
  · rfl
  · show cntF (q.S.filter _) f = 0
    rw [cntF_filter, if_pos rfl]
theorem drQ_len (q : Qu) (f : Int) : q.S.length = (drQ q f).S.length + ofQ q f := by
  unfold ofQ drQ
  split
  · rfl
  · show q.S.length = (q.S.filter fun h => !(h.flow == f)).length + cntF q.S f
    unfold cntF
    rw [List.countP_eq_length_filter]
    induction q.S with
    | nil => rfl
    | cons x S ih =>
      rw [List.filter_cons, List.filter_cons]
      cases x.flow == f <;> simp <;> omega
section
variable {w0 w : World} {O : Nat → Prop} {L : List Asr}
theorem Sep.qu_more {g b c : Nat} {q : Qu} (h : Sep w0 w O (quA g b q :: L)) (hc : b ≤ c) : Sep w0 w O (quA g c q :: L) := by
  obtain ⟨xs, h⟩ := h.unex
  obtain ⟨⟨h1, h2, h3⟩, h⟩ := h.unwith
  exact Sep.ex xs (Sep.with_ ⟨h1.more hc, h2, h3⟩ h)
end

set_option maxHeartbeats 16000000 in
set_option maxRecDepth 100000 in
theorem queueOnce_walk (A0 : Option Addr) (n0 c0 : Nat) (x0 : Sh.V (.slice (.agg (.pair (.int .i64) (.pair (.int .i64) (.pair (.int .i64) (.pair (.int .u64) .unit))))) 32)) (w : World) (s0 : Sees w.heap (.slice (.agg (.pair (.int .i64) (.pair (.int .i64) (.pair (.int .i64) (.pair (.int .u64) .unit))))) 32) [.slice A0 n0 c0] x0) (y0 : Light (.slice (.agg (.pair (.int .i64) (.pair (.int .i64) (.pair (.int .i64) (.pair (.int .u64) .unit))))) 32) x0) :
    Calls Try.prog 4 #[.slice A0 n0 c0] w fun e w' => e = .returned (.bool true) ∧ Below w.heap.size w w' := by
  have hn0 : n0 * 32 ≤ 140737488351232 := by
    obtain ⟨A', c', hc, -⟩ := s0
    simp only [List.cons.injEq, and_true, Value.slice.injEq] at hc
    have := y0.1
    rw [← hc.2.1] at this
    omega
  obtain ⟨hc1, acts, hal, hab, hm⟩ := sees_acts s0
  have HRA := hid (fun L => Rb.came (L := L) hm)
  clear s0 y0 hm hab hal
  have HS := Sep.start w
  go_enter Try.func4, Try.ntmps4
  go_wp2_with fail
  refine (qnew_calls HS).mono ?_
  rintro e w1 ⟨g, rfl, H1⟩
  go_wp2_with fail
  refine (wakes_calls H1).mono ?_
  rintro e w2 ⟨rfl, H2⟩
  clear HS H1
  go_wp2
  go_loopw [4, 5, 6] (fun a d i wr => ∃ (k A G : Nat) (q : Qu), k ≤ n0 ∧ a = .int .i64 A ∧ d = .int .i64 G ∧ i = .int .i64 k ∧ A ≤ k ∧ Aside (A = G + q.S.length) ∧ Sep w wr (fun _ => False) (quA g k q :: [])) (fun _ _ i _ => n0 - (intOf i).toNat)
  case atStart => exact ⟨0, 0, 0, noQu, Nat.zero_le _, rfl, rfl, rfl, Nat.le_refl _, ⟨rfl⟩, H2⟩
  case round =>
    obtain ⟨k, A, G, q, hk, rfl, rfl, rfl, hAk, HAG, H4⟩ := hrel
    clear H2
    by_cases hlt : k < n0
    · obtain ⟨ad, ⟨wh, fl, co, id⟩, rfl, hp, p0, p1, p2, p3⟩ := (HRA.out _).actAt H4 hlt
      dsimp only at p0 p1 p2 p3
      have hk1 : (k : Int) < n0 := by omega
      have BA := H4.alloc #[.int .i64 wh, .int .i64 fl, .int .i64 co, .int .u64 id] 29
      obtain ⟨ga, hga⟩ : ∃ z, z = wr.heap.size := ⟨_, rfl⟩
      obtain ⟨vA, hvA⟩ : ∃ z, z = wr.alloc (.cells #[.int .i64 wh, .int .i64 fl, .int .i64 co, .int .u64 id] 29) := ⟨_, rfl⟩
      rw [← hga, ← hvA] at BA
      have HGA := hid hga
      have HVA := hid hvA
      clear hga hvA
      clear hp
      go_upto_block 2 with (fail)
      rw [← HGA.out, ← HVA.out]
      clear p0 p1 p2 p3
      have hGA : G ≤ A := by have := HAG.out; omega
      go_cut [4, 5] (fun a d wx => ∃ (A G : Nat) (q : Qu), a = .int .i64 A ∧ d = .int .i64 G ∧ A ≤ k + 1 ∧ Aside (A = G + q.S.length) ∧ Sep w wx (fun _ => False) (quA g (k + 1) q :: []))
      case first =>
        have H6 : Sep w vA (fun _ => False) (quA g k q :: blk ga 29 #[.int .i64 wh, .int .i64 fl, .int .i64 co, .int .u64 id] :: []) := BA.up1
        have q0 := H6.up1.blkAt 0 rfl
        clear BA hk1
        rcases (show wh = 0 ∨ wh = 1 ∨ wh = 2 ∨ wh = 4 ∨ (¬ wh = 0 ∧ ¬ wh = 1 ∧ ¬ wh = 2 ∧ ¬ wh = 4) by omega) with rfl | rfl | rfl | rfl | ⟨m0, m1, m2, m4⟩
        · have hA := qadd_calls (f := fl) (c := co) (id := id) H6 (by omega)
          have q1 := H6.up1.blkAt 1 rfl
          have q2 := H6.up1.blkAt 2 rfl
          have q3 := H6.up1.blkAt 3 rfl
          have hlen := adQ_len q fl co id
          by_cases h0 : adE q fl co = 0
          · rw [h0] at hA
            rw [if_pos h0] at hlen
            have HLEN := hid hlen
            clear h0 hlen
            go_wp2_with fail
            refine hA.mono ?_
            rintro e w6 ⟨rfl, H7⟩
            go_wp2
            go_meet
            case rel => exact ⟨A + 1, G, adQ q fl co id, by go_num, rfl, by omega, ⟨by have := HLEN.out; have := HAG.out; omega⟩, H7.sel 2 [0]⟩
          · have hb0 : (adE q fl co == 0) = false := beq_eq_false_iff_ne.2 h0
            rw [if_neg h0] at hlen
            have HLEN := hid hlen
            generalize adE q fl co = E at *
            clear h0 hlen
            go_wp2_with fail
            refine hA.mono ?_
            rintro e w6 ⟨rfl, H7⟩
            go_wp2
            go_meet
            case rel => exact ⟨A, G, adQ q fl co id, rfl, rfl, by omega, ⟨by have := HLEN.out; have := HAG.out; omega⟩, H7.sel 2 [0]⟩
        · skip
          have hA := qat_calls (i := fl) H6
          have p1 := H6.up1.blkAt 1 rfl
          have hlen := tkQ_len q fl
          have htm : ¬ (tkQ q fl).time < q.time := by have := tkQ_time q fl; omega
          have HLEN := hid hlen
          clear hlen
          go_wp2_with fail
          refine hA.mono ?_
          rintro e w6 ⟨rfl, H7⟩
          clear hA p1 q0 H6
          have B7 := H7.alloc #[.int .i64 (tkAt q fl).flow, .int .i64 (tkAt q fl).cost, .int .u64 (tkAt q fl).id] 35
          obtain ⟨gw, hgw⟩ : ∃ z, z = w6.heap.size := ⟨_, rfl⟩
          obtain ⟨v7, hv7⟩ : ∃ z, z = w6.alloc (.cells #[.int .i64 (tkAt q fl).flow, .int .i64 (tkAt q fl).cost, .int .u64 (tkAt q fl).id] 35) := ⟨_, rfl⟩
          rw [← hgw, ← hv7] at B7
          have HG7 := hid hgw
          have HV7 := hid hv7
          clear hgw hv7 H7
          go_upto_region 16 with (fail)
          rw [← HG7.out, ← HV7.out]
          have p1 := B7.up2.blkAt 1 rfl
          have cc := qtime_calls B7.up1
          go_wp2_with fail
          refine cc.mono ?_
          rintro e w' ⟨rfl, hw'⟩
          obtain rfl := hw'.symm
          clear cc hw'
          have hT := qtakeat_calls (i := fl) B7.up1 (by omega)
          go_wp2_with fail
          refine hT.mono ?_
          rintro e w8 ⟨rfl, H8⟩
          clear hT p1 B7
          have B8 := H8.alloc #[.int .i64 (tkAt q fl).flow, .int .i64 (tkAt q fl).cost, .int .u64 (tkAt q fl).id] 35
          obtain ⟨gx, hgx⟩ : ∃ z, z = w8.heap.size := ⟨_, rfl⟩
          obtain ⟨v8, hv8⟩ : ∃ z, z = w8.alloc (.cells #[.int .i64 (tkAt q fl).flow, .int .i64 (tkAt q fl).cost, .int .u64 (tkAt q fl).id] 35) := ⟨_, rfl⟩
          rw [← hgx, ← hv8] at B8
          have HG8 := hid hgx
          have HV8 := hid hv8
          clear hgx hv8 H8
          go_upto_region 18 with (fail)
          rw [← HG8.out, ← HV8.out]
          have x0 := B8.blkAt 0 rfl
          have x1 := B8.blkAt 1 rfl
          have x2 := B8.blkAt 2 rfl
          have y0 := B8.up2.blkAt 0 rfl
          have y1 := B8.up2.blkAt 1 rfl
          have y2 := B8.up2.blkAt 2 rfl
          have hTM := qtime_calls B8.up1
          generalize (tkQ q fl).time = t2 at *
          cases hI : tkIs q fl with
          | false =>
            have HII := hid hI
            clear hI
            go_wp2_with fail
            refine hTM.mono ?_
            rintro e w' ⟨rfl, hw'⟩
            obtain rfl := hw'.symm
            go_wp2
            go_meet
            case rel => exact ⟨A, G, tkQ q fl, rfl, rfl, by omega, ⟨by have h := HLEN.out; rw [HII.out] at h; have := HAG.out; simp only [Bool.false_eq_true, if_false] at h; omega⟩, (B8.up1.qu_more (by omega)).sel 4 [0]⟩
          | true =>
            have HII := hid hI
            clear hI
            go_wp2_with fail
            refine hTM.mono ?_
            rintro e w' ⟨rfl, hw'⟩
            obtain rfl := hw'.symm
            go_wp2
            go_meet
            case rel => exact ⟨A, G + 1, tkQ q fl, rfl, by go_num, by omega, ⟨by have h := HLEN.out; rw [HII.out] at h; have := HAG.out; simp only [if_true] at h; omega⟩, (B8.up1.qu_more (by omega)).sel 4 [0]⟩
        · skip
          have hA := qat_calls (i := fl) H6
          have p1 := H6.up1.blkAt 1 rfl
          have hlen := tkQ_len q fl
          have htm : ¬ (tkQ q fl).time < q.time := by have := tkQ_time q fl; omega
          have HLEN := hid hlen
          clear hlen
          go_wp2_with fail
          refine hA.mono ?_
          rintro e w6 ⟨rfl, H7⟩
          clear hA p1 q0 H6
          have B7 := H7.alloc #[.int .i64 (tkAt q fl).flow, .int .i64 (tkAt q fl).cost, .int .u64 (tkAt q fl).id] 35
          obtain ⟨gw, hgw⟩ : ∃ z, z = w6.heap.size := ⟨_, rfl⟩
          obtain ⟨v7, hv7⟩ : ∃ z, z = w6.alloc (.cells #[.int .i64 (tkAt q fl).flow, .int .i64 (tkAt q fl).cost, .int .u64 (tkAt q fl).id] 35) := ⟨_, rfl⟩
          rw [← hgw, ← hv7] at B7
          have HG7 := hid hgw
          have HV7 := hid hv7
          clear hgw hv7 H7
          go_upto_region 16 with (fail)
          rw [← HG7.out, ← HV7.out]
          have p1 := B7.up2.blkAt 1 rfl
          have cc := qtime_calls B7.up1
          go_wp2_with fail
          refine cc.mono ?_
          rintro e w' ⟨rfl, hw'⟩
          obtain rfl := hw'.symm
          clear cc hw'
          have hT := qtakeat_calls (i := fl) B7.up1 (by omega)
          go_wp2_with fail
          refine hT.mono ?_
          rintro e w8 ⟨rfl, H8⟩
          clear hT p1 B7
          have B8 := H8.alloc #[.int .i64 (tkAt q fl).flow, .int .i64 (tkAt q fl).cost, .int .u64 (tkAt q fl).id] 35
          obtain ⟨gx, hgx⟩ : ∃ z, z = w8.heap.size := ⟨_, rfl⟩
          obtain ⟨v8, hv8⟩ : ∃ z, z = w8.alloc (.cells #[.int .i64 (tkAt q fl).flow, .int .i64 (tkAt q fl).cost, .int .u64 (tkAt q fl).id] 35) := ⟨_, rfl⟩
          rw [← hgx, ← hv8] at B8
          have HG8 := hid hgx
          have HV8 := hid hv8
          clear hgx hv8 H8
          go_upto_region 18 with (fail)
          rw [← HG8.out, ← HV8.out]
          have x0 := B8.blkAt 0 rfl
          have x1 := B8.blkAt 1 rfl
          have x2 := B8.blkAt 2 rfl
          have y0 := B8.up2.blkAt 0 rfl
          have y1 := B8.up2.blkAt 1 rfl
          have y2 := B8.up2.blkAt 2 rfl
          have hTM := qtime_calls B8.up1
          generalize (tkQ q fl).time = t2 at *
          cases hI : tkIs q fl with
          | false =>
            have HII := hid hI
            clear hI
            go_wp2_with fail
            refine hTM.mono ?_
            rintro e w' ⟨rfl, hw'⟩
            obtain rfl := hw'.symm
            go_wp2
            go_meet
            case rel => exact ⟨A, G, tkQ q fl, rfl, rfl, by omega, ⟨by have h := HLEN.out; rw [HII.out] at h; have := HAG.out; simp only [Bool.false_eq_true, if_false] at h; omega⟩, (B8.up1.qu_more (by omega)).sel 4 [0]⟩
          | true =>
            have HII := hid hI
            clear hI
            go_wp2_with fail
            refine hTM.mono ?_
            rintro e w' ⟨rfl, hw'⟩
            obtain rfl := hw'.symm
            go_wp2
            go_meet
            case rel => exact ⟨A, G + 1, tkQ q fl, rfl, by go_num, by omega, ⟨by have h := HLEN.out; rw [HII.out] at h; have := HAG.out; simp only [if_true] at h; omega⟩, (B8.up1.qu_more (by omega)).sel 4 [0]⟩
        · have q1 := H6.up1.blkAt 1 rfl
          have hO := qof_calls (f := fl) H6
          have hD := qdrop_calls (f := fl) H6
          have hlen := drQ_len q fl
          have hz := ofQ_drQ q fl
          have HLEN := hid hlen
          have HZ := hid hz
          obtain ⟨m, hm⟩ : ∃ m, m = ofQ q fl := ⟨_, rfl⟩
          rw [← hm] at hO hD HLEN
          have hmb : m ≤ A := by have := HAG.out; have := HLEN.out; omega
          have hGm : G + m ≤ A := by have := HAG.out; have := HLEN.out; omega
          clear hlen hz hm
          go_wp2_with fail
          refine hO.mono ?_
          rintro e w' ⟨rfl, hw'⟩
          obtain rfl := hw'.symm
          clear hw' hO
          go_wp2_with fail
          refine hD.mono ?_
          rintro e w6 ⟨rfl, H7⟩
          clear hD q0 q1
          have q1 := H7.up1.blkAt 1 rfl
          have hO := qof_calls (f := fl) H7
          rw [HZ.out] at hO
          go_wp2_with fail
          refine hO.mono ?_
          rintro e w' ⟨rfl, hw'⟩
          obtain rfl := hw'.symm
          clear hw' hO
          go_wp2
          go_meet
          case rel => exact ⟨A, G + m, drQ q fl, rfl, by go_num, by omega, ⟨by have := HAG.out; have := HLEN.out; omega⟩, (H7.qu_more (Nat.le_succ _)).sel 2 [0]⟩
        · have b0 : (wh == 0) = false := beq_eq_false_iff_ne.2 m0
          have b1 : (wh == 1) = false := beq_eq_false_iff_ne.2 m1
          have b2 : (wh == 2) = false := beq_eq_false_iff_ne.2 m2
          have b4 : (wh == 4) = false := beq_eq_false_iff_ne.2 m4
          clear m0 m1 m2 m4
          go_wp2
          go_meet
          case rel => exact ⟨A, G, q, rfl, rfl, by omega, ⟨HAG.out⟩, (H6.qu_more (Nat.le_succ _)).sel 2 [0]⟩
      case rest =>
        obtain ⟨A, G, q, rfl, rfl, hAk, HAG, H6⟩ := hcut
        clear H4 BA
        have hln := qlen_calls H6
        have wag : IntKind.i64.wrap ((A : Int) - G) = q.S.length := by have := HAG.out; rw [IntKind.wrap_i64]; omega
        generalize q.S.length = ql at hln wag
        go_wp2_with fail
        refine hln.mono ?_
        rintro e w' ⟨rfl, hw'⟩
        obtain rfl := hw'.symm
        go_wp2
        go_roundw
        case rel => exact ⟨k + 1, A, G, q, by omega, rfl, rfl, by go_num, by omega, HAG, H6⟩
        case measure => simp [intOf]; omega
    · obtain rfl : k = n0 := by omega
      have hk1 : ¬ (k : Int) < k := by omega
      have hls := qlist_calls H4
      obtain ⟨S0, hS0⟩ : ∃ S0, S0 = q.S := ⟨_, rfl⟩
      obtain ⟨-, xs0, A00, c00, -, hpp, hxs, -⟩ := H4.unqu
      have hSl : S0.length ≤ 128 := by rw [hS0, ← hpp.length_eq]; exact hxs
      obtain ⟨N, hN⟩ : ∃ N, N = S0.length := ⟨_, rfl⟩
      rw [← hS0, ← hN] at hls
      have HS0 := hid hS0
      have HN := hid hN
      have hNb : N ≤ 128 := by omega
      clear hpp hxs hS0 hN hSl HAG
      go_wp2_with fail
      refine hls.mono ?_
      rintro e w3 ⟨B, cB, rfl, H5⟩
      have htm := qtime_calls H5.up1
      go_wp2_with fail
      refine htm.mono ?_
      rintro e w' ⟨rfl, hw'⟩
      obtain rfl := hw'.symm
      clear hw' htm hls H4
      go_wp2
      go_loopw [15, 16] (fun t i wr => ∃ (j : Nat) (q : Qu), j ≤ N ∧ t = .int .i64 q.time ∧ i = .int .i64 j ∧ Aside (q.S = S0.drop j) ∧ Sep w wr (fun _ => False) (quA g k q :: own 35 3 B N cB (iv S0) :: [])) (fun _ i _ => N - (intOf i).toNat)
      case atStart => exact ⟨0, q, Nat.zero_le _, rfl, rfl, ⟨HS0.out.symm⟩, H5.up1⟩
      case round =>
        obtain ⟨j, q, hj, rfl, rfl, HQ, H6⟩ := hrel
        clear H5
        by_cases hjl : j < N
        · have hj1 : (j : Int) < N := by omega
          have hjs : j < S0.length := by have := HN.out; omega
          obtain ⟨a, rfl⟩ := H6.up1.own_some (by omega)
          obtain ⟨x, hx⟩ : ∃ x, x = gat S0 j := ⟨_, rfl⟩
          have hql : 0 < q.S.length := by rw [HQ.out, List.length_drop]; omega
          have hg0 : gat q.S 0 = x := by
            rw [HQ.out, hx]; unfold gat; rw [List.getElem?_drop, Nat.add_zero]
          have e1 : tkAt q 0 = x := by unfold tkAt; rw [if_neg (by omega)]; exact hg0
          have e2 : tkIs q 0 = true := by unfold tkIs; rw [if_neg (by omega)]
          have e3 : (tkQ q 0).S = S0.drop (j + 1) := by
            unfold tkQ
            rw [if_neg (by omega)]
            show q.S.eraseIdx 0 = _
            rw [HQ.out, List.eraseIdx_zero, List.tail_drop]
          have E3 := hid e3
          have hT := qtake_calls H6 (by omega)
          rw [e1, e2] at hT
          have htm : ¬ (tkQ q 0).time < q.time := by have := tkQ_time q 0; omega
          have HX := hid hx
          clear hx e1 e2 e3 hg0 hql
          go_wp2_with fail
          refine hT.mono ?_
          rintro e w8 ⟨rfl, H8⟩
          clear hT
          have BB := H8.alloc #[.int .i64 x.flow, .int .i64 x.cost, .int .u64 x.id] 35
          obtain ⟨gx, hgx⟩ : ∃ z, z = w8.heap.size := ⟨_, rfl⟩
          obtain ⟨vB, hvB⟩ : ∃ z, z = w8.alloc (.cells #[.int .i64 x.flow, .int .i64 x.cost, .int .u64 x.id] 35) := ⟨_, rfl⟩
          rw [← hgx, ← hvB] at BB
          have HGB := hid hgx
          have HVB := hid hvB
          clear hgx hvB H8
          go_upto_region 35 with (fail)
          rw [← HGB.out, ← HVB.out]
          have x0 := BB.blkAt 0 rfl
          have x1 := BB.blkAt 1 rfl
          have x2 := BB.blkAt 2 rfl
          have y0 : vB.cell? ⟨a, j * 3, none⟩ = some (.int .i64 x.flow) := BB.up2.icell hjs HN.out.symm 0 (by rw [← HX.out]; rfl)
          have y1 : vB.cell? ⟨a, j * 3 + 1, none⟩ = some (.int .i64 x.cost) := BB.up2.icell hjs HN.out.symm 1 (by rw [← HX.out]; rfl)
          have y2 : vB.cell? ⟨a, j * 3 + 2, none⟩ = some (.int .u64 x.id) := BB.up2.icell hjs HN.out.symm 2 (by rw [← HX.out]; rfl)
          have hTM := fun q' => qtime_calls (BB.up1.drewN q')
          have hTN := fun q' => qtime_calls (BB.up1.drewN q')
          generalize (tkQ q 0).time = t2 at hTM htm
          clear hjs
          go_quiet (first | (go_at_call 14; exact Calls.quiet_of_same (hTM _)))
          have BN := BB.up1.drewN nq
          clear hTM
          go_wp2_with fail
          refine (qtime_calls BN).mono ?_
          rintro e w' ⟨rfl, hw'⟩
          obtain rfl := hw'.symm
          go_wp2
          go_roundw
          case rel => exact ⟨j + 1, tkQ q 0, by omega, rfl, by go_num, E3, BN.sel 3 [0, 2]⟩
          case measure => simp [intOf]; omega
        · obtain rfl : j = N := by omega
          have hj1 : ¬ (j : Int) < j := by omega
          have hq0 : q.S = [] := by rw [HQ.out, List.drop_of_length_le (by have := HN.out; omega)]
          have e2 : tkIs q 0 = false := by unfold tkIs; rw [hq0]; rfl
          have e1 : tkAt q 0 = ⟨0, 0, 0, 0, 0⟩ := by unfold tkAt; rw [hq0]; rfl
          have e3 : tkQ q 0 = q := by unfold tkQ; rw [hq0]; rfl
          have hT := qtake_calls H6 (by omega)
          rw [e1, e2, e3] at hT
          dsimp only at hT
          have HQ0 := hid hq0
          clear e1 e2 e3 hq0
          go_wp2_with fail
          refine hT.mono ?_
          rintro e w8 ⟨rfl, H8⟩
          clear hT
          have BC := H8.alloc #[.int .i64 0, .int .i64 0, .int .u64 0] 35
          obtain ⟨gx, hgx⟩ : ∃ z, z = w8.heap.size := ⟨_, rfl⟩
          obtain ⟨vC, hvC⟩ : ∃ z, z = w8.alloc (.cells #[.int .i64 0, .int .i64 0, .int .u64 0] 35) := ⟨_, rfl⟩
          rw [← hgx, ← hvC] at BC
          have HGC := hid hgx
          have HVC := hid hvC
          clear hgx hvC H8
          go_upto_region 39 with (fail)
          rw [← HGC.out, ← HVC.out]
          have hln := qlen_calls BC.up1
          rw [HQ0.out] at hln
          go_wp2_with fail
          refine hln.mono ?_
          rintro e w' ⟨rfl, hw'⟩
          obtain rfl := hw'.symm
          go_wp2
          go_ret
          exact ⟨rfl, BC.below⟩
end Go.Proofs.Ytkdoocgjagpcbaa
