/-
  The walk of QueueFair.
-/
import Derived.Test.YtkdoocgjagpcbaaFairW
import Derived.Test.YtkdoocgjagpcbaaActs4
import Derived.Deep.CutBlock
import Derived.Deep.DeepCutAuto
import Derived.Deep.WholeRow
import Derived.Deep.MidRow
namespace Go.Proofs.Ytkdoocgjagpcbaa
open Go.RowKit
set_option linter.unusedVariables false
set_option linter.unusedSimpArgs false
section
variable {w0 w : World} {O : Nat → Prop} {L : List Asr}
theorem Sep.qu_more {g b c : Nat} {q : Qu} (h : Sep w0 w O (quA g b q :: L)) (hc : b ≤ c) : Sep w0 w O (quA g c q :: L) := by
  obtain ⟨xs, h⟩ := h.unex
  obtain ⟨⟨h1, h2, h3⟩, h⟩ := h.unwith
  exact Sep.ex xs (Sep.with_ ⟨h1.more hc, h2, h3⟩ h)
end

theorem nb1 {n : Nat} (h : n ≤ 200) : n + 1 ≤ maxLen := by simp only [maxLen]; omega
theorem mod_flow (fl : Int) : ∃ k : Nat, k < 8 ∧ wrap64 ((IntKind.u64.wrap fl).tmod 8) = k := by
  have hu : 0 ≤ IntKind.u64.wrap fl := by rw [IntKind.wrap_u64]; omega
  have h1 := Int.tmod_nonneg 8 hu
  have h2 := Int.tmod_lt_of_pos (IntKind.u64.wrap fl) (b := 8) (by decide)
  exact ⟨((IntKind.u64.wrap fl).tmod 8).toNat, by omega, by unfold wrap64; omega⟩
theorem mod_cost (co : Int) : ∃ c : Int, (1 ≤ c ∧ c ≤ 1048576) ∧ wrap64 (1 + wrap64 ((IntKind.u64.wrap co).tmod 1048576)) = c := by
  have hu : 0 ≤ IntKind.u64.wrap co := by rw [IntKind.wrap_u64]; omega
  have h1 := Int.tmod_nonneg 1048576 hu
  have h2 := Int.tmod_lt_of_pos (IntKind.u64.wrap co) (b := 1048576) (by decide)
  exact ⟨1 + (IntKind.u64.wrap co).tmod 1048576, by omega, by unfold wrap64; omega⟩

set_option maxHeartbeats 16000000 in
set_option maxRecDepth 100000 in
theorem queueFair_walk (A0 : Option Addr) (n0 c0 : Nat) (x0 : Sh.V (.slice (.agg (.pair (.int .i64) (.pair (.int .i64) (.pair (.int .i64) (.pair (.int .u64) .unit))))) 32)) (w : World) (s0 : Sees w.heap (.slice (.agg (.pair (.int .i64) (.pair (.int .i64) (.pair (.int .i64) (.pair (.int .u64) .unit))))) 32) [.slice A0 n0 c0] x0) (y0 : Light (.slice (.agg (.pair (.int .i64) (.pair (.int .i64) (.pair (.int .i64) (.pair (.int .u64) .unit))))) 32) x0) :
    Calls Try.prog 3 #[.slice A0 n0 c0] w fun e w' => e = .returned (.bool true) ∧ Below w.heap.size w w' := by
  obtain ⟨i0, hi0, hz0, hz1, hz2⟩ := info_parts info_wait
  have hn0 : n0 * 32 ≤ 140737488351232 := by
    obtain ⟨A', c', hc, -⟩ := s0
    simp only [List.cons.injEq, and_true, Value.slice.injEq] at hc
    have := y0.1
    rw [← hc.2.1] at this
    omega
  obtain ⟨hc1, acts, hal, hab, hm⟩ := sees_acts s0
  have HRA := hid (fun L => Rb.came (L := L) hm)
  clear s0 y0 hm hab hal
  have HS := Sep.start w
  go_enter Try.func3, Try.ntmps3
  go_wp2_with fail
  refine (qnew_calls HS).mono ?_
  rintro e w1 ⟨g, rfl, H1⟩
  go_wp2_with fail
  refine (wakes_calls H1).mono ?_
  rintro e w2 ⟨rfl, H2⟩
  have H3 := (H2.nil 38 12).up1
  clear HS H1 H2
  go_wp2
  go_loopw [4, 5, 6] (fun v nn i wr => ∃ (k cw : Nat) (A : Option Addr) (q : Qu) (ws : List Wt), k ≤ n0 ∧ v = .slice A ws.length cw ∧ nn = .int .i64 q.n ∧ i = .int .i64 k ∧ Aside (Fair q ws) ∧ Sep w wr (fun _ => False) (quA g k q :: own 38 12 A ws.length cw (wv ws) :: [])) (fun _ _ i _ => n0 - (intOf i).toNat)
  case atStart => exact ⟨0, 0, none, noQu, [], Nat.zero_le _, rfl, rfl, rfl, ⟨noFair⟩, H3⟩
  case round =>
    obtain ⟨k, cw, A, q, ws, hk, rfl, rfl, rfl, HF, H4⟩ := hrel
    clear H3
    obtain ⟨hok, -⟩ := H4.unqu
    have HOK := hid hok
    have hsm := hok.small
    have hwl : ws.length = q.S.length := by have := HF.out.wp.length_eq; rwa [List.length_map] at this
    have hn1 := hok.n0
    have W8s := hid (show W8 ws from fun w hw => (HF.out.wt w hw).len)
    have HWL := hid hwl
    clear hok hwl
    by_cases hlt : k < n0
    · obtain ⟨ad, ⟨wh, fl, co, id⟩, rfl, hp, p0, p1, p2, p3⟩ := (HRA.out _).actAt H4 hlt
      dsimp only at p0 p1 p2 p3
      have hk1 : (k : Int) < n0 := by omega
      clear hp
      by_cases hw0 : wh = 0
      · subst hw0
        have hb : k ≤ 8000000000000 := by omega
        obtain ⟨N, hN⟩ : ∃ N, N = ws.length := ⟨_, rfl⟩
        have HN := hid hN
        rw [← hN] at H4 ⊢
        have hN128 : N ≤ 128 := by have := HWL.out; omega
        clear hN
        go_upto_region 10 with (fail)
        obtain ⟨kf, hkf, hkw⟩ := mod_flow fl
        obtain ⟨cc, hcc, hcw⟩ := mod_cost co
        go_quiet (fail)
        rw [hkw, hcw]
        clear p0 p1 p2 p3 hkw hcw
        have H5 := H4.drewN nq
        obtain ⟨wq, hwq⟩ : ∃ wq, wq = wr.drewN nq := ⟨_, rfl⟩
        rw [← hwq] at H5 ⊢
        clear hwq H4
        have wn : IntKind.u64.wrap q.n = q.n := by rw [IntKind.wrap_u64]; omega
        have wn1 : IntKind.i64.wrap (q.n + 1) = q.n + 1 := by rw [IntKind.wrap_i64]; omega
        have hA := qadd_calls (f := (kf : Int)) (c := cc) (id := q.n) H5 hb
        have hbad : ¬ ((kf : Int) < 0 ∨ 8 ≤ (kf : Int) ∨ cc < 1 ∨ 1048576 < cc) := by omega
        have hcn := HOK.out.cnt kf
        by_cases h16 : 16 ≤ cntF q.S kf
        · have e1 : adE q kf cc = 8 := by unfold adE; rw [if_neg hbad, if_pos h16]
          have e2 : adQ q kf cc q.n = q := by unfold adQ; rw [if_neg (by rw [e1]; decide)]
          rw [e1, e2] at hA
          have e3 : ofQ q kf = 16 := by unfold ofQ; rw [if_neg (by omega)]; omega
          have E3 := hid e3
          clear e1 e2 e3 hbad hcn h16
          go_wp2_with fail
          refine hA.mono ?_
          rintro e w6 ⟨rfl, H6⟩
          have hO := qof_calls (f := (kf : Int)) H6
          rw [E3.out] at hO
          go_wp2_with fail
          refine hO.mono ?_
          rintro e w' ⟨rfl, hw'⟩
          obtain rfl := hw'.symm
          clear hO hA hw'
          go_wp2
          go_roundw
          case rel => exact ⟨k + 1, cw, A, q, ws, by omega, by rw [HN.out], rfl, by go_num, HF, by rw [← HN.out]; exact H6⟩
          case measure => simp [intOf]; omega
        · have e1 : adE q kf cc = 0 := by unfold adE; rw [if_neg hbad, if_neg h16]
          have HF2 := hid (fair_add HOK.out HF.out e1 (by omega))
          have e2 : (adQ q kf cc q.n).n = q.n + 1 := by unfold adQ; rw [if_pos e1]
          rw [e1] at hA
          have HEN := hid e2
          obtain ⟨q2, hq2⟩ : ∃ q2, q2 = adQ q kf cc q.n := ⟨_, rfl⟩
          rw [← hq2] at hA HF2 HEN
          have hsb : ∀ j, 0 ≤ sumC (ofFlow (kf : Int)) ((ws.take j).map (·.y)) ∧ sumC (ofFlow (kf : Int)) ((ws.take j).map (·.y)) ≤ 134217728 := fun j => by
            have hmm : ∀ y ∈ (ws.take j).map (·.y), y ∈ q.S := fun y hy => by
              obtain ⟨v, hv, rfl⟩ := List.mem_map.1 hy
              exact HF.out.wp.subset (List.mem_map_of_mem (List.mem_of_mem_take hv))
            have h1 := sumC_nn (p := ofFlow (kf : Int)) fun y hy => (HOK.out.cost y (hmm y hy)).1
            have h2 := sumC_le (p := ofFlow (kf : Int)) fun y hy => (HOK.out.cost y (hmm y hy)).2
            rw [List.length_map, List.length_take] at h2
            have h3 := HN.out
            omega
          have HSB0 := hid hsb
          clear e1 e2 hbad hcn h16 hq2 hsb
          go_wp2_with fail
          refine hA.mono ?_
          rintro e w6 ⟨rfl, H6⟩
          clear hA H5
          go_wp2
          go_loopw [10, 11] (fun al i wr => ∃ j : Nat, j ≤ N ∧ al = .int .i64 (cc + sumC (ofFlow (kf : Int)) ((ws.take j).map (·.y))) ∧ i = .int .i64 j ∧ wr = w6) (fun _ i _ => N - (intOf i).toNat)
          case atStart => exact ⟨0, Nat.zero_le _, by simp [sumC], rfl, rfl⟩
          case round =>
            obtain ⟨j, hj, rfl, rfl, rfl⟩ := hrel
            by_cases hjl : j < N
            · have hj1 : (j : Int) < N := by omega
              obtain ⟨v, hv⟩ : ∃ v, ws[j]? = some v := ⟨_, List.getElem?_eq_getElem (by have := HN.out; omega)⟩
              obtain ⟨a, rfl⟩ := H6.up1.own_some (by omega)
              have c0 : wr.cell? ⟨a, j * 12, none⟩ = some (.int .i64 v.y.flow) := H6.up1.wcell W8s.out hv HN.out.symm 0 rfl
              have c1 : wr.cell? ⟨a, j * 12 + 1, none⟩ = some (.int .i64 v.y.cost) := H6.up1.wcell W8s.out hv HN.out.symm 1 rfl
              have hsm1 := sum_more (f := (kf : Int)) hv
              have hb1 := HSB0.out j
              have hb2 := HSB0.out (j + 1)
              by_cases hfl : v.y.flow = kf
              · rw [if_pos hfl] at hsm1
                rw [hfl] at c0
                have HSM := hid hsm1
                obtain ⟨SJ, hSJ⟩ : ∃ SJ, SJ = sumC (ofFlow (kf : Int)) ((ws.take j).map (·.y)) := ⟨_, rfl⟩
                rw [← hSJ] at hb1 HSM ⊢
                have hwr : IntKind.i64.wrap (cc + SJ + v.y.cost) = cc + SJ + v.y.cost := by rw [hsm1, ← hSJ] at hb2; rw [IntKind.wrap_i64]; omega
                clear hv hsm1 hfl hSJ hb1 hb2
                go_wp2
                go_roundw
                case rel => exact ⟨j + 1, by omega, by rw [HSM.out, Int.add_assoc], by go_num, by trivial⟩
                case measure => simp [intOf]; omega
              · rw [if_neg hfl, Int.add_zero] at hsm1
                have HSM := hid hsm1
                have hbf : (v.y.flow == (kf : Int)) = false := beq_eq_false_iff_ne.2 hfl
                clear hv hsm1 hfl hb1 hb2
                go_wp2
                go_roundw
                case rel => exact ⟨j + 1, by omega, by rw [HSM.out], by go_num, by trivial⟩
                case measure => simp [intOf]; omega
            · obtain rfl : j = N := by omega
              have hj1 : ¬ (j : Int) < j := by omega
              obtain ⟨AL, hAL⟩ : ∃ AL, AL = cc + sumC (ofFlow (kf : Int)) ((ws.take j).map (·.y)) := ⟨_, rfl⟩
              rw [← hAL]
              have hAL2 : AL = sumC (ofFlow (kf : Int)) q.S + cc := by
                rw [hAL, List.take_of_length_le (by rw [← HN.out]; exact Nat.le_refl _), sumC_perm HF.out.wp, Int.add_comm]
              have h1c : ∀ u ∈ (#[.int .i64 kf, .int .i64 cc, .int .u64 q.n, .int .i64 AL, .int .i64 0, .int .i64 0, .int .i64 0, .int .i64 0, .int .i64 0, .int .i64 0, .int .i64 0, .int .i64 0] : Array Value).toList, u.oneCell' = true := by
                intro u hu
                simp at hu
                rcases hu with rfl | rfl | rfl | rfl | rfl <;> rfl
              have HAP := hid (show wv ws ++ (#[.int .i64 kf, .int .i64 cc, .int .u64 q.n, .int .i64 AL, .int .i64 0, .int .i64 0, .int .i64 0, .int .i64 0, .int .i64 0, .int .i64 0, .int .i64 0, .int .i64 0] : Array Value).toList = wv (ws ++ [newWt q kf cc q.n]) by rw [hAL2]; simp [wv, wcs, newWt, kv])
              have H1C := hid h1c
              have hb1 : j + 1 ≤ maxLen := by simp only [maxLen]; omega
              have hb2 : (j + 1) * 96 ≤ 140737488355328 := by omega
              have H7 := (H6.up1.lit #[.int .i64 kf, .int .i64 cc, .int .u64 q.n, .int .i64 AL, .int .i64 0, .int .i64 0, .int .i64 0, .int .i64 0, .int .i64 0, .int .i64 0, .int .i64 0, .int .i64 0] 38 12 1 rfl (by decide)).up1
              clear hAL hAL2 h1c H6
              go_wp2_with (at_builtin; go_loud (refine wpList_append_sep rfl (.tmp 93) (.tmp 101) 26 rfl 38 i0 _ 12 96 Try.underlying26 hi0 hz0 hz1 hz2 rfl (by decide) rfl H7 rfl H7.rd1 H1C.out hb1 hb2 rfl HAP.out ?_); intro QB cB wB HSB hszB)
              go_roundw
              case rel => exact ⟨k + 1, cB, QB, q2, ws ++ [newWt q kf cc q.n], by omega, by rw [List.length_append, ← HN.out]; rfl, by rw [HEN.out], by go_num, HF2, by
                rw [List.length_append, ← HN.out]
                exact HSB.sel 3 [2, 0]⟩
              case measure => simp [intOf]; omega
      · skip
        have hb0 : (wh == 0) = false := beq_eq_false_iff_ne.2 hw0
        have hb : k ≤ 8000000000000 := by omega
        obtain ⟨N, hN⟩ : ∃ N, N = ws.length := ⟨_, rfl⟩
        have HN := hid hN
        rw [← hN] at H4 ⊢
        have hN128 : N ≤ 128 := by have := HWL.out; omega
        have hT := qtake_calls H4 hb
        clear hN hw0 p1 p2 p3
        cases hqs : q.S with
        | nil =>
          have e2 : tkIs q 0 = false := by unfold tkIs; rw [hqs]; rfl
          have e1 : tkAt q 0 = ⟨0, 0, 0, 0, 0⟩ := by unfold tkAt; rw [hqs]; rfl
          have e3 : tkQ q 0 = q := by unfold tkQ; rw [hqs]; rfl
          have hN0 : N = 0 := by have := HWL.out; rw [hqs] at this; exact HN.out.trans this
          rw [e1, e2, e3] at hT
          dsimp only at hT
          have hN1 : ¬ (0 : Int) < N := by omega
          have HN0 := hid hN0
          clear e1 e2 e3 hqs hN0
          go_wp2_with fail
          refine hT.mono ?_
          rintro e w6 ⟨rfl, H6⟩
          clear hT H4
          have BA := H6.alloc #[.int .i64 0, .int .i64 0, .int .u64 0] 35
          obtain ⟨ga, hga⟩ : ∃ z, z = w6.heap.size := ⟨_, rfl⟩
          obtain ⟨vA, hvA⟩ : ∃ z, z = w6.alloc (.cells #[.int .i64 0, .int .i64 0, .int .u64 0] 35) := ⟨_, rfl⟩
          rw [← hga, ← hvA] at BA
          have HGA := hid hga
          have HVA := hid hvA
          clear hga hvA H6
          go_upto_region 24 with (fail)
          rw [← HGA.out, ← HVA.out]
          go_wp2
          go_roundw
          case rel => exact ⟨k + 1, cw, A, q, ws, by omega, by rw [HN.out], rfl, by go_num, HF, by rw [← HN.out]; exact ((BA.drop).qu_more (Nat.le_succ _))⟩
          case measure => simp [intOf]; omega
        | cons x R =>
          have e2 : tkIs q 0 = true := by unfold tkIs; rw [hqs]; rfl
          have e1 : tkAt q 0 = x := by unfold tkAt; rw [hqs]; rfl
          have e3 : tkQ q 0 = ⟨max q.time x.tag, q.n, q.last, R⟩ := by unfold tkQ; rw [hqs]; rfl
          have hN0 : 0 < N := by have := HWL.out; rw [hqs, List.length_cons] at this; have := HN.out; omega
          obtain ⟨q2, hq2⟩ : ∃ q2, q2 = tkQ q 0 := ⟨_, rfl⟩
          have hft := fair_take HOK.out HF.out hqs
          rw [← e3, ← hq2] at hft
          rw [e1, e2, ← hq2] at hT
          have hqn : q2.n = q.n := by rw [hq2, e3]
          have hxm : x ∈ q.S := by rw [hqs]; exact List.mem_cons_self ..
          have HQN := hid hqn
          have HXM := hid hxm
          have HFT := hid hft
          have hxf := HOK.out.flow x hxm
          have hxc := HOK.out.cost x hxm
          obtain ⟨kx, hkx⟩ := Int.eq_ofNat_of_zero_le hxf.1
          have hkx8 : kx < 8 := by omega
          have HKX := hid hkx
          have hN1 : (0 : Int) < N := by omega
          have hN2 : ¬ N = 0 := by omega
          clear e1 e2 e3 hqs hq2 hft hqn hxm hxf hkx
          go_wp2_with fail
          refine hT.mono ?_
          rintro e w6 ⟨rfl, H6⟩
          clear hT H4
          have BA := H6.alloc #[.int .i64 x.flow, .int .i64 x.cost, .int .u64 x.id] 35
          obtain ⟨ga, hga⟩ : ∃ z, z = w6.heap.size := ⟨_, rfl⟩
          obtain ⟨vA, hvA⟩ : ∃ z, z = w6.alloc (.cells #[.int .i64 x.flow, .int .i64 x.cost, .int .u64 x.id] 35) := ⟨_, rfl⟩
          rw [← hga, ← hvA] at BA
          have HGA := hid hga
          have HVA := hid hvA
          clear hga hvA H6
          go_upto_region 24 with (fail)
          rw [← HGA.out, ← HVA.out]
          have H7 : Sep w vA (fun _ => False) (own 38 12 none 0 0 [] :: quA g k q2 :: blk ga 35 #[.int .i64 x.flow, .int .i64 x.cost, .int .u64 x.id] :: own 38 12 A N cw (wv ws) :: []) := (BA.nil _ _).sel 4 [0, 2, 1, 3]
          clear BA
          go_wp2
          go_loopw [14, 15, 16] (fun lf fd i wr => ∃ (j n ck : Nat) (Q : Option Addr) (d : Bool), j ≤ N ∧ n ≤ j ∧ lf = .slice Q n ck ∧ fd = .bool d ∧ i = .int .i64 j ∧ Aside ((leftWt x (ws.take j)).length = n) ∧ Aside (d = true ↔ x ∈ (ws.take j).map (·.y)) ∧ Sep w wr (fun _ => False) (own 38 12 Q n ck (wv (leftWt x (ws.take j))) :: quA g k q2 :: blk ga 35 #[.int .i64 x.flow, .int .i64 x.cost, .int .u64 x.id] :: own 38 12 A N cw (wv ws) :: [])) (fun _ _ i _ => N - (intOf i).toNat)
          case atStart => exact ⟨0, 0, 0, none, false, Nat.zero_le _, Nat.le_refl _, rfl, rfl, rfl, ⟨by simp [leftWt]⟩, ⟨by simp⟩, by simpa [leftWt, wv] using H7⟩
          case round =>
            obtain ⟨j, n, ck, Q, d, hj, hnj, rfl, rfl, rfl, HLN, HDD, H8⟩ := hrel
            clear H7
            by_cases hjl : j < N
            · have hj1 : (j : Int) < N := by omega
              obtain ⟨v, hv⟩ : ∃ v, ws[j]? = some v := ⟨_, List.getElem?_eq_getElem (by have := HN.out; omega)⟩
              have HVV := hid hv
              have hvm : v ∈ ws := List.mem_of_getElem? hv
              have HVM := hid hvm
              obtain ⟨a, rfl⟩ := H8.up3.own_some (by omega)
              have hrg := H8.up3.wrange W8s.out hv HN.out.symm
              have HW8v := hid (W8s.out v hvm)
              have HI1 := hid (show (Try.prog.info? 38).map (·.size) = some (wcs v).length by rw [wcs_len HW8v.out, hi0]; exact congrArg some hz1)
              have HI2 := hid (show (Try.prog.info? 38).map (·.size) = some (wcs v).toArray.size by rw [List.size_toArray, wcs_len HW8v.out, hi0]; exact congrArg some hz1)
              have HSZ := hid (show (wcs v).toArray.size = 12 by rw [List.size_toArray, wcs_len HW8v.out])
              have HON := hid (all_oneCell_toArray (wcs_one v))
              have B9 := H8.alloc (wcs v).toArray 38
              obtain ⟨gw, hgw⟩ : ∃ gw, gw = wr.heap.size := ⟨_, rfl⟩
              obtain ⟨w9, hw9⟩ : ∃ w9, w9 = wr.alloc (.cells (wcs v).toArray 38) := ⟨_, rfl⟩
              rw [← hgw, ← hw9] at B9
              have HGW := hid hgw
              have HW9 := hid hw9
              clear hv hvm hgw hw9
              go_upto_region 33 with (first
                | (refine wpList_load_mid rfl 38 (.tmp 125) rfl a (j * 12) rfl (wcs v) _ hrg Try.underlying38 rfl HI1.out ?_)
                | (refine wpList_store_new rfl 38 (.tmp 17) (.tmp 126) rfl _ (wcs v).toArray rfl rfl HI2.out (by rw [HSZ.out]; rfl) HON.out ?_))
              rw [← HGW.out, ← HW9.out]
              have H9 : Sep w w9 (fun _ => False) (blk gw 38 (wcs v).toArray :: own 38 12 Q n ck (wv (leftWt x (ws.take j))) :: quA g k q2 :: blk ga 35 #[.int .i64 x.flow, .int .i64 x.cost, .int .u64 x.id] :: own 38 12 (some ⟨a, 0, none⟩) N cw (wv ws) :: []) := B9
              clear hrg B9 H8
              have a0 := H9.blkAt (v := .int .i64 v.y.flow) 0 rfl
              have a1 := H9.blkAt (v := .int .i64 v.y.cost) 1 rfl
              have a2 := H9.blkAt (v := .int .u64 v.y.id) 2 rfl
              have x0 := H9.up3.blkAt 0 rfl
              have x1 := H9.up3.blkAt 1 rfl
              have x2 := H9.up3.blkAt 2 rfl
              by_cases hvx : v.y = x
              · rw [hvx] at a0 a1 a2
                have HVX := hid hvx
                clear hvx
                go_wp2
                go_roundw
                case rel => exact ⟨j + 1, n, ck, Q, true, by omega, by omega, rfl, rfl, by go_num, ⟨by rw [left_more HVV.out, if_pos HVX.out, List.append_nil]; exact HLN.out⟩, ⟨by rw [found_more HVV.out]; exact ⟨fun _ => .inr HVX.out, fun _ => rfl⟩⟩, by
                  rw [left_more HVV.out, if_pos HVX.out, List.append_nil]
                  exact H9.drop⟩
                case measure => simp [intOf]; omega
              · have HNE := hid hvx
                have hTO := HFT.out.2 v HVM.out hvx
                have hym : v.y ∈ q.S := HF.out.wp.subset (List.mem_map_of_mem HVM.out)
                have hi1 := HF.out.ids v.y hym
                have hi2 := HF.out.ids x HXM.out
                have hnn : ¬ v.y.n = x.n := fun h => hvx (HF.out.dis v.y hym x HXM.out h)
                have hid0 : ¬ v.y.id = x.id := by omega
                by_cases hfl : v.y.flow = x.flow
                · have hel := hTO.elder hfl
                  have hd : d = true := HDD.out.2 (elder_ahead HF.out.wo HVV.out (HF.out.wp.symm.subset HXM.out) hel)
                  have hlt1 : ¬ v.y.id < x.id := by omega
                  have hup : updWt x v = v := by unfold updWt; rw [if_neg (by omega)]
                  have HUP := hid hup
                  have HW8 := HW8v
                  subst hd
                  clear hvx hTO hym hi1 hi2 hnn hel hup
                  go_upto_region 41 with (fail)
                  clear a0 a1 a2 x0 x1 x2 hfl hid0 hlt1
                  obtain ⟨s0, s1, s2, s3, s4, s5, s6, s7, hs8⟩ := list8 HW8.out
                  have hlw : (wcs v).toArray = #[.int .i64 v.y.flow, .int .i64 v.y.cost, .int .u64 v.y.id, .int .i64 v.all, .int .i64 s0, .int .i64 s1, .int .i64 s2, .int .i64 s3, .int .i64 s4, .int .i64 s5, .int .i64 s6, .int .i64 s7] := by unfold wcs; rw [hs8]; rfl
                  rw [hlw] at H9
                  have d0 := H9.blkAt 0 rfl
                  have d1 := H9.blkAt 1 rfl
                  have d2 := H9.blkAt 2 rfl
                  have d3 := H9.blkAt 3 rfl
                  have d4 := H9.blkAt 4 rfl
                  have d5 := H9.blkAt 5 rfl
                  have d6 := H9.blkAt 6 rfl
                  have d7 := H9.blkAt 7 rfl
                  have d8 := H9.blkAt 8 rfl
                  have d9 := H9.blkAt 9 rfl
                  have d10 := H9.blkAt 10 rfl
                  have d11 := H9.blkAt 11 rfl
                  have h1c : ∀ u ∈ (#[.int .i64 v.y.flow, .int .i64 v.y.cost, .int .u64 v.y.id, .int .i64 v.all, .int .i64 s0, .int .i64 s1, .int .i64 s2, .int .i64 s3, .int .i64 s4, .int .i64 s5, .int .i64 s6, .int .i64 s7] : Array Value).toList, u.oneCell' = true := by rw [← hlw]; exact wcs_one v
                  have HAP := hid (show wv (leftWt x (ws.take j)) ++ (#[.int .i64 v.y.flow, .int .i64 v.y.cost, .int .u64 v.y.id, .int .i64 v.all, .int .i64 s0, .int .i64 s1, .int .i64 s2, .int .i64 s3, .int .i64 s4, .int .i64 s5, .int .i64 s6, .int .i64 s7] : Array Value).toList = wv (leftWt x (ws.take (j + 1))) by rw [← hlw, left_more HVV.out, if_neg HNE.out, HUP.out]; exact wv_app _ _)
                  have H1C := hid h1c
                  have hb1 : n + 1 ≤ maxLen := nb1 (by omega)
                  have hb2 : (n + 1) * 96 ≤ 140737488355328 := by omega
                  have H10 := (H9.lit #[.int .i64 v.y.flow, .int .i64 v.y.cost, .int .u64 v.y.id, .int .i64 v.all, .int .i64 s0, .int .i64 s1, .int .i64 s2, .int .i64 s3, .int .i64 s4, .int .i64 s5, .int .i64 s6, .int .i64 s7] 38 12 1 rfl (by decide)).up2
                  have HLM : Aside ((leftWt x (ws.take (j + 1))).length = n + 1) := ⟨by rw [left_more HVV.out, if_neg HNE.out, List.length_append, HLN.out]; rfl⟩
                  clear hlw hs8 h1c
                  go_wp2_with (at_builtin; go_loud (refine wpList_append_sep rfl (.tmp 173) (.tmp 175) 26 rfl 38 i0 _ 12 96 Try.underlying26 hi0 hz0 hz1 hz2 rfl (by decide) rfl H10 rfl H10.rd1 H1C.out hb1 hb2 rfl HAP.out ?_); intro QB cB wB HSB hszB)
                  go_roundw
                  case rel => exact ⟨j + 1, n + 1, cB, QB, true, by omega, by omega, rfl, rfl, by go_num, HLM, ⟨by rw [found_more HVV.out]; exact ⟨fun h => .inl (HDD.out.1 h), fun h => h.elim HDD.out.2 (fun h => absurd h HNE.out)⟩⟩, HSB.sel 6 [0, 3, 4, 5]⟩
                  case measure => simp [intOf]; omega
                · by_cases hno : v.y.n < x.n
                  · have hls := hTO.less hno hfl
                    have hlt1 : v.y.id < x.id := by omega
                    have hup : updWt x v = ⟨v.y, v.all, v.tk.set kx (gat v.tk kx + x.cost), v.t⟩ := by
                      unfold updWt
                      rw [if_pos ⟨hno, hfl⟩, HKX.out, Int.toNat_natCast]
                    rw [HKX.out, Int.toNat_natCast] at hls
                    have hwt := HF.out.wt v HVM.out
                    have hk1 := hwt.lt kx hkx8
                    have hk2 := hwt.nn kx hkx8
                    obtain ⟨tk, htk⟩ : ∃ tk, tk = gat v.tk kx := ⟨_, rfl⟩
                    have c4 := H9.blkAt (4 + kx) (wc_t HW8v.out hkx8)
                    have c3 := H9.blkAt (v := .int .i64 v.all) 3 rfl
                    have z4 := H9.blk_frozen (4 + kx)
                    have z4d := H9.drew.blk_frozen (4 + kx)
                    rw [← htk] at c4 hls hk1 hk2 hup
                    have HUP := hid hup
                    have wtk : IntKind.i64.wrap (tk + x.cost) = tk + x.cost := by rw [IntKind.wrap_i64]; omega
                    have K1 := H9.blk_set (4 + kx) (.int .i64 (tk + x.cost))
                    rw [wc_st HW8v.out hkx8] at K1
                    have hkx1 : (kx : Int) < 8 := by omega
                    have hge : ¬ v.all ≤ tk + x.cost := by omega
                    have HTK := hid htk
                    clear hvx hTO hym hi1 hi2 hnn hno hup hwt hk1 hk2 htk hls
                    go_upto_region 38 with (fail)
                    have x0k : w9.cell? ⟨ga, 0, none⟩ = some (.int .i64 kx) := by rw [← HKX.out]; exact x0
                    clear a0 a1 a2 x0 x2 hfl hid0 hlt1
                    go_cut [15] (fun dd wx => dd = .bool d ∧ Sep w wx (fun _ => False) (blk gw 38 (wcs ⟨v.y, v.all, v.tk.set kx (tk + x.cost), v.t⟩).toArray :: own 38 12 Q n ck (wv (leftWt x (ws.take j))) :: quA g k q2 :: blk ga 35 #[.int .i64 x.flow, .int .i64 x.cost, .int .u64 x.id] :: own 38 12 (some ⟨a, 0, none⟩) N cw (wv ws) :: []))
                    case first =>
                      go_region_law (fail)
                      all_goals
                        go_wp2
                        go_meet
                        case rel => exact ⟨rfl, K1.drew⟩
                    case rest =>
                      obtain ⟨rfl, H10⟩ := hcut
                      clear K1 H9 c4 c3 z4 z4d x0k x1
                      have HW8 := hid (show (v.tk.set kx (tk + x.cost)).length = 8 by rw [List.length_set]; exact HW8v.out)
                      have hgt : gat (v.tk.set kx (tk + x.cost)) kx = tk + x.cost := by rw [gat_set (by rw [HW8v.out]; exact hkx8), if_pos rfl]
                      have c4 := H10.blkAt (4 + kx) (wc_t (w := ⟨v.y, v.all, v.tk.set kx (tk + x.cost), v.t⟩) HW8.out hkx8)
                      dsimp only at c4
                      rw [hgt] at c4
                      have c3 := H10.blkAt (v := .int .i64 v.all) 3 rfl
                      have x0 : wc.cell? ⟨ga, 0, none⟩ = some (.int .i64 kx) := by rw [← HKX.out]; exact H10.up3.blkAt 0 rfl
                      clear hgt
                      go_upto_region 39 with (fail)
                      go_quiet (fail)
                      clear c4 c3 x0
                      have H9 := H10.drewN nq
                      obtain ⟨wz, hwz⟩ : ∃ wz, wz = wc.drewN nq := ⟨_, rfl⟩
                      rw [← hwz] at H9 ⊢
                      clear hwz H10
                      go_upto_region 41 with (fail)
                      clear hge
                      obtain ⟨v2, hv2⟩ : ∃ v2 : Wt, v2 = ⟨v.y, v.all, v.tk.set kx (tk + x.cost), v.t⟩ := ⟨_, rfl⟩
                      rw [← hv2] at H9 HUP
                      replace HW8 : Aside (v2.tk.length = 8) := ⟨by rw [hv2]; exact HW8.out⟩
                      clear hv2
                      obtain ⟨s0, s1, s2, s3, s4, s5, s6, s7, hs8⟩ := list8 HW8.out
                      have hlw : (wcs v2).toArray = #[.int .i64 v2.y.flow, .int .i64 v2.y.cost, .int .u64 v2.y.id, .int .i64 v2.all, .int .i64 s0, .int .i64 s1, .int .i64 s2, .int .i64 s3, .int .i64 s4, .int .i64 s5, .int .i64 s6, .int .i64 s7] := by unfold wcs; rw [hs8]; rfl
                      rw [hlw] at H9
                      have d0 := H9.blkAt 0 rfl
                      have d1 := H9.blkAt 1 rfl
                      have d2 := H9.blkAt 2 rfl
                      have d3 := H9.blkAt 3 rfl
                      have d4 := H9.blkAt 4 rfl
                      have d5 := H9.blkAt 5 rfl
                      have d6 := H9.blkAt 6 rfl
                      have d7 := H9.blkAt 7 rfl
                      have d8 := H9.blkAt 8 rfl
                      have d9 := H9.blkAt 9 rfl
                      have d10 := H9.blkAt 10 rfl
                      have d11 := H9.blkAt 11 rfl
                      have h1c : ∀ u ∈ (#[.int .i64 v2.y.flow, .int .i64 v2.y.cost, .int .u64 v2.y.id, .int .i64 v2.all, .int .i64 s0, .int .i64 s1, .int .i64 s2, .int .i64 s3, .int .i64 s4, .int .i64 s5, .int .i64 s6, .int .i64 s7] : Array Value).toList, u.oneCell' = true := by rw [← hlw]; exact wcs_one v2
                      have HAP := hid (show wv (leftWt x (ws.take j)) ++ (#[.int .i64 v2.y.flow, .int .i64 v2.y.cost, .int .u64 v2.y.id, .int .i64 v2.all, .int .i64 s0, .int .i64 s1, .int .i64 s2, .int .i64 s3, .int .i64 s4, .int .i64 s5, .int .i64 s6, .int .i64 s7] : Array Value).toList = wv (leftWt x (ws.take (j + 1))) by rw [← hlw, left_more HVV.out, if_neg HNE.out, HUP.out]; exact wv_app _ _)
                      have H1C := hid h1c
                      have hb1 : n + 1 ≤ maxLen := nb1 (by omega)
                      have hb2 : (n + 1) * 96 ≤ 140737488355328 := by omega
                      have H10 := (H9.lit #[.int .i64 v2.y.flow, .int .i64 v2.y.cost, .int .u64 v2.y.id, .int .i64 v2.all, .int .i64 s0, .int .i64 s1, .int .i64 s2, .int .i64 s3, .int .i64 s4, .int .i64 s5, .int .i64 s6, .int .i64 s7] 38 12 1 rfl (by decide)).up2
                      have HLM : Aside ((leftWt x (ws.take (j + 1))).length = n + 1) := ⟨by rw [left_more HVV.out, if_neg HNE.out, List.length_append, HLN.out]; rfl⟩
                      clear hlw hs8 h1c
                      go_wp2_with (at_builtin; go_loud (refine wpList_append_sep rfl (.tmp 173) (.tmp 175) 26 rfl 38 i0 _ 12 96 Try.underlying26 hi0 hz0 hz1 hz2 rfl (by decide) rfl H10 rfl H10.rd1 H1C.out hb1 hb2 rfl HAP.out ?_); intro QB cB wB HSB hszB)
                      go_roundw
                      case rel => exact ⟨j + 1, n + 1, cB, QB, d, by omega, by omega, rfl, rfl, by go_num, HLM, ⟨by rw [found_more HVV.out]; exact ⟨fun h => .inl (HDD.out.1 h), fun h => h.elim HDD.out.2 (fun h => absurd h HNE.out)⟩⟩, HSB.sel 6 [0, 3, 4, 5]⟩
                      case measure => simp [intOf]; omega
                  · have hlt1 : ¬ v.y.id < x.id := by omega
                    have hup : updWt x v = v := by unfold updWt; rw [if_neg (by omega)]
                    have HUP := hid hup
                    have HW8 := HW8v
                    clear hvx hTO hym hi1 hi2 hnn hup hno
                    go_upto_region 41 with (fail)
                    clear a0 a1 a2 x0 x1 x2 hfl hid0 hlt1
                    obtain ⟨s0, s1, s2, s3, s4, s5, s6, s7, hs8⟩ := list8 HW8.out
                    have hlw : (wcs v).toArray = #[.int .i64 v.y.flow, .int .i64 v.y.cost, .int .u64 v.y.id, .int .i64 v.all, .int .i64 s0, .int .i64 s1, .int .i64 s2, .int .i64 s3, .int .i64 s4, .int .i64 s5, .int .i64 s6, .int .i64 s7] := by unfold wcs; rw [hs8]; rfl
                    rw [hlw] at H9
                    have d0 := H9.blkAt 0 rfl
                    have d1 := H9.blkAt 1 rfl
                    have d2 := H9.blkAt 2 rfl
                    have d3 := H9.blkAt 3 rfl
                    have d4 := H9.blkAt 4 rfl
                    have d5 := H9.blkAt 5 rfl
                    have d6 := H9.blkAt 6 rfl
                    have d7 := H9.blkAt 7 rfl
                    have d8 := H9.blkAt 8 rfl
                    have d9 := H9.blkAt 9 rfl
                    have d10 := H9.blkAt 10 rfl
                    have d11 := H9.blkAt 11 rfl
                    have h1c : ∀ u ∈ (#[.int .i64 v.y.flow, .int .i64 v.y.cost, .int .u64 v.y.id, .int .i64 v.all, .int .i64 s0, .int .i64 s1, .int .i64 s2, .int .i64 s3, .int .i64 s4, .int .i64 s5, .int .i64 s6, .int .i64 s7] : Array Value).toList, u.oneCell' = true := by rw [← hlw]; exact wcs_one v
                    have HAP := hid (show wv (leftWt x (ws.take j)) ++ (#[.int .i64 v.y.flow, .int .i64 v.y.cost, .int .u64 v.y.id, .int .i64 v.all, .int .i64 s0, .int .i64 s1, .int .i64 s2, .int .i64 s3, .int .i64 s4, .int .i64 s5, .int .i64 s6, .int .i64 s7] : Array Value).toList = wv (leftWt x (ws.take (j + 1))) by rw [← hlw, left_more HVV.out, if_neg HNE.out, HUP.out]; exact wv_app _ _)
                    have H1C := hid h1c
                    have hb1 : n + 1 ≤ maxLen := nb1 (by omega)
                    have hb2 : (n + 1) * 96 ≤ 140737488355328 := by omega
                    have H10 := (H9.lit #[.int .i64 v.y.flow, .int .i64 v.y.cost, .int .u64 v.y.id, .int .i64 v.all, .int .i64 s0, .int .i64 s1, .int .i64 s2, .int .i64 s3, .int .i64 s4, .int .i64 s5, .int .i64 s6, .int .i64 s7] 38 12 1 rfl (by decide)).up2
                    have HLM : Aside ((leftWt x (ws.take (j + 1))).length = n + 1) := ⟨by rw [left_more HVV.out, if_neg HNE.out, List.length_append, HLN.out]; rfl⟩
                    clear hlw hs8 h1c
                    go_wp2_with (at_builtin; go_loud (refine wpList_append_sep rfl (.tmp 173) (.tmp 175) 26 rfl 38 i0 _ 12 96 Try.underlying26 hi0 hz0 hz1 hz2 rfl (by decide) rfl H10 rfl H10.rd1 H1C.out hb1 hb2 rfl HAP.out ?_); intro QB cB wB HSB hszB)
                    go_roundw
                    case rel => exact ⟨j + 1, n + 1, cB, QB, d, by omega, by omega, rfl, rfl, by go_num, HLM, ⟨by rw [found_more HVV.out]; exact ⟨fun h => .inl (HDD.out.1 h), fun h => h.elim HDD.out.2 (fun h => absurd h HNE.out)⟩⟩, HSB.sel 6 [0, 3, 4, 5]⟩
                    case measure => simp [intOf]; omega
            · obtain rfl : j = N := by omega
              have hj1 : ¬ (j : Int) < j := by omega
              have htw : ws.take j = ws := List.take_of_length_le (by rw [← HN.out]; exact Nat.le_refl _)
              have hd : d = true := HDD.out.2 (by rw [htw]; exact HF.out.wp.symm.subset HXM.out)
              have HTW := hid htw
              subst hd
              clear htw
              go_wp2
              go_roundw
              case rel => exact ⟨k + 1, ck, Q, q2, leftWt x ws, by omega, by rw [← HLN.out, HTW.out], by rw [HQN.out], by go_num, ⟨HFT.out.1⟩, by
                have h := HLN.out
                rw [HTW.out] at h H8
                rw [h]
                exact (H8.up1.qu_more (Nat.le_succ _)).sel 4 [0, 1]⟩
              case measure => simp [intOf]; omega
    · obtain rfl : k = n0 := by omega
      have hk1 : ¬ (k : Int) < k := by omega
      have hln := qlen_calls H4
      rw [← HWL.out] at hln
      obtain ⟨N, hN⟩ : ∃ N, N = ws.length := ⟨_, rfl⟩
      rw [← hN] at hln
      have HN := hid hN
      rw [← hN]
      clear hN
      go_wp2_with fail
      refine hln.mono ?_
      rintro e w' ⟨rfl, hw'⟩
      obtain rfl := hw'.symm
      go_wp2
      go_ret
      exact ⟨rfl, H4.below⟩
end Go.Proofs.Ytkdoocgjagpcbaa
