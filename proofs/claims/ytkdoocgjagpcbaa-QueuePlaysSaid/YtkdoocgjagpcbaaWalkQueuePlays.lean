/-
  The walk of QueuePlays.
-/
import Derived.Test.YtkdoocgjagpcbaaQueueV
import Derived.Test.YtkdoocgjagpcbaaActs4
import Derived.Deep.CutBlock
import Derived.Deep.DeepCutAuto
namespace Go.Proofs.Ytkdoocgjagpcbaa
open Go.RowKit
set_option linter.unusedVariables false
set_option linter.unusedSimpArgs false
section
variable {w0 w : World} {O : Nat → Prop} {L : List Asr}
theorem Sep.qu_more {g b c : Nat} {q : Qu} (h : Sep w0 w O (quA g b q :: L)) (hc : b ≤ c) : Sep w0 w O (quA g c q :: L) := by
  obtain ⟨xs, h⟩ := h.unex
  obtain ⟨⟨h1, h2, h3⟩, h⟩ := h.unwith
  exact Sep.ex xs (Sep.with_ ⟨h1.more hc, h2, h3⟩ h)
end

set_option maxHeartbeats 16000000 in
set_option maxRecDepth 100000 in
theorem queuePlays_walk (A0 : Option Addr) (n0 c0 : Nat) (x0 : Sh.V (.slice (.agg (.pair (.int .i64) (.pair (.int .i64) (.pair (.int .i64) (.pair (.int .u64) .unit))))) 32)) (w : World) (s0 : Sees w.heap (.slice (.agg (.pair (.int .i64) (.pair (.int .i64) (.pair (.int .i64) (.pair (.int .u64) .unit))))) 32) [.slice A0 n0 c0] x0) (y0 : Light (.slice (.agg (.pair (.int .i64) (.pair (.int .i64) (.pair (.int .i64) (.pair (.int .u64) .unit))))) 32) x0) :
    Calls Try.prog 5 #[.slice A0 n0 c0] w fun e w' => e = .returned (.bool true) ∧ Below w.heap.size w w' := by
  have hn0 : n0 * 32 ≤ 140737488351232 := by
    obtain ⟨A', c', hc, -⟩ := s0
    simp only [List.cons.injEq, and_true, Value.slice.injEq] at hc
    have := y0.1
    rw [← hc.2.1] at this
    omega
  obtain ⟨hc1, acts, hal, hab, hm⟩ := sees_acts s0
  have HRA := hid (fun L => Rb.came (L := L) hm)
  clear s0 y0 hm hab hal
  have HS := Sep.start w
  go_enter Try.func5, Try.ntmps5
  go_wp2_with fail
  refine (qnew_calls HS).mono ?_
  rintro e w1 ⟨g, rfl, H1⟩
  have BW := H1.alloc #[.slice none 0 0, .int .i64 0, .int .i64 0, .int .i64 0, .int .i64 0, .int .i64 0, .int .i64 0, .int .i64 0, .int .i64 0, .int .i64 0] 49
  obtain ⟨hh, hhh⟩ : ∃ z, z = w1.heap.size := ⟨_, rfl⟩
  obtain ⟨vW, hvW⟩ : ∃ z, z = w1.alloc (.cells #[.slice none 0 0, .int .i64 0, .int .i64 0, .int .i64 0, .int .i64 0, .int .i64 0, .int .i64 0, .int .i64 0, .int .i64 0, .int .i64 0] 49) := ⟨_, rfl⟩
  rw [← hhh, ← hvW] at BW
  have HGW := hid hhh
  have HVW := hid hvW
  clear hhh hvW H1
  have H2 : Sep w vW (fun _ => False) (quA g 0 noQu :: docQ hh noQu :: []) := (Sep.docedQ (A := none) (c := 0) (q := noQu) rfl rfl (BW.nil 52 4)).up1
  go_upto_region 2 with (fail)
  rw [← HGW.out, ← HVW.out]
  clear HS BW
  go_wp2
  go_loopw [3, 5] (fun p i wr => ∃ (k g : Nat) (q : Qu), k ≤ n0 ∧ p = .pointer (some ⟨g, 0, none⟩) ∧ i = .int .i64 k ∧ Sep w wr (fun _ => False) (quA g k q :: docQ hh q :: [])) (fun _ i _ => n0 - (intOf i).toNat)
  case atStart => exact ⟨0, g, noQu, Nat.zero_le _, rfl, rfl, H2⟩
  case round =>
    obtain ⟨k, g, q, hk, rfl, rfl, H4⟩ := hrel
    clear H2
    by_cases hlt : k < n0
    · obtain ⟨ad, ⟨wh, fl, co, id⟩, rfl, hp, p0, p1, p2, p3⟩ := (HRA.out _).actAt H4 hlt
      dsimp only at p0 p1 p2 p3
      have hk1 : (k : Int) < n0 := by omega
      have BA := H4.alloc #[.int .i64 wh, .int .i64 fl, .int .i64 co, .int .u64 id] 29
      obtain ⟨ga, hga⟩ : ∃ z, z = wr.heap.size := ⟨_, rfl⟩
      obtain ⟨vA, hvA⟩ : ∃ z, z = wr.alloc (.cells #[.int .i64 wh, .int .i64 fl, .int .i64 co, .int .u64 id] 29) := ⟨_, rfl⟩
      rw [← hga, ← hvA] at BA
      have HGA := hid hga
      have HVA := hid hvA
      clear hga hvA
      clear hp
      go_upto_block 2 with (fail)
      rw [← HGA.out, ← HVA.out]
      clear p0 p1 p2 p3
      go_cut [3, 7] (fun p r wx => ∃ (g : Nat) (q : Qu), p = .pointer (some ⟨g, 0, none⟩) ∧ r = .bool true ∧ Sep w wx (fun _ => False) (quA g (k + 1) q :: docQ hh q :: []))
      case first =>
        have H6 : Sep w vA (fun _ => False) (quA g k q :: docQ hh q :: blk ga 29 #[.int .i64 wh, .int .i64 fl, .int .i64 co, .int .u64 id] :: []) := BA.sel 3 [1, 2, 0]
        obtain ⟨hok, -⟩ := H6.unqu
        have HOK := hid hok
        have q0 := H6.up2.blkAt 0 rfl
        clear BA hk1 hok
        rcases (show wh = 0 ∨ wh = 1 ∨ wh = 2 ∨ wh = 3 ∨ wh = 4 ∨ wh = 5 ∨ (¬ wh = 0 ∧ ¬ wh = 1 ∧ ¬ wh = 2 ∧ ¬ wh = 3 ∧ ¬ wh = 4 ∧ ¬ wh = 5) by omega) with rfl | rfl | rfl | rfl | rfl | rfl | ⟨m0, m1, m2, m3, m4, m5⟩
        · have hb : k ≤ 8000000000000 := by omega
          have HB := hid hb
          clear hb
          go_upto_region 11 with (fail)
          go_region_held_law (fun w' => w'.cell? ⟨ga, 1, none⟩ = some (.int .i64 fl) ∧ w'.cell? ⟨ga, 2, none⟩ = some (.int .i64 co) ∧ w'.cell? ⟨ga, 3, none⟩ = some (.int .u64 id))
            (first | exact ⟨H8.up2.blkAt 1 rfl, H8.up2.blkAt 2 rfl, H8.up2.blkAt 3 rfl⟩ | exact ⟨H7.up2.blkAt 1 rfl, H7.up2.blkAt 2 rfl, H7.up2.blkAt 3 rfl⟩ | exact ⟨H6.drew.up2.blkAt 1 rfl, H6.drew.up2.blkAt 2 rfl, H6.drew.up2.blkAt 3 rfl⟩)
            (first
              | (go_simp; go_at_call 18; refine (dadd_calls (f := fl) (c := co) (id := id) H7.up1 HOK.out HB.out).mono ?_; rintro e w7 ⟨rfl, H8⟩)
              | (go_simp; go_at_call 9; refine (qadd_calls (f := fl) (c := co) (id := id) H6.drew HB.out).mono ?_; rintro e w6 ⟨rfl, H7⟩))
          all_goals
            generalize adE q fl co = E at *
            go_wp2
            go_meet
            case rel => exact ⟨g, adQ q fl co id, rfl, rfl, H8.sel 3 [1, 0]⟩
        · skip
          obtain ⟨x, hx⟩ : ∃ x, x = tkAt q 0 := ⟨_, rfl⟩
          obtain ⟨is, his⟩ : ∃ is, is = tkIs q 0 := ⟨_, rfl⟩
          obtain ⟨q2, hq2⟩ : ∃ q2, q2 = tkQ q 0 := ⟨_, rfl⟩
          have hT := qtake_calls H6 (by omega)
          rw [← hx, ← his, ← hq2] at hT
          have HX := hid hx
          have HIS := hid his
          have HQ2 := hid hq2
          clear hx his hq2
          go_wp2_with fail
          refine hT.mono ?_
          rintro e w6 ⟨rfl, H7⟩
          clear hT q0
          have B7 := H7.alloc #[.int .i64 x.flow, .int .i64 x.cost, .int .u64 x.id] 35
          obtain ⟨gw, hgw⟩ : ∃ z, z = w6.heap.size := ⟨_, rfl⟩
          obtain ⟨v7, hv7⟩ : ∃ z, z = w6.alloc (.cells #[.int .i64 x.flow, .int .i64 x.cost, .int .u64 x.id] 35) := ⟨_, rfl⟩
          rw [← hgw, ← hv7] at B7
          have HG7 := hid hgw
          have HV7 := hid hv7
          clear hgw hv7 H7
          go_upto_region 14 with (fail)
          rw [← HG7.out, ← HV7.out]
          have hT := dtake_calls (i := 0) B7.up2 (by have := HOK.out.small; omega)
          rw [← HX.out, ← HIS.out, ← HQ2.out] at hT
          go_wp2_with fail
          refine hT.mono ?_
          rintro e w8 ⟨rfl, H8⟩
          clear hT
          have B8 := H8.alloc #[.int .i64 x.flow, .int .i64 x.cost, .int .u64 x.id, .int .i64 x.tag] 52
          obtain ⟨gx, hgx⟩ : ∃ z, z = w8.heap.size := ⟨_, rfl⟩
          obtain ⟨v8, hv8⟩ : ∃ z, z = w8.alloc (.cells #[.int .i64 x.flow, .int .i64 x.cost, .int .u64 x.id, .int .i64 x.tag] 52) := ⟨_, rfl⟩
          rw [← hgx, ← hv8] at B8
          have HG8 := hid hgx
          have HV8 := hid hv8
          clear hgx hv8 H8
          go_upto_region 15 with (fail)
          rw [← HG8.out, ← HV8.out]
          have x0 := B8.blkAt 0 rfl
          have x1 := B8.blkAt 1 rfl
          have x2 := B8.blkAt 2 rfl
          have x3 := B8.blkAt 3 rfl
          have y0 := B8.up2.blkAt 0 rfl
          have y1 := B8.up2.blkAt 1 rfl
          have y2 := B8.up2.blkAt 2 rfl
          go_wp2_with fail
          refine (is_calls (x := x) B8).mono ?_
          rintro e w9 ⟨rfl, H9⟩
          clear x0 x1 x2 x3 y0 y1 y2
          go_wp2
          go_meet
          case rel => exact ⟨g, q2, rfl, rfl, (H9.sel 5 [3, 1]).qu_more (Nat.le_succ _)⟩
        · skip
          obtain ⟨x, hx⟩ : ∃ x, x = tkAt q fl := ⟨_, rfl⟩
          obtain ⟨is, his⟩ : ∃ is, is = tkIs q fl := ⟨_, rfl⟩
          obtain ⟨q2, hq2⟩ : ∃ q2, q2 = tkQ q fl := ⟨_, rfl⟩
          have p1 := H6.up2.blkAt 1 rfl
          have hT := qtakeat_calls (i := fl) H6 (by omega)
          rw [← hx, ← his, ← hq2] at hT
          have HX := hid hx
          have HIS := hid his
          have HQ2 := hid hq2
          clear hx his hq2
          go_wp2_with fail
          refine hT.mono ?_
          rintro e w6 ⟨rfl, H7⟩
          clear hT q0 p1
          have B7 := H7.alloc #[.int .i64 x.flow, .int .i64 x.cost, .int .u64 x.id] 35
          obtain ⟨gw, hgw⟩ : ∃ z, z = w6.heap.size := ⟨_, rfl⟩
          obtain ⟨v7, hv7⟩ : ∃ z, z = w6.alloc (.cells #[.int .i64 x.flow, .int .i64 x.cost, .int .u64 x.id] 35) := ⟨_, rfl⟩
          rw [← hgw, ← hv7] at B7
          have HG7 := hid hgw
          have HV7 := hid hv7
          clear hgw hv7 H7
          go_upto_region 18 with (fail)
          rw [← HG7.out, ← HV7.out]
          have p1 := B7.up3.blkAt 1 rfl
          have hT := dtake_calls (i := fl) B7.up2 (by have := HOK.out.small; omega)
          rw [← HX.out, ← HIS.out, ← HQ2.out] at hT
          go_wp2_with fail
          refine hT.mono ?_
          rintro e w8 ⟨rfl, H8⟩
          clear hT p1
          have B8 := H8.alloc #[.int .i64 x.flow, .int .i64 x.cost, .int .u64 x.id, .int .i64 x.tag] 52
          obtain ⟨gx, hgx⟩ : ∃ z, z = w8.heap.size := ⟨_, rfl⟩
          obtain ⟨v8, hv8⟩ : ∃ z, z = w8.alloc (.cells #[.int .i64 x.flow, .int .i64 x.cost, .int .u64 x.id, .int .i64 x.tag] 52) := ⟨_, rfl⟩
          rw [← hgx, ← hv8] at B8
          have HG8 := hid hgx
          have HV8 := hid hv8
          clear hgx hv8 H8
          go_upto_region 19 with (fail)
          rw [← HG8.out, ← HV8.out]
          have x0 := B8.blkAt 0 rfl
          have x1 := B8.blkAt 1 rfl
          have x2 := B8.blkAt 2 rfl
          have x3 := B8.blkAt 3 rfl
          have y0 := B8.up2.blkAt 0 rfl
          have y1 := B8.up2.blkAt 1 rfl
          have y2 := B8.up2.blkAt 2 rfl
          go_wp2_with fail
          refine (is_calls (x := x) B8).mono ?_
          rintro e w9 ⟨rfl, H9⟩
          clear x0 x1 x2 x3 y0 y1 y2
          go_wp2
          go_meet
          case rel => exact ⟨g, q2, rfl, rfl, (H9.sel 5 [3, 1]).qu_more (Nat.le_succ _)⟩
        · skip
          obtain ⟨x, hx⟩ : ∃ x, x = tkAt q fl := ⟨_, rfl⟩
          obtain ⟨is, his⟩ : ∃ is, is = tkIs q fl := ⟨_, rfl⟩
          have p1 := H6.up2.blkAt 1 rfl
          have hT := qat_calls (i := fl) H6
          rw [← hx, ← his] at hT
          have HX := hid hx
          have HIS := hid his
          clear hx his
          go_wp2_with fail
          refine hT.mono ?_
          rintro e w6 ⟨rfl, H7⟩
          clear hT q0 p1
          have B7 := H7.alloc #[.int .i64 x.flow, .int .i64 x.cost, .int .u64 x.id] 35
          obtain ⟨gw, hgw⟩ : ∃ z, z = w6.heap.size := ⟨_, rfl⟩
          obtain ⟨v7, hv7⟩ : ∃ z, z = w6.alloc (.cells #[.int .i64 x.flow, .int .i64 x.cost, .int .u64 x.id] 35) := ⟨_, rfl⟩
          rw [← hgw, ← hv7] at B7
          have HG7 := hid hgw
          have HV7 := hid hv7
          clear hgw hv7 H7
          go_upto_region 22 with (fail)
          rw [← HG7.out, ← HV7.out]
          have BD : Sep w v7.drew (fun _ => False) (docQ hh q :: blk gw 35 #[.int .i64 x.flow, .int .i64 x.cost, .int .u64 x.id] :: quA g k q :: blk ga 29 #[.int .i64 3, .int .i64 fl, .int .i64 co, .int .u64 id] :: []) := B7.drew.up2
          have p1 := BD.up3.blkAt 1 rfl
          have BZ := (BD.allocAt #[.int .i64 0, .int .i64 0, .int .u64 0, .int .i64 0] 52 (B := v7.heap.size) rfl).up1
          have p1z := (B7.alloc #[.int .i64 0, .int .i64 0, .int .u64 0, .int .i64 0] 52).up4.blkAt 1 rfl
          have hl8 := HOK.out.len
          have hle : q.S.length ≤ 1024 := by have := HOK.out.small; omega
          have hDK : ∀ {W : World} {M : List Asr} {g' : Nat}, Sep w W (fun _ => False) (docQ g' q :: M) → Calls Try.prog 19 #[.pointer (some ⟨g', 0, none⟩), .int .i64 fl] W fun e w' => e = .returned (.tuple #[.agg #[.int .i64 x.flow, .int .i64 x.cost, .int .u64 x.id, .int .i64 x.tag], .bool is]) ∧ Sep w w' (fun _ => False) (docQ g' (tkQ q fl) :: M) := fun h => by
            have := dtake_calls (i := fl) h hle
            rwa [← HX.out, ← HIS.out] at this
          have HDK := hid @hDK
          clear hDK
          go_cut [18, 19] (fun v o wx => ∃ gx, v = .pointer (some ⟨gx, 0, none⟩) ∧ o = .bool is ∧ Sep w wx (fun _ => False) (blk gx 52 #[.int .i64 x.flow, .int .i64 x.cost, .int .u64 x.id, .int .i64 x.tag] :: docQ hh q :: blk gw 35 #[.int .i64 x.flow, .int .i64 x.cost, .int .u64 x.id] :: quA g k q :: blk ga 29 #[.int .i64 3, .int .i64 fl, .int .i64 co, .int .u64 id] :: []))
          case first =>
            go_region_law (first
              | (go_simp; go_at_call 19; refine (HDK.out K1).mono ?_; rintro e w8 ⟨rfl, K2⟩; have KE := K2.alloc #[.int .i64 x.flow, .int .i64 x.cost, .int .u64 x.id, .int .i64 x.tag] 52)
              | (go_simp; go_at_call 19; refine (HDK.out K1z).mono ?_; rintro e w8 ⟨rfl, K3⟩; have c0 := K3.up1.blkAt 0 rfl; have c1 := K3.up1.blkAt 1 rfl; have c2 := K3.up1.blkAt 2 rfl; have c3 := K3.up1.blkAt 3 rfl; have f0 := K3.up1.blk_frozen 0; have f1 := K3.up1.blk_frozen 1; have f2 := K3.up1.blk_frozen 2; have f3 := K3.up1.blk_frozen 3; have K4 := (((K3.up1.blk_set 0 (.int .i64 x.flow)).blk_set 1 (.int .i64 x.cost)).blk_set 2 (.int .u64 x.id)).blk_set 3 (.int .i64 x.tag))
              | (go_simp; go_at_call 19; refine (HDK.out Z1).mono ?_; rintro e w8 ⟨rfl, Z2⟩; have c0 := Z2.up1.blkAt 0 rfl; have c1 := Z2.up1.blkAt 1 rfl; have c2 := Z2.up1.blkAt 2 rfl; have c3 := Z2.up1.blkAt 3 rfl; have f0 := Z2.up1.blk_frozen 0; have f1 := Z2.up1.blk_frozen 1; have f2 := Z2.up1.blk_frozen 2; have f3 := Z2.up1.blk_frozen 3; have Z4 := (((Z2.up1.blk_set 0 (.int .i64 x.flow)).blk_set 1 (.int .i64 x.cost)).blk_set 2 (.int .u64 x.id)).blk_set 3 (.int .i64 x.tag))
              | (go_simp; go_at_call 21; refine (dcopy_calls BD hl8 hle).mono ?_; rintro e w7 ⟨gc, rfl, K1⟩; have p1k := K1.up4.blkAt 1 rfl; have K1z := (K1.alloc #[.int .i64 0, .int .i64 0, .int .u64 0, .int .i64 0] 52).up1; have p1kz := K1z.up5.blkAt 1 rfl)
              | (go_simp; go_at_call 21; refine (dcopy_calls BZ hl8 hle).mono ?_; rintro e w7 ⟨gc, rfl, Z0⟩; have Z1 := Z0.sel 6 [0, 2, 1, 3, 4, 5]; have p1k := Z1.up5.blkAt 1 rfl))
            all_goals
              go_wp2
              go_meet
              case rel =>
                first
                | exact ⟨_, rfl, rfl, KE.sel 6 [0, 2, 3, 4, 5]⟩
                | exact ⟨_, rfl, rfl, K4.sel 6 [0, 2, 3, 4, 5]⟩
                | exact ⟨_, rfl, rfl, Z4.sel 6 [0, 2, 3, 4, 5]⟩
          case rest =>
            obtain ⟨gx, rfl, rfl, B8⟩ := hcut
            clear BD BZ p1 p1z B7
            go_upto_region 23 with (fail)
            have x0 := B8.blkAt 0 rfl
            have x1 := B8.blkAt 1 rfl
            have x2 := B8.blkAt 2 rfl
            have x3 := B8.blkAt 3 rfl
            have y0 := B8.up2.blkAt 0 rfl
            have y1 := B8.up2.blkAt 1 rfl
            have y2 := B8.up2.blkAt 2 rfl
            go_wp2_with fail
            refine (is_calls (x := x) B8).mono ?_
            rintro e w9 ⟨rfl, H9⟩
            clear x0 x1 x2 x3 y0 y1 y2
            go_wp2
            go_meet
            case rel => exact ⟨g, q, rfl, rfl, (H9.sel 5 [3, 1]).qu_more (Nat.le_succ _)⟩
        · go_upto_region 25 with (fail)
          go_region_held_law (fun w' => w'.cell? ⟨ga, 1, none⟩ = some (.int .i64 fl))
            (first | exact H8.up2.blkAt 1 rfl | exact H7.up2.blkAt 1 rfl | exact H6.drew.up2.blkAt 1 rfl)
            (first
              | (go_simp; go_at_call 22; refine (ddrop_calls (f := fl) H7.up1 HOK.out).mono ?_; rintro e w7 ⟨rfl, H8⟩)
              | (go_simp; go_at_call 16; refine (qdrop_calls (f := fl) H6.drew).mono ?_; rintro e w6 ⟨rfl, H7⟩))
          all_goals
            generalize ofQ q fl = E at *
            go_wp2
            go_meet
            case rel => exact ⟨g, drQ q fl, rfl, rfl, (H8.sel 3 [1, 0]).qu_more (Nat.le_succ _)⟩
        · have hb : k ≤ 8000000000000 := by omega
          go_wp2_with fail
          refine (qcopy_calls H6).mono ?_
          rintro e w6 ⟨g2, rfl, H7⟩
          go_wp2_with fail
          refine (qadd_calls (f := 3) (c := 1) (id := 77) H7.up1 hb).mono ?_
          rintro e w7 ⟨rfl, H8⟩
          generalize adE q 3 1 = E at *
          go_wp2_with fail
          refine (qtake_calls H8 (by omega)).mono ?_
          rintro e w8 ⟨rfl, H9⟩
          clear q0
          generalize tkAt (adQ q 3 1 77) 0 = y at *
          generalize tkIs (adQ q 3 1 77) 0 = is at *
          go_wp2
          go_meet
          case rel => exact ⟨g2, q, rfl, rfl, (H9.sel 4 [1, 2]).qu_more (Nat.le_succ _)⟩
        · have b0 : (wh == 0) = false := beq_eq_false_iff_ne.2 m0
          have b1 : (wh == 1) = false := beq_eq_false_iff_ne.2 m1
          have b2 : (wh == 2) = false := beq_eq_false_iff_ne.2 m2
          have b3 : (wh == 3) = false := beq_eq_false_iff_ne.2 m3
          have b4 : (wh == 4) = false := beq_eq_false_iff_ne.2 m4
          have b5 : (wh == 5) = false := beq_eq_false_iff_ne.2 m5
          clear m0 m1 m2 m3 m4 m5
          go_wp2
          go_meet
          case rel => exact ⟨g, q, rfl, rfl, (H6.qu_more (Nat.le_succ _)).sel 3 [0, 1]⟩
      case rest =>
        obtain ⟨g, q, rfl, rfl, H6⟩ := hcut
        clear H4 BA
        go_wp2_with fail
        refine (looks_calls H6).mono ?_
        rintro e w9 ⟨rfl, H7⟩
        go_wp2
        go_roundw
        case rel => exact ⟨k + 1, g, q, by omega, rfl, by go_num, H7⟩
        case measure => simp [intOf]; omega
    · obtain rfl : k = n0 := by omega
      have hk1 : ¬ (k : Int) < k := by omega
      go_wp2_with fail
      refine (wakes_calls H4).mono ?_
      rintro e w9 ⟨rfl, H7⟩
      go_wp2
      go_ret
      exact ⟨rfl, H7.below⟩
end Go.Proofs.Ytkdoocgjagpcbaa
