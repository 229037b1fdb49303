/-
  The walk of AdminAnswers.
-/
import Derived.Test.YtankfmfenbhkgaaAnsBoth
import Derived.Test.YtankfmfenbhkgaaRef24Same
import Derived.Test.YtankfmfenbhkgaaLaw24
import Derived.Test.YtankfmfenbhkgaaView
import Derived.Deep.DeepCutAuto
import Derived.Deep.QuietTactic
import Derived.BigQuiet
namespace Go.Proofs.Ytankfmfenbhkgaa
open Go.RowKit
set_option linter.unusedVariables false
set_option linter.unusedSimpArgs false

set_option maxHeartbeats 4000000 in
set_option maxRecDepth 100000 in
theorem adminAnswers_walk (cs0 : Array Value) (A1 : Option Addr) (n1 c1 : Nat) (x0 : Sh.V (.agg (.pair (.int .u64) (.pair (.int .u32) (.pair (.int .u64) (.pair (.slice (.agg (.pair (.int .u64) (.pair .str (.pair (.int .u64) (.pair (.int .u64) (.pair .bool (.pair (.int .u64) .unit))))))) 56) .unit)))))) (x1 : Sh.V (.slice (.int .u8) 1)) (w : World) (s0 : Sees w.heap (.agg (.pair (.int .u64) (.pair (.int .u32) (.pair (.int .u64) (.pair (.slice (.agg (.pair (.int .u64) (.pair .str (.pair (.int .u64) (.pair (.int .u64) (.pair .bool (.pair (.int .u64) .unit))))))) 56) .unit))))) cs0.toList x0) (s1 : Sees w.heap (.slice (.int .u8) 1) [.slice A1 n1 c1] x1) (y0 : Light (.agg (.pair (.int .u64) (.pair (.int .u32) (.pair (.int .u64) (.pair (.slice (.agg (.pair (.int .u64) (.pair .str (.pair (.int .u64) (.pair (.int .u64) (.pair .bool (.pair (.int .u64) .unit))))))) 56) .unit))))) x0) (y1 : Light (.slice (.int .u8) 1) x1) :
    Calls Try.prog 4 #[.agg cs0, .slice A1 n1 c1] w fun e w' => e = .returned (.bool true) ∧ Below w.heap.size w w' := by
  obtain ⟨ck, er, id, A, n, c, vs, rfl, ⟨ck0, ck1⟩, ⟨er0, er1⟩, ⟨id0, id1⟩, hnc, hn56, hvn, hvok, hrd0⟩ := sees_ans s0 y0
  obtain ⟨hn1, hr1, hc1, _, hw1⟩ := sees_ints s1
  obtain ⟨l, rfl⟩ : ∃ l : List Int, l = x1 := ⟨_, rfl⟩
  have hb1 := kv_byt hw1
  have ly1 : n1 ≤ 140737488351232 := by have := y1.1; omega
  have hR := fun L => Rb.came (L := L) hr1
  have hRv := fun L => Rb.came (L := L) hrd0
  clear s0 s1 y0 y1 hw1 hr1 hrd0
  obtain ⟨i0, hi0, hz0, hz1, hz2⟩ := info_parts info_vol6
  have hL : l.length ≤ 140737488355328 := by omega
  have HSb := (Sep.start w).alloc #[.int .u64 ck, .int .u32 er, .int .u64 id, .slice A n c] 43
  have HSc := HSb.allocB #[.int .u64 ck, .int .u32 er, .int .u64 id, .slice A n c] 43 (B := w.heap.size + 1) (by simp)
  have HSd := HSc.nil 48 6
  have hb3 : 0 + n ≤ maxLen := by simp only [maxLen]; omega
  have hb4 : (0 + n) * 56 ≤ 140737488355328 := by omega
  have h1c : ∀ u ∈ vrow vs, u.oneCell' = true := by
    intro u hu
    simp only [vrow, List.mem_flatMap] at hu
    obtain ⟨v, _, hu⟩ := hu
    simp only [Vol.cells, List.mem_cons, List.not_mem_nil, or_false] at hu
    rcases hu with rfl | rfl | rfl | rfl | rfl | rfl <;> rfl
  have hrd := ((hRv _)).read HSd
  obtain ⟨E, X, hXl, HPut, HRef⟩ := ansput_both (w0 := w) (O := fun _ => False) hvn hvok ck0 ck1 er0 er1 id0 id1
  have HT := anstake_one (w0 := w) (O := fun _ => False) hb1 hL
  have H1 := hid @HPut
  have H2 := hid @HRef
  have H3 := hid HT
  have H5 := hid hR
  have H6 := hid hRv
  have H7 := hid hn1
  have H8 := hid hXl
  have H9 := hid hvn
  clear HPut HRef HT hR hRv hb1 hn1 hXl hvn hvok ck0 ck1 er0 er1 id0 id1
  go_enter Try.func4, Try.ntmps4
  go_wp2_with (at_builtin; go_loud (refine wpList_append_sep rfl (.const (.slice none 0 0)) (.tmp 21) 41 rfl 48 i0 _ 6 56 Try.underlying41 hi0 hz0 hz1 hz2 rfl (by decide) rfl HSd rfl hrd h1c hb3 hb4 (Nat.zero_add n) (List.nil_append _) ?_); intro B3 c3 w3 HS3 hsz3; have f3 := HS3.up1.blk_frozen 3; have a3 := HS3.up1.blk_at 3 rfl; have HW := HS3.up1.blk_set 3 (.slice B3 n c3); have r0 := HW.blk_at 0 rfl; have r1 := HW.blk_at 1 rfl; have r2 := HW.blk_at 2 rfl; have r3 := HW.blk_at 3 rfl)
  have HW0 : Sep w _ (fun _ => False) (blk (w.heap.size + 1) 43 #[.int .u64 ck, .int .u32 er, .int .u64 id, .slice B3 n c3] :: own 48 6 B3 n c3 (vrow vs) :: blk w.heap.size 43 #[.int .u64 ck, .int .u32 er, .int .u64 id, .slice A n c] :: []) := HW
  refine (H1.out HW0 Rb.i1).mono ?_
  rintro e w4 ⟨A4, c4, rfl, HS4⟩
  clear r0 r1 r2 r3 a3 f3 HS3 HSd HSc HSb hrd HW
  have r0 := HS4.up3.blk_at 0 rfl
  have r1 := HS4.up3.blk_at 1 rfl
  have r2 := HS4.up3.blk_at 2 rfl
  have r3 := HS4.up3.blk_at 3 rfl
  go_wp2_with fail
  refine (H2.out HS4 (H6.out _)).mono ?_
  rintro e w5 ⟨A5, c5, rfl, HS5⟩
  clear r0 r1 r2 r3
  have hs1 := run_str (P := Try.prog) (c := c4) (Rb.i1.read HS5) 25 9 5 Try.underlying25 Try.underlying5 Try.underlying9
  have hs2 := run_str (P := Try.prog) (c := c5) (Rb.i0.read HS5) 25 9 5 Try.underlying25 Try.underlying5 Try.underlying9
  generalize strOfNums X = sx at hs1 hs2
  go_wp2_with fail
  have HS6 : Sep w w5 (fun _ => False) (blk (w.heap.size + 1) 43 #[.int .u64 ck, .int .u32 er, .int .u64 id, .slice B3 n c3] :: own 48 6 B3 n c3 (vrow vs) :: blk w.heap.size 43 #[.int .u64 ck, .int .u32 er, .int .u64 id, .slice A n c] :: []) := HS5.drop.drop
  clear hs1 hs2 HS4 HS5 HW0
  have hnI : (n : Int) ≤ 140737488351232 := by omega
  go_loopw [10] (fun i wr => ∃ k : Nat, k ≤ n ∧ i = .int .i64 k ∧ Sep w wr (fun _ => False) (blk (w.heap.size + 1) 43 #[.int .u64 ck, .int .u32 er, .int .u64 id, .slice B3 n c3] :: own 48 6 B3 n c3 (vrow vs) :: blk w.heap.size 43 #[.int .u64 ck, .int .u32 er, .int .u64 id, .slice A n c] :: [])) (fun i _ => n - (intOf i).toNat)
  case atStart => exact ⟨0, Nat.zero_le _, rfl, HS6⟩
  case round =>
    obtain ⟨k, hk, rfl, HS7⟩ := hrel
    clear HS6
    have a3 := HS7.blk_at 3 rfl
    have b3 := HS7.up2.blk_at 3 rfl
    by_cases hlt : k < n
    · have hrb : Rb w (fun _ => False) (blk (w.heap.size + 1) 43 #[.int .u64 ck, .int .u32 er, .int .u64 id, .slice B3 n c3] :: own 48 6 B3 n c3 (vrow vs) :: blk w.heap.size 43 #[.int .u64 ck, .int .u32 er, .int .u64 id, .slice A n c] :: []) 6 B3 n (vrow vs) := Rb.i1
      obtain ⟨ad, v, rfl, hvk, x0, x1, x2, x3, x4, x5⟩ := hrb.volAt HS7 hlt
      obtain ⟨bd, v', rfl, hvk', y0, y1, y2, y3, y4, y5⟩ := (H6.out _).volAt HS7 hlt
      obtain rfl : v = v' := by rw [hvk] at hvk'; injection hvk' with h
      have hj : (k : Int) < n := by omega
      have j0 : (0 : Int) ≤ k := by omega
      clear hvk hvk' hrb
      go_upto_region 10 with (fail)
      go_quiet (fail)
      have HS8 := HS7.drewN nq
      go_wp2
      go_roundw
      case rel => exact ⟨k + 1, by omega, by go_num, HS8⟩
      case measure => simp [intOf]; omega
    · obtain rfl : n = k := by omega
      have hj : ¬ (n : Int) < n := by omega
      go_wp2_with fail
      refine (ltape_calls HS7 (H5.out _) hL).mono ?_
      rintro e w8 ⟨g8, rfl, HS8⟩
      have HS9 := HS8.sel 1 [0]
      clear a3 b3 HS7 HS8
      replace HS9 : Sep w w8 (fun _ => False) (Go.Proofs.Ytankfmfenbhkgaa.tape g8 l :: blk (w.heap.size + 1) 43 #[.int .u64 ck, .int .u32 er, .int .u64 id, .slice B3 n c3] :: own 48 6 B3 n c3 (vrow vs) :: blk w.heap.size 43 #[.int .u64 ck, .int .u32 er, .int .u64 id, .slice A n c] :: []) := HS9
      go_wp2_with fail
      obtain ⟨ck2, er2, id2, N2, gn, vs2, E2, hg1, hvl2, hN2, hroot, HT1, HT2⟩ := H3.out
      refine (HT1 HS9).mono ?_
      rintro e w10 ⟨A10, c10, rfl, HS10⟩
      have HS11 := HS10.alloc #[.int .u64 ck2, .int .u32 er2, .int .u64 id2, .slice A10 N2 c10] 45
      go_wp2_with fail
      refine (HT2 HS11 (H5.out _) hc1).mono ?_
      rintro e w12 ⟨A12, c12, rfl, HS12⟩
      have HS13 := HS12.alloc #[.int .u64 ck2, .int .u32 er2, .int .u64 id2, .slice A12 N2 c12] 43
      clear HS9 HS10 HS11
      have HV2 := hid hvl2
      have HRT := hid hroot
      have HZ := hid HS12
      obtain ⟨g12, hg12⟩ : ∃ x, x = w12.heap.size := ⟨_, rfl⟩
      obtain ⟨g10, hg10⟩ : ∃ x, x = w10.heap.size := ⟨_, rfl⟩
      clear hvl2 hroot HS12
      have hdl : ((l.drop gn).length : Int) = n1 - gn := by have := H7.out; rw [List.length_drop]; omega
      generalize l.drop gn = tl at *
      have i4 : IntKind.i64.wrap ((n1 : Int) - gn) = tl.length := by rw [IntKind.wrap_i64]; omega
      have hN2I : (N2 : Int) ≤ 16 := by omega
      have p3 := HS13.up2.blk_at 3 rfl
      go_wp2_with fail
      go_loopw [18] (fun i wr => ∃ k : Nat, k ≤ N2 ∧ i = .int .i64 k ∧ Sep w wr (fun _ => False) (blk w12.heap.size 43 #[.int .u64 ck2, .int .u32 er2, .int .u64 id2, .slice A12 N2 c12] :: own 48 6 A12 N2 c12 (vrow vs2) :: blk w10.heap.size 45 #[.int .u64 ck2, .int .u32 er2, .int .u64 id2, .slice A10 N2 c10] :: own 48 6 A10 N2 c10 (vrow vs2) :: Go.Proofs.Ytankfmfenbhkgaa.tape g8 tl :: blk (w.heap.size + 1) 43 #[.int .u64 ck, .int .u32 er, .int .u64 id, .slice B3 n c3] :: own 48 6 B3 n c3 (vrow vs) :: blk w.heap.size 43 #[.int .u64 ck, .int .u32 er, .int .u64 id, .slice A n c] :: [])) (fun i _ => N2 - (intOf i).toNat)
      case atStart => exact ⟨0, Nat.zero_le _, rfl, HS13⟩
      case round =>
        obtain ⟨k2, hk2, rfl, HS14⟩ := hrel
        clear HS13 p3
        have p0 := HS14.up2.blk_at 0 rfl
        have p1 := HS14.up2.blk_at 1 rfl
        have p2 := HS14.up2.blk_at 2 rfl
        have p3 := HS14.up2.blk_at 3 rfl
        by_cases hlt2 : k2 < N2
        · have hrb : Rb w (fun _ => False) (blk w12.heap.size 43 #[.int .u64 ck2, .int .u32 er2, .int .u64 id2, .slice A12 N2 c12] :: own 48 6 A12 N2 c12 (vrow vs2) :: blk w10.heap.size 45 #[.int .u64 ck2, .int .u32 er2, .int .u64 id2, .slice A10 N2 c10] :: own 48 6 A10 N2 c10 (vrow vs2) :: Go.Proofs.Ytankfmfenbhkgaa.tape g8 tl :: blk (w.heap.size + 1) 43 #[.int .u64 ck, .int .u32 er, .int .u64 id, .slice B3 n c3] :: own 48 6 B3 n c3 (vrow vs) :: blk w.heap.size 43 #[.int .u64 ck, .int .u32 er, .int .u64 id, .slice A n c] :: []) 6 A10 N2 (vrow vs2) := Rb.i3
          obtain ⟨ad, v, rfl, hvk, x0, x1, x2, x3, x4, x5⟩ := hrb.volAt HS14 hlt2
          have hr0 := HRT.out v (List.mem_of_getElem? hvk)
          rw [hr0] at x3
          have hj : (k2 : Int) < N2 := by omega
          have j0 : (0 : Int) ≤ k2 := by omega
          clear hvk hrb hr0
          go_wp2
          go_roundw
          case rel => exact ⟨k2 + 1, by omega, by go_num, HS14⟩
          case measure => simp [intOf]; omega
        · obtain rfl : N2 = k2 := by omega
          have hj : ¬ (N2 : Int) < N2 := by omega
          have q0 := HS14.blk_at 0 rfl
          have q1 := HS14.blk_at 1 rfl
          have q2 := HS14.blk_at 2 rfl
          have q3 := HS14.blk_at 3 rfl
          go_wp2_with fail
          refine (rsameA_true (vs := vs2) HS14 Rb.i3 Rb.i1 (by omega)).mono ?_
          rintro e w15 ⟨rfl, HS15⟩
          go_wp2_with fail
          refine (len_calls HS15.up4).mono ?_
          rintro e w16 ⟨rfl, rfl⟩
          go_wp2_with fail
          refine (wakes_calls HS15).mono ?_
          rintro e w17 ⟨rfl, HS17⟩
          go_wp2
          go_ret
          exact ⟨rfl, HS17.below⟩
end Go.Proofs.Ytankfmfenbhkgaa
