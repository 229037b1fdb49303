/-
  Contracts of a space's Copy and New.
-/
import Derived.Test.YtepooiiaijbljaaFreeU
namespace Go.Proofs.Ytepooiiaijbljaa
open Go.RowKit
set_option linter.unusedVariables false
set_option linter.unusedSimpArgs false
section
variable {w0 w : World} {O : Nat → Prop} {L : List Asr} {g : Nat} {is : List Bool}

set_option maxHeartbeats 4000000 in
theorem copy_calls (HS : Sep w0 w O (space g is :: L)) :
    Calls Try.prog 38 #[.pointer (some ⟨g, 0, none⟩)] w fun e w' => ∃ g', e = .returned (.pointer (some ⟨g', 0, none⟩)) ∧ Sep w0 w' O (space g' is :: space g is :: L) := by
  have hR := right_space HS
  obtain ⟨hp, IA, ci, hok, hle, H⟩ := HS.unspace
  obtain ⟨A, c, HB⟩ := H.up1.unheap
  have a0 := HB.up1.blkAt 0 rfl
  have a1 := HB.up1.blkAt 1 rfl
  have a2 := HB.up1.blkAt 2 rfl
  have a3 := HB.up1.blkAt 3 rfl
  have hpl := hok.len
  have HOK := hid hok
  have HX := HB.alloc #[.slice IA is.length ci, .int .i64 (is.count true), .slice A hp.length c, .bool true] 73
  have q0 := HX.drew.up2.blkAt 0 rfl
  have q2 := HX.drew.up2.blkAt 2 rfl
  obtain ⟨gx, hgx⟩ : ∃ gx, gx = w.heap.size := ⟨_, rfl⟩
  obtain ⟨wx, hwx⟩ : ∃ wx, wx = w.alloc (.cells #[.slice IA is.length ci, .int .i64 (is.count true), .slice A hp.length c, .bool true] 73) := ⟨_, rfl⟩
  rw [← hgx, ← hwx] at HX
  rw [← hwx] at q0 q2
  have HGX := hid hgx
  have HWX := hid hwx
  clear hok hgx hwx HB H
  generalize hcn : is.count true = cn at *
  have HCN := hid hcn
  clear hcn
  go_enter Try.func38, Try.ntmps38
  go_wp2_with fail
  refine hR.mono ?_
  rintro e w' ⟨rfl, rfl⟩
  clear hR HS
  go_upto_region 4 with (fail)
  rw [← HGX.out, ← HWX.out]
  clear a0 a1 a2 a3
  go_region_law (first
    | (go_simp; go_at_call 37; refine (cloneb_calls HX.drew Rb.i3 (by omega)).mono ?_; rintro e w1 ⟨B1, b1, rfl, HS1⟩; have r0 := HS1.up3.blkAt 0 rfl; have r2 := HS1.up3.blkAt 2 rfl)
    | (go_simp; go_at_call 49; refine (clonei_calls HS1 Rb.i2 (by omega)).mono ?_; rintro e w2 ⟨B2, b2, rfl, HS2⟩; have y0 := HS2.up2.blk_frozen 0; have z0 := HS2.up2.blkAt 0 rfl; have HV := HS2.up2.blk_set 0 (.slice B1 is.length b1); have y2 := HV.blk_frozen 2; have z2 := HV.blkAt 2 rfl))
  all_goals
    have HW := HV.blk_set 2 (.slice B2 hp.length b2)
    clear y0 z0 y2 z2 r0 r2 q0 q2 HS1 HS2 HV
    go_wp2
    go_ret
    have h1 := Sep.heaped (HW.sel 6 [1, 0, 2, 3, 4, 5])
    rw [← HCN.out] at h1
    have h2 := Sep.spaced HOK.out hle h1.up1
    have h3 := Sep.heaped (h2.sel 4 [1, 2, 3, 0])
    exact ⟨gx, rfl, (Sep.spaced HOK.out hle h3.up1).up1⟩

theorem new_bad {x : Int} (h : x < 0 ∨ 1024 < x) : Calls Try.prog 44 #[.int .i64 x] w fun e w' => e = .returned (.tuple #[.pointer none, .int .i64 1]) ∧ w' = w := by
  rcases h with h | h
  · go_enter Try.func44, Try.ntmps44
    go_wp2
    go_ret2
    exact ⟨rfl, rfl⟩
  · have h0 : ¬ x < 0 := by omega
    go_enter Try.func44, Try.ntmps44
    go_wp2
    go_ret2
    exact ⟨rfl, rfl⟩
theorem halves (m k : Nat) (h : k < m) : (List.replicate k true ++ List.replicate (m - k) false).set k true = List.replicate (k + 1) true ++ List.replicate (m - (k + 1)) false := by
  obtain ⟨d, rfl⟩ : ∃ d, m = k + 1 + d := ⟨m - (k + 1), by omega⟩
  rw [show k + 1 + d - k = d + 1 by omega, show k + 1 + d - (k + 1) = d by omega, List.set_append_right _ _ (by simp), List.length_replicate, Nat.sub_self, List.replicate_succ (n := d), List.set_cons_zero, List.replicate_succ' (n := k), List.append_assoc]
  rfl

set_option maxHeartbeats 2000000 in
theorem newf_calls {m : Nat} (HS : Sep w0 w O L) (hm : m ≤ 1024) : Calls Try.prog 44 #[.int .i64 m] w fun e w' => ∃ g, e = .returned (.tuple #[.pointer (some ⟨g, 0, none⟩), .int .i64 0]) ∧ Sep w0 w' O (space g (List.replicate m true) :: L) := by
  obtain ⟨i0, hi0, hz0, hz1, hz2⟩ := info_parts info_int
  have hmk := mk_bool m (by omega)
  have HA := HS.lit (Array.replicate m (.bool false)) 4 1 m (by simp) (by simp only [maxLen]; omega)
  have HB := (HA.allocAt #[.slice (some ⟨w.heap.size, 0, none⟩) m m, .int .i64 m, .slice none 0 0, .bool true] 73 (B := w.heap.size + 1) (by simp)).nil 3 1
  obtain ⟨b, hb⟩ : ∃ b, b = w.heap.size := ⟨_, rfl⟩
  obtain ⟨g, hg⟩ : ∃ g, g = w.heap.size + 1 := ⟨_, rfl⟩
  have h0 : ¬ (m : Int) < 0 := by omega
  have h1 : ¬ (1024 : Int) < m := by omega
  have HG := hid hg
  have HBB := hid hb
  have HC : Sep w0 ((w.alloc (.cells (Array.replicate m (.bool false)) 4)).alloc (.cells #[.slice (some ⟨w.heap.size, 0, none⟩) m m, .int .i64 m, .slice none 0 0, .bool true] 73)) O (own 4 1 (some ⟨w.heap.size, 0, none⟩) m m (bv (List.replicate 0 true ++ List.replicate (m - 0) false)) :: own 3 1 none 0 0 (kv .i64 (rngL 0)) :: blk (w.heap.size + 1) 73 #[.slice (some ⟨w.heap.size, 0, none⟩) m m, .int .i64 m, .slice none 0 0, .bool true] :: L) := by
    have := HB.sel 3 [2, 0, 1]
    simpa [rngL, kv] using this
  rw [← hg, ← hb] at HC
  clear HA HB HS hb hg
  go_enter Try.func44, Try.ntmps44
  go_wp2_with fail
  rw [← HG.out, ← HBB.out]
  go_loopw [18] (fun v wr => ∃ (k ck : Nat) (Q : Option Addr), k ≤ m ∧ v = .int .i64 k ∧ Sep w0 wr O (own 4 1 (some ⟨b, 0, none⟩) m m (bv (List.replicate k true ++ List.replicate (m - k) false)) :: own 3 1 Q k ck (kv .i64 (rngL k)) :: blk g 73 #[.slice (some ⟨b, 0, none⟩) m m, .int .i64 m, .slice Q k ck, .bool true] :: L)) (fun v _ => m - (intOf v).toNat)
  case atStart => exact ⟨0, 0, none, Nat.zero_le _, rfl, HC⟩
  case round =>
    obtain ⟨k, ck, Q, hk, rfl, H1⟩ := hrel
    clear HC hmk
    have a0 := H1.up2.blkAt 0 rfl
    have a2 := H1.up2.blkAt 2 rfl
    by_cases hlt : k < m
    · have hk1 : (k : Int) < m := by omega
      have hll : (List.replicate k true ++ List.replicate (m - k) false).length = m := by simp; omega
      have ck0 : w.cell? ⟨b, k, none⟩ = w.cell? ⟨b, k, none⟩ := rfl
      have H1' : Sep w0 wr O (own 4 1 (some ⟨b, 0, none⟩) (List.replicate k true ++ List.replicate (m - k) false).length m (bv (List.replicate k true ++ List.replicate (m - k) false)) :: own 3 1 Q k ck (kv .i64 (rngL k)) :: blk g 73 #[.slice (some ⟨b, 0, none⟩) m m, .int .i64 m, .slice Q k ck, .bool true] :: L) := by rw [hll]; exact H1
      have cc := H1'.bcell (j := k) (by omega)
      have cz := H1.own_frozen k
      have H2 := H1'.bset k true
      rw [halves m k hlt, hll] at H2
      have b2 := H2.up2.blkAt 2 rfl
      have H3 := (H2.up1.litB #[.int .i64 k] 3 1 1 rfl (by decide) (B := wr.heap.size) (by simp)).up1
      have hrd := H3.rd1
      have hb1 : k + 1 ≤ maxLen := by simp only [maxLen]; omega
      have hb2 : (k + 1) * 8 ≤ 140737488355328 := by omega
      clear ck0
      go_wp2_with (at_builtin; go_loud (refine wpList_append_sep rfl (.tmp 31) (.tmp 33) 71 rfl 3 i0 _ 1 8 Try.underlying71 hi0 hz0 hz1 hz2 rfl (by decide) rfl H3 rfl hrd (kv_one .i64 [(k : Int)]) hb1 hb2 rfl ((kv_append .i64 (rngL k) [(k : Int)]).trans (congrArg (kv .i64) (rngL_succ k).symm)) ?_); intro Q' cq' w6 HS7 hsz7; have c2 := HS7.up3.blkAt 2 rfl; have z2 := HS7.up3.blk_frozen 2)
      have HW := HS7.up3.blk_set 2 (.slice Q' (k + 1) cq')
      go_roundw
      case rel => exact ⟨k + 1, cq', Q', by omega, by go_num, HW.sel 4 [3, 1, 0]⟩
      case measure => simp [intOf]; omega
    · obtain rfl : k = m := by omega
      have hk1 : ¬ (k : Int) < k := by omega
      have hl : (rngL k).length = k := rngL_len k
      have H2 : Sep w0 wr O (heapAt g (some ⟨b, 0, none⟩) k k k (rngL k) :: own 4 1 (some ⟨b, 0, none⟩) k k (bv (List.replicate k true)) :: L) := by
        refine Sep.heaped (A := Q) (c := ck) ?_
        rw [hl]
        have := H1.sel 3 [1, 2, 0]
        rw [Nat.sub_self, List.replicate_zero, List.append_nil] at this
        exact this
      have hI := init_calls (hmeth w0 O g (some ⟨b, 0, none⟩) k k k) H2 (by omega)
      rw [hl] at hI
      have HI := hid hI
      clear hI H1
      go_wp2_with fail
      refine HI.out.mono ?_
      rintro e w1 ⟨rfl, H5⟩
      go_wp2
      go_ret2
      refine ⟨g, rfl, Sep.spaced (SpOk.new k) (by simp; omega) (IA := some ⟨b, 0, none⟩) (ci := k) ?_⟩
      rw [List.length_replicate, List.count_replicate_self]
      exact H5.up1
end
end Go.Proofs.Ytepooiiaijbljaa
