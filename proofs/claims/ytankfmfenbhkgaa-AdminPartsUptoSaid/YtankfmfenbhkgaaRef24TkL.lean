/-
  Contract of cisternref24.TakeAnswer: too many volumes.
-/
import Derived.Test.YtankfmfenbhkgaaRef24TkN
import Derived.Deep.DeepCutAuto
import Derived.Deep.RegionHeldLaw
namespace Go.Proofs.Ytankfmfenbhkgaa
open Go.RowKit
set_option linter.unusedVariables false
set_option linter.unusedSimpArgs false
section
variable {w0 w : World} {O : Nat → Prop} {L : List Asr}
set_option maxHeartbeats 4000000 in
set_option maxRecDepth 100000 in
theorem ref24takeA_long {ad : Addr} {n c N : Nat} {l : List Int} (HS : Sep w0 w O L) (hr : Rb w0 O L 1 (some ad) n (by8 l)) (hb : Byt l) (hc : n ≤ c) (hl : n ≤ 140737488355328) (h25 : 25 ≤ n)
    (hm : num (l.take 4) = 1128878913) (hN : fN l 24 1 = N) (h16 : 16 < N) :
    Calls Try.prog 19 #[.slice (some ad) n c] w fun e w' => e = .returned (.tuple #[.agg zAns, .int .i64 0, .int .i64 3]) ∧ Sep w0 w' O L := by
  have hn := hr.klen HS
  have HSa := HS.alloc zAns 43
  have i1 : (4 : Int) ≤ n := by omega
  have i1' : ¬ (n : Int) < 4 := by omega
  have i2 : (n : Int) ≤ c := by omega
  have i3 : (0 : Int) ≤ 4 := by decide
  have i4 : (4 : Int) ≤ c := by omega
  have i8 : (8 : Int) ≤ c := by omega
  have i16 : (16 : Int) ≤ c := by omega
  have i24 : (24 : Int) ≤ c := by omega
  have c4 : ¬ c = 4 := by omega
  have c8 : ¬ c = 8 := by omega
  have c16 : ¬ c = 16 := by omega
  have hs := run_str (P := Try.prog) (c := c) ((hr.ktake (m := 4) (by omega)).cons.read HSa) 25 9 5 Try.underlying25 Try.underlying5 Try.underlying9
  have hs4 : l.take 4 = [67, 73, 83, 65] := num4_inj (hb.take 4) (by rw [List.length_take]; omega) rfl (by decide) (hm.trans (by decide))
  rw [hs4, show strOfNums [67, 73, 83, 65] = ByteArray.mk #[67, 73, 83, 65] from by decide] at hs
  have j1 : ¬ (n : Int) < 25 := by omega
  have b4 := fN_bd hb 4 4
  simp only [show (256 : Int) ^ 4 = 4294967296 from rfl] at b4
  have y0 : IntKind.u32.wrap (fN l 4 4) = fN l 4 4 := by rw [IntKind.wrap_u32]; omega
  have bN := fN_bd hb 24 1
  rw [hN] at bN
  have y1 : IntKind.i64.wrap (N : Int) = N := by rw [IntKind.wrap_i64]; omega
  have hN16 : 16 < (N : Int) := by omega
  have o24 : (24 : Int) < n := by omega
  obtain ⟨g0, hg0⟩ : ∃ g0, g0 = w.heap.size := ⟨_, rfl⟩
  clear hm hs4 h16
  go_enter Try.func19, Try.ntmps19
  go_upto_region 5 with (fail)
  go_cut [5] (fun v wx => v = .pointer (some ⟨w.heap.size + 1, 0, none⟩) ∧ Sep w0 wx O (blk (w.heap.size + 1) 43 #[.int .u64 (fN l 8 8), .int .u32 (fN l 4 4), .int .u64 (fN l 16 8), .slice none 0 0] :: blk w.heap.size 43 zAns :: L))
  case first =>
    have HF := HSa.allocB #[.int .u64 (fN l 8 8), .int .u32 (fN l 4 4), .int .u64 (fN l 16 8), .slice none 0 0] 43 (B := w.heap.size + 1) (by simp)
    go_region_held_law (fun w' => Sep w0 w' O (blk w.heap.size 43 zAns :: L)) (first | exact HSa.drew | exact (HSa.alloc_ _).drew)
      (first
        | (go_at_call 35; refine (rnum_sub (by assumption) hr.cons hb h25 (by rfl)).mono ?_; rintro e w1 ⟨rfl, rfl⟩))
    all_goals
      go_wp2
      go_meet
      case rel => exact ⟨rfl, HF.drew⟩
  case rest =>
    obtain ⟨rfl, HS1⟩ := hcut
    have k24 := Rb.byteAt hr.cons.cons HS1 (o := 24) (by omega) (by decide)
    rw [hN] at k24
    have HB := HS1.up1
    have c0 := HB.blk_at 0 rfl
    have c1 := HB.blk_at 1 rfl
    have c2 := HB.blk_at 2 rfl
    have c3 := HB.blk_at 3 rfl
    have f0 := HB.blk_frozen 0
    have f1 := HB.blk_frozen 1
    have f2 := HB.blk_frozen 2
    have f3 := HB.blk_frozen 3
    have HR := HB.blk_set4 (.int .u64 0) (.int .u32 0) (.int .u64 0) (.slice none 0 0)
    go_wp2
    (try simp only [Exit.inBlock, Exit.then])
    refine bodyPost_ret (results_row2 rfl _ _ _ _ _ _ _ rfl HR.blk_heap Try.underlying43 rfl info_rans) rfl ?_
    exact ⟨rfl, HR.drop.drop⟩
end
end Go.Proofs.Ytankfmfenbhkgaa
