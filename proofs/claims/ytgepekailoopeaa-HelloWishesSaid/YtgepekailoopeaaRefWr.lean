/-
  Contract of cisternref22.Write.
-/
import Derived.Test.YtgepekailoopeaaHelW
namespace Go.Proofs.Ytgepekailoopeaa
open Go.RowKit
set_option linter.unusedVariables false
set_option linter.unusedSimpArgs false
section
variable {w0 w : World} {O : Nat → Prop} {L : List Asr}

set_option maxHeartbeats 4000000 in
set_option maxRecDepth 100000 in
theorem rwrite_err {op E : Int} {nm : ByteArray} {A : Option Addr} {n c : Nat} (HS : Sep w0 w O L) (hn : n ≤ 70368744177664) (h : op = 1 ∧ (0 < n ∧ E = 1 ∨ ¬ 0 < n ∧ 16 < nm.size ∧ E = 3) ∨ (op = 2 ∨ op = 3) ∧ (0 < n ∧ E = 1 ∨ ¬ 0 < n ∧ 0 < nm.size ∧ E = 1) ∨ (op = 6 ∨ op = 7) ∧ (16 < nm.size ∧ E = 3 ∨ ¬ 16 < nm.size ∧ 256 < 6 + nm.size + 2 * n ∧ E = 3) ∨ op ≠ 1 ∧ op ≠ 2 ∧ op ≠ 3 ∧ op ≠ 6 ∧ op ≠ 7 ∧ E = 6) :
    Calls Try.prog 45 #[.agg #[.int .u32 op, .string nm, .slice A n c]] w (RoOut w0 O (noRo E) L) := by
  obtain ⟨Q, hQ⟩ : ∃ Q : Ending → World → Prop, Q = RoOut w0 O (noRo E) L := ⟨_, rfl⟩
  have HQ := hid hQ
  rw [← hQ]
  clear hQ
  have HSa := (HS.alloc #[.int .u32 op, .string nm, .slice A n c] 55).allocB #[.int .u32 0, .slice none 0 0] 25 (B := w.heap.size + 1) (by simp)
  obtain ⟨A5, c5, w5, hcv, HS5, hc5⟩ := HSa.strb (P := Try.prog) 9 23 5 nm Try.underlying9 Try.underlying23 Try.underlying5
  have a0 := HS5.up2.blk_at 0 rfl
  have a1 := HS5.up2.blk_at 1 rfl
  have a2 := HS5.up2.blk_at 2 rfl
  have cz0 := HS5.up1.blk_at 0 rfl
  have cz1 := HS5.up1.blk_at 1 rfl
  have fz0 := HS5.up1.blk_frozen 0
  have fz1 := HS5.up1.blk_frozen 1
  have HR := HS5.up1.blk_set2 (.int .u32 0) (.slice none 0 0)
  have i1 : IntKind.i64.wrap (2 * (n : Int)) = 2 * n := by rw [IntKind.wrap_i64]; omega
  have i2 : IntKind.i64.wrap (256 - 2 * (n : Int)) = 256 - 2 * n := by rw [IntKind.wrap_i64]; omega
  clear hc5
  rcases h with ⟨rfl, ⟨h, rfl⟩ | ⟨h, h2, rfl⟩⟩ | ⟨rfl | rfl, ⟨h, rfl⟩ | ⟨h, h2, rfl⟩⟩ | ⟨rfl | rfl, ⟨h, rfl⟩ | ⟨h, h2, rfl⟩⟩ | ⟨h1, h2, h3, h6, h7, rfl⟩
  · have j1 : (0 : Int) < n := by omega
    clear h
    go_enter Try.func45, Try.ntmps45
    go_wp2
    (try simp only [Exit.inBlock, Exit.then])
    refine bodyPost_ret (results_rowa rfl _ _ _ _ _ _ _ rfl HR.blk_heap Try.underlying25 rfl info_rraw) rfl ?_
    rw [HQ.out]
    exact roNone HR.drop.drop.drop
  · have j1 : ¬ (0 : Int) < n := by omega
    have j2 : 16 < (nm.size : Int) := by omega
    clear h h2
    go_enter Try.func45, Try.ntmps45
    go_wp2
    (try simp only [Exit.inBlock, Exit.then])
    refine bodyPost_ret (results_rowa rfl _ _ _ _ _ _ _ rfl HR.blk_heap Try.underlying25 rfl info_rraw) rfl ?_
    rw [HQ.out]
    exact roNone HR.drop.drop.drop
  · have j1 : (0 : Int) < n := by omega
    clear h
    go_enter Try.func45, Try.ntmps45
    go_wp2
    (try simp only [Exit.inBlock, Exit.then])
    refine bodyPost_ret (results_rowa rfl _ _ _ _ _ _ _ rfl HR.blk_heap Try.underlying25 rfl info_rraw) rfl ?_
    rw [HQ.out]
    exact roNone HR.drop.drop.drop
  · have j1 : ¬ (0 : Int) < n := by omega
    have j2 : 0 < (nm.size : Int) := by omega
    clear h h2
    go_enter Try.func45, Try.ntmps45
    go_wp2
    (try simp only [Exit.inBlock, Exit.then])
    refine bodyPost_ret (results_rowa rfl _ _ _ _ _ _ _ rfl HR.blk_heap Try.underlying25 rfl info_rraw) rfl ?_
    rw [HQ.out]
    exact roNone HR.drop.drop.drop
  · have j1 : (0 : Int) < n := by omega
    clear h
    go_enter Try.func45, Try.ntmps45
    go_wp2
    (try simp only [Exit.inBlock, Exit.then])
    refine bodyPost_ret (results_rowa rfl _ _ _ _ _ _ _ rfl HR.blk_heap Try.underlying25 rfl info_rraw) rfl ?_
    rw [HQ.out]
    exact roNone HR.drop.drop.drop
  · have j1 : ¬ (0 : Int) < n := by omega
    have j2 : 0 < (nm.size : Int) := by omega
    clear h h2
    go_enter Try.func45, Try.ntmps45
    go_wp2
    (try simp only [Exit.inBlock, Exit.then])
    refine bodyPost_ret (results_rowa rfl _ _ _ _ _ _ _ rfl HR.blk_heap Try.underlying25 rfl info_rraw) rfl ?_
    rw [HQ.out]
    exact roNone HR.drop.drop.drop
  · have j1 : 16 < (nm.size : Int) := by omega
    clear h
    go_enter Try.func45, Try.ntmps45
    go_wp2
    (try simp only [Exit.inBlock, Exit.then])
    refine bodyPost_ret (results_rowa rfl _ _ _ _ _ _ _ rfl HR.blk_heap Try.underlying25 rfl info_rraw) rfl ?_
    rw [HQ.out]
    exact roNone HR.drop.drop.drop
  · have j1 : ¬ 16 < (nm.size : Int) := by omega
    have j2 : 256 - 2 * (n : Int) < nm.size + 6 := by omega
    have j3 : IntKind.i64.wrap ((nm.size : Int) + 6) = nm.size + 6 := by rw [IntKind.wrap_i64]; omega
    clear h h2
    go_enter Try.func45, Try.ntmps45
    go_wp2
    (try simp only [Exit.inBlock, Exit.then])
    refine bodyPost_ret (results_rowa rfl _ _ _ _ _ _ _ rfl HR.blk_heap Try.underlying25 rfl info_rraw) rfl ?_
    rw [HQ.out]
    exact roNone HR.drop.drop.drop
  · have j1 : 16 < (nm.size : Int) := by omega
    clear h
    go_enter Try.func45, Try.ntmps45
    go_wp2
    (try simp only [Exit.inBlock, Exit.then])
    refine bodyPost_ret (results_rowa rfl _ _ _ _ _ _ _ rfl HR.blk_heap Try.underlying25 rfl info_rraw) rfl ?_
    rw [HQ.out]
    exact roNone HR.drop.drop.drop
  · have j1 : ¬ 16 < (nm.size : Int) := by omega
    have j2 : 256 - 2 * (n : Int) < nm.size + 6 := by omega
    have j3 : IntKind.i64.wrap ((nm.size : Int) + 6) = nm.size + 6 := by rw [IntKind.wrap_i64]; omega
    clear h h2
    go_enter Try.func45, Try.ntmps45
    go_wp2
    (try simp only [Exit.inBlock, Exit.then])
    refine bodyPost_ret (results_rowa rfl _ _ _ _ _ _ _ rfl HR.blk_heap Try.underlying25 rfl info_rraw) rfl ?_
    rw [HQ.out]
    exact roNone HR.drop.drop.drop
  · have b1 : (op == 1) = false := by simpa using h1
    have b2 : (op == 2) = false := by simpa using h2
    have b3 : (op == 3) = false := by simpa using h3
    have b6 : (op == 6) = false := by simpa using h6
    have b7 : (op == 7) = false := by simpa using h7
    clear h1 h2 h3 h6 h7
    go_enter Try.func45, Try.ntmps45
    go_wp2
    (try simp only [Exit.inBlock, Exit.then])
    refine bodyPost_ret (results_rowa rfl _ _ _ _ _ _ _ rfl HR.blk_heap Try.underlying25 rfl info_rraw) rfl ?_
    rw [HQ.out]
    exact roNone HR.drop.drop.drop

set_option maxHeartbeats 4000000 in
set_option maxRecDepth 100000 in
theorem rwrite_1 {nm : ByteArray} {A : Option Addr} {n c : Nat} (HS : Sep w0 w O L) (h : ¬ 0 < n) (h2 : ¬ 16 < nm.size) :
    Calls Try.prog 45 #[.agg #[.int .u32 1, .string nm, .slice A n c]] w (RoOut w0 O ⟨0, 1, strInts nm⟩ L) := by
  obtain ⟨Q, hQ⟩ : ∃ Q : Ending → World → Prop, Q = RoOut w0 O ⟨0, 1, strInts nm⟩ L := ⟨_, rfl⟩
  have HQ := hid hQ
  rw [← hQ]
  clear hQ
  have HSa := (HS.alloc #[.int .u32 1, .string nm, .slice A n c] 55).allocB #[.int .u32 0, .slice none 0 0] 25 (B := w.heap.size + 1) (by simp)
  obtain ⟨A5, c5, w5, hcv, HS5, hc5⟩ := HSa.strb (P := Try.prog) 9 23 5 nm Try.underlying9 Try.underlying23 Try.underlying5
  have a0 := HS5.up2.blk_at 0 rfl
  have a2 := HS5.up2.blk_at 2 rfl
  have cz0 := HS5.up1.blk_at 0 rfl
  have cz1 := HS5.up1.blk_at 1 rfl
  have fz0 := HS5.up1.blk_frozen 0
  have fz1 := HS5.up1.blk_frozen 1
  have HR := HS5.up1.blk_set2 (.int .u32 1) (.slice A5 nm.size c5)
  have j1 : ¬ (0 : Int) < n := by omega
  have j2 : ¬ 16 < (nm.size : Int) := by omega
  clear h h2
  go_enter Try.func45, Try.ntmps45
  go_wp2
  (try simp only [Exit.inBlock, Exit.then])
  refine bodyPost_ret (results_rowa rfl _ _ _ _ _ _ _ rfl HR.blk_heap Try.underlying25 rfl info_rraw) rfl ?_
  rw [HQ.out]
  exact ⟨A5, c5, by rw [strInts_len]; rfl, by rw [strInts_len]; exact hc5, by rw [strInts_len]; exact HR.sel 3 [1]⟩

set_option maxHeartbeats 4000000 in
set_option maxRecDepth 100000 in
theorem rwrite_23 {op : Int} {nm : ByteArray} {A : Option Addr} {n c : Nat} (ho : op = 2 ∨ op = 3) (HS : Sep w0 w O L) (h : ¬ 0 < n) (h2 : ¬ 0 < nm.size) :
    Calls Try.prog 45 #[.agg #[.int .u32 op, .string nm, .slice A n c]] w (RoOut w0 O ⟨0, op, []⟩ L) := by
  obtain ⟨Q, hQ⟩ : ∃ Q : Ending → World → Prop, Q = RoOut w0 O ⟨0, op, []⟩ L := ⟨_, rfl⟩
  have HQ := hid hQ
  rw [← hQ]
  clear hQ
  have HSa := (HS.alloc #[.int .u32 op, .string nm, .slice A n c] 55).allocB #[.int .u32 0, .slice none 0 0] 25 (B := w.heap.size + 1) (by simp)
  obtain ⟨A5, c5, w5, hcv, HS5, hc5⟩ := HSa.strb (P := Try.prog) 9 23 5 nm Try.underlying9 Try.underlying23 Try.underlying5
  have a0 := HS5.up2.blk_at 0 rfl
  have a2 := HS5.up2.blk_at 2 rfl
  have cz0 := HS5.up1.blk_at 0 rfl
  have cz1 := HS5.up1.blk_at 1 rfl
  have fz0 := HS5.up1.blk_frozen 0
  have fz1 := HS5.up1.blk_frozen 1
  have HR := HS5.up1.blk_set2 (.int .u32 op) (.slice none 0 0)
  have j1 : ¬ (0 : Int) < n := by omega
  have j2 : ¬ 0 < (nm.size : Int) := by omega
  clear h h2 hc5
  rcases ho with rfl | rfl
  all_goals
    go_enter Try.func45, Try.ntmps45
    go_wp2
    (try simp only [Exit.inBlock, Exit.then])
    refine bodyPost_ret (results_rowa rfl _ _ _ _ _ _ _ rfl HR.blk_heap Try.underlying25 rfl info_rraw) rfl ?_
    rw [HQ.out]
    exact ⟨none, 0, rfl, Nat.le_refl _, HR.drop.drop.drop.ronil⟩
end
end Go.Proofs.Ytgepekailoopeaa
