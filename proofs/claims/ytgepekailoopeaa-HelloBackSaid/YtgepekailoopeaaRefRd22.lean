/-
  Contract of cisternref22.Read: names, nothing, and what is none.
-/
import Derived.Test.YtgepekailoopeaaHelA
namespace Go.Proofs.Ytgepekailoopeaa
open Go.RowKit
set_option linter.unusedVariables false
set_option linter.unusedSimpArgs false
theorem info_rwish : (Try.prog.info? 55).map (·.size) = some 3 := by kernel_rfl
section
variable {w0 w : World} {O : Nat → Prop} {L : List Asr}
set_option maxHeartbeats 4000000 in
set_option maxRecDepth 100000 in
theorem rread_1 {A : Option Addr} {n c : Nat} {d : List Int} (HS : Sep w0 w O L) (hr : Rb w0 O L 1 A n (by8 d)) :
    Calls Try.prog 47 #[.agg #[.int .u32 1, .slice A n c]] w (WiOut w0 O 71 (readW 1 d) L) := by
  have hn := hr.klen HS
  by_cases h : 16 < n
  · have e : readW 1 d = noWi 3 := by unfold readW; rw [if_pos rfl, if_pos (by omega)]
    rw [e]
    obtain ⟨Q, hQ⟩ : ∃ Q : Ending → World → Prop, Q = WiOut w0 O 71 (noWi 3) L := ⟨_, rfl⟩
    have HQ := hid hQ
    rw [← hQ]
    have i1 : (16 : Int) < n := by omega
    have HR := ((HS.alloc #[.int .u32 1, .slice A n c] 25).allocB zWish 55 (B := w.heap.size + 1) (by simp)).allocB #[.int .u32 1, .string eStr, .slice none 0 0] 55 (B := w.heap.size + 2) (by simp)
    clear h hn e hQ
    go_enter Try.func47, Try.ntmps47
    go_wp2
    (try simp only [Exit.inBlock, Exit.then])
    refine bodyPost_ret (results_rowa rfl _ _ _ _ _ _ _ rfl HR.up1.blk_heap Try.underlying55 rfl info_rwish) rfl ?_
    rw [HQ.out]
    exact ⟨none, 0, rfl, HR.drop.drop.drop.nil _ _⟩
  · have e : readW 1 d = ⟨0, 1, strOfNums d, []⟩ := by unfold readW; rw [if_pos rfl, if_neg (by omega)]
    rw [e]
    have i1 : ¬ (16 : Int) < n := by omega
    have HS0 := ((HS.alloc #[.int .u32 1, .slice A n c] 25).allocB zWish 55 (B := w.heap.size + 1) (by simp)).allocB #[.int .u32 1, .string eStr, .slice none 0 0] 55 (B := w.heap.size + 2) (by simp)
    have hs := run_str (P := Try.prog) (c := c) (hr.cons.cons.cons.read HS0) 23 9 5 Try.underlying23 Try.underlying5 Try.underlying9
    generalize strOfNums d = s at *
    obtain ⟨Q, hQ⟩ : ∃ Q : Ending → World → Prop, Q = WiOut w0 O 71 ⟨0, 1, s, []⟩ L := ⟨_, rfl⟩
    have HQ := hid hQ
    rw [← hQ]
    have HR := ((HS.alloc #[.int .u32 1, .slice A n c] 25).allocB #[.int .u32 1, .string s, .slice none 0 0] 55 (B := w.heap.size + 1) (by simp)).allocB #[.int .u32 1, .string s, .slice none 0 0] 55 (B := w.heap.size + 2) (by simp)
    clear h hn e hQ
    go_enter Try.func47, Try.ntmps47
    go_wp2
    (try simp only [Exit.inBlock, Exit.then])
    refine bodyPost_ret (results_rowa rfl _ _ _ _ _ _ _ rfl HR.up1.blk_heap Try.underlying55 rfl info_rwish) rfl ?_
    rw [HQ.out]
    exact ⟨none, 0, rfl, HR.drop.drop.drop.nil _ _⟩

set_option maxHeartbeats 4000000 in
set_option maxRecDepth 100000 in
theorem rread_23 {op : Int} {A : Option Addr} {n c : Nat} {d : List Int} (ho : op = 2 ∨ op = 3) (HS : Sep w0 w O L) (hr : Rb w0 O L 1 A n (by8 d)) :
    Calls Try.prog 47 #[.agg #[.int .u32 op, .slice A n c]] w (WiOut w0 O 71 (readW op d) L) := by
  have hn := hr.klen HS
  by_cases h : 0 < n
  · have e : readW op d = noWi 5 := by unfold readW; rw [if_neg (by omega), if_pos ho, if_pos (by omega)]
    rw [e]
    obtain ⟨Q, hQ⟩ : ∃ Q : Ending → World → Prop, Q = WiOut w0 O 71 (noWi 5) L := ⟨_, rfl⟩
    have HQ := hid hQ
    rw [← hQ]
    have i1 : (0 : Int) < n := by omega
    have HR := ((HS.alloc #[.int .u32 op, .slice A n c] 25).allocB zWish 55 (B := w.heap.size + 1) (by simp)).allocB #[.int .u32 op, .string eStr, .slice none 0 0] 55 (B := w.heap.size + 2) (by simp)
    clear h hn e hQ
    rcases ho with rfl | rfl
    all_goals
      go_enter Try.func47, Try.ntmps47
      go_wp2
      (try simp only [Exit.inBlock, Exit.then])
      refine bodyPost_ret (results_rowa rfl _ _ _ _ _ _ _ rfl HR.up1.blk_heap Try.underlying55 rfl info_rwish) rfl ?_
      rw [HQ.out]
      exact ⟨none, 0, rfl, HR.drop.drop.drop.nil _ _⟩
  · have e : readW op d = ⟨0, op, eStr, []⟩ := by unfold readW; rw [if_neg (by omega), if_pos ho, if_neg (by omega)]
    rw [e]
    have i1 : ¬ (0 : Int) < n := by omega
    obtain ⟨Q, hQ⟩ : ∃ Q : Ending → World → Prop, Q = WiOut w0 O 71 ⟨0, op, eStr, []⟩ L := ⟨_, rfl⟩
    have HQ := hid hQ
    rw [← hQ]
    have HR := ((HS.alloc #[.int .u32 op, .slice A n c] 25).allocB #[.int .u32 op, .string eStr, .slice none 0 0] 55 (B := w.heap.size + 1) (by simp)).allocB #[.int .u32 op, .string eStr, .slice none 0 0] 55 (B := w.heap.size + 2) (by simp)
    clear h hn e hQ
    rcases ho with rfl | rfl
    all_goals
      go_enter Try.func47, Try.ntmps47
      go_wp2
      (try simp only [Exit.inBlock, Exit.then])
      refine bodyPost_ret (results_rowa rfl _ _ _ _ _ _ _ rfl HR.up1.blk_heap Try.underlying55 rfl info_rwish) rfl ?_
      rw [HQ.out]
      exact ⟨none, 0, rfl, HR.drop.drop.drop.nil _ _⟩

set_option maxHeartbeats 4000000 in
set_option maxRecDepth 100000 in
theorem rread_none {op : Int} {A : Option Addr} {n c : Nat} {d : List Int} (HS : Sep w0 w O L) (h1 : op ≠ 1) (h2 : op ≠ 2) (h3 : op ≠ 3) (h6 : op ≠ 6) (h7 : op ≠ 7) :
    Calls Try.prog 47 #[.agg #[.int .u32 op, .slice A n c]] w (WiOut w0 O 71 (readW op d) L) := by
  have e : readW op d = noWi 6 := by unfold readW; rw [if_neg h1, if_neg (by omega), if_neg (by omega)]
  rw [e]
  obtain ⟨Q, hQ⟩ : ∃ Q : Ending → World → Prop, Q = WiOut w0 O 71 (noWi 6) L := ⟨_, rfl⟩
  have HQ := hid hQ
  rw [← hQ]
  have b1 : (op == 1) = false := by simpa using h1
  have b2 : (op == 2) = false := by simpa using h2
  have b3 : (op == 3) = false := by simpa using h3
  have b6 : (op == 6) = false := by simpa using h6
  have b7 : (op == 7) = false := by simpa using h7
  have HR := ((HS.alloc #[.int .u32 op, .slice A n c] 25).allocB zWish 55 (B := w.heap.size + 1) (by simp)).allocB #[.int .u32 op, .string eStr, .slice none 0 0] 55 (B := w.heap.size + 2) (by simp)
  clear e hQ h1 h2 h3 h6 h7
  go_enter Try.func47, Try.ntmps47
  go_wp2
  (try simp only [Exit.inBlock, Exit.then])
  refine bodyPost_ret (results_rowa rfl _ _ _ _ _ _ _ rfl HR.up1.blk_heap Try.underlying55 rfl info_rwish) rfl ?_
  rw [HQ.out]
  exact ⟨none, 0, rfl, HR.drop.drop.drop.nil _ _⟩
end
end Go.Proofs.Ytgepekailoopeaa
