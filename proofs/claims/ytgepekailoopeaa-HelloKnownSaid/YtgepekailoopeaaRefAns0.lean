/-
  Contracts of cisternref22.asked, Refuse; hello.Refuse; cisternlaw22.replies.
-/
import Derived.Test.YtgepekailoopeaaSameR
import Derived.Test.YtgepekailoopeaaHelE
namespace Go.Proofs.Ytgepekailoopeaa
open Go.RowKit
set_option linter.unusedVariables false
set_option linter.unusedSimpArgs false
theorem info_rrep3 : (Try.prog.info? 27).map (fun i => (i.zero, i.size, i.bytes)) = some (some (.agg #[.int .u32 0, .int .u32 0, .slice none 0 0]), 3, 32) := by kernel_rfl
def refK (e : Int) : Int := if e = 3 then 2147483657 else if e = 5 then 2147483651 else if e = 6 then 2147483649 else 2147483650
section
variable {w0 w : World} {O : Nat → Prop} {L : List Asr}
set_option maxHeartbeats 2000000 in
theorem rasked_calls {op : Int} {nm : ByteArray} {A : Option Addr} {n c : Nat} {x : Int} {l : List Int} (HS : Sep w0 w O L) (hr : Rb w0 O L 1 A n (kv .u16 l)) (hn : n ≤ 70368744177664) :
    Calls Try.prog 72 #[.agg #[.int .u32 op, .string nm, .slice A n c], .int .u16 x] w fun e w' => e = .returned (.bool (decide (x ∈ l))) ∧ Sep w0 w' O L := by
  have hl := hr.klen HS
  have HX := hid hl
  have HSb := HS.alloc #[.int .u32 op, .string nm, .slice A n c] 55
  obtain ⟨Q, hQ⟩ : ∃ Q : Ending → World → Prop, Q = fun e w' => e = .returned (.bool (decide (x ∈ l))) ∧ Sep w0 w' O L := ⟨_, rfl⟩
  have HQ := hid hQ
  rw [← hQ]
  clear hQ hl
  go_enter Try.func72, Try.ntmps72
  go_wp2_with fail
  go_loopw [5] (fun i wr => ∃ k : Nat, k ≤ n ∧ i = .int .i64 k ∧ Sep w0 wr O (blk w.heap.size 55 #[.int .u32 op, .string nm, .slice A n c] :: L) ∧ Aside (x ∉ l.take k)) (fun i _ => n - (intOf i).toNat)
  case atStart => exact ⟨0, Nat.zero_le _, rfl, HSb, ⟨by simp⟩⟩
  case round =>
    obtain ⟨k, hk, rfl, HSk, hnot⟩ := hrel
    clear HSb
    have a2 := HSk.blk_at 2 rfl
    by_cases hlt : k < n
    · obtain ⟨ad, y, rfl, hy, hmem, hcell⟩ := hr.cons.elemn HSk hlt
      have hj : (k : Int) < n := by omega
      have j0 : (0 : Int) ≤ k := by omega
      have HY := hid hy
      have HMM := hid hmem
      clear hy hmem
      by_cases hxy : x = y
      · subst hxy
        go_wp2
        rw [HQ.out]
        exact ⟨by rw [decide_eq_true HMM.out]; rfl, HSk.drop⟩
      · have hxyB : (y == x) = false := by simpa using fun e => hxy e.symm
        go_wp2
        go_roundw
        case rel =>
          refine ⟨k + 1, by omega, by go_num, HSk, ⟨?_⟩⟩
          rw [List.take_add_one, HY.out]
          intro h
          rcases List.mem_append.1 h with h | h
          · exact hnot.out h
          · simp at h; exact hxy h
        case measure => simp [intOf]; omega
    · obtain rfl : n = k := by omega
      have hj : ¬ (n : Int) < n := by omega
      have h0 := hnot.out
      rw [List.take_of_length_le (by rw [HX.out]; exact Nat.le_refl _)] at h0
      have H0 := hid h0
      clear h0
      go_wp2
      rw [HQ.out]
      exact ⟨by rw [decide_eq_false H0.out], HSk.drop⟩

theorem results_cell1 {P : Program} {fn : Func} {p : Tmp} {ty : TypeId} (h : fn.results = #[.cell p ty]) (tmps : Array Value) (w : World) (g : Nat) (t : TypeId) (cs : Array Value) (fr : Nat × Nat) (d : TypeDesc)
    (hp : tmps.getD p undef = .pointer (some ⟨g, 0, none⟩)) (hg : w.heap[g]? = some (.cells cs t fr))
    (hu : P.underlying ty = some d) (hd : (match d with | .struct _ | .array _ _ => true | _ => false) = true) (hi : (P.info? ty).map (·.size) = some cs.size) :
    (results fn tmps).run P w = .ok (.agg cs) w := by
  have hp' : tmps[p]?.getD undef = .pointer (some ⟨g, 0, none⟩) := by simpa using hp
  simp [results, h, hp', asAddr, run_loadVar_row w g t ty cs fr d hg hu hd hi]

set_option maxHeartbeats 4000000 in
set_option maxRecDepth 100000 in
theorem rrefuse_calls {op e : Int} (HS : Sep w0 w O L) :
    Calls Try.prog 31 #[.int .u32 op, .int .i64 e] w fun en w' => en = .returned (.agg #[.int .u32 op, .int .u32 (refK e), .slice none 0 0]) ∧ Sep w0 w' O L := by
  obtain ⟨K, hK⟩ : ∃ K, K = refK e := ⟨_, rfl⟩
  have HR := (HS.alloc #[.int .u32 op, .int .u32 K, .slice none 0 0] 27).allocB #[.int .u32 op, .int .u32 K, .slice none 0 0] 27 (B := w.heap.size + 1) (by simp)
  rw [← hK]
  unfold refK at hK
  by_cases h3 : e = 3
  · rw [if_pos h3] at hK
    subst h3; subst hK
    go_enter Try.func31, Try.ntmps31
    go_wp2
    (try simp only [Exit.inBlock, Exit.then])
    refine bodyPost_ret (results_cell1 rfl _ _ _ _ _ _ _ rfl HR.up1.blk_heap Try.underlying27 rfl info_rrep) rfl ?_
    exact ⟨rfl, HR.drop.drop⟩
  rw [if_neg h3] at hK
  by_cases h5 : e = 5
  · rw [if_pos h5] at hK
    subst h5; subst hK
    go_enter Try.func31, Try.ntmps31
    go_wp2
    (try simp only [Exit.inBlock, Exit.then])
    refine bodyPost_ret (results_cell1 rfl _ _ _ _ _ _ _ rfl HR.up1.blk_heap Try.underlying27 rfl info_rrep) rfl ?_
    exact ⟨rfl, HR.drop.drop⟩
  rw [if_neg h5] at hK
  by_cases h6 : e = 6
  · rw [if_pos h6] at hK
    subst h6; subst hK
    go_enter Try.func31, Try.ntmps31
    go_wp2
    (try simp only [Exit.inBlock, Exit.then])
    refine bodyPost_ret (results_cell1 rfl _ _ _ _ _ _ _ rfl HR.up1.blk_heap Try.underlying27 rfl info_rrep) rfl ?_
    exact ⟨rfl, HR.drop.drop⟩
  rw [if_neg h6] at hK
  subst hK
  have b3 : (e == 3) = false := by simpa using h3
  have b5 : (e == 5) = false := by simpa using h5
  have b6 : (e == 6) = false := by simpa using h6
  clear h3 h5 h6
  go_enter Try.func31, Try.ntmps31
  go_wp2
  (try simp only [Exit.inBlock, Exit.then])
  refine bodyPost_ret (results_cell1 rfl _ _ _ _ _ _ _ rfl HR.up1.blk_heap Try.underlying27 rfl info_rrep) rfl ?_
  exact ⟨rfl, HR.drop.drop⟩

set_option maxHeartbeats 4000000 in
set_option maxRecDepth 100000 in
theorem hrefuse_calls {op e : Int} (HS : Sep w0 w O L) :
    Calls Try.prog 29 #[.int .u32 op, .int .i64 e] w fun en w' => en = .returned (.agg #[.int .u32 op, .int .u32 (refK e), .slice none 0 0]) ∧ Sep w0 w' O L := by
  obtain ⟨K, hK⟩ : ∃ K, K = refK e := ⟨_, rfl⟩
  have HR := HS.alloc #[.int .u32 op, .int .u32 K, .slice none 0 0] 35
  rw [← hK]
  unfold refK at hK
  by_cases h3 : e = 3
  · rw [if_pos h3] at hK
    subst h3; subst hK
    go_enter Try.func29, Try.ntmps29
    go_wp2
    (try simp only [Exit.inBlock, Exit.then])
    refine bodyPost_ret (results_cell1 rfl _ _ _ _ _ _ _ rfl HR.blk_heap Try.underlying35 rfl info_hrep) rfl ?_
    exact ⟨rfl, HR.drop⟩
  rw [if_neg h3] at hK
  by_cases h5 : e = 5
  · rw [if_pos h5] at hK
    subst h5; subst hK
    go_enter Try.func29, Try.ntmps29
    go_wp2
    (try simp only [Exit.inBlock, Exit.then])
    refine bodyPost_ret (results_cell1 rfl _ _ _ _ _ _ _ rfl HR.blk_heap Try.underlying35 rfl info_hrep) rfl ?_
    exact ⟨rfl, HR.drop⟩
  rw [if_neg h5] at hK
  by_cases h6 : e = 6
  · rw [if_pos h6] at hK
    subst h6; subst hK
    go_enter Try.func29, Try.ntmps29
    go_wp2
    (try simp only [Exit.inBlock, Exit.then])
    refine bodyPost_ret (results_cell1 rfl _ _ _ _ _ _ _ rfl HR.blk_heap Try.underlying35 rfl info_hrep) rfl ?_
    exact ⟨rfl, HR.drop⟩
  rw [if_neg h6] at hK
  subst hK
  have b3 : (e == 3) = false := by simpa using h3
  have b5 : (e == 5) = false := by simpa using h5
  have b6 : (e == 6) = false := by simpa using h6
  clear h3 h5 h6
  go_enter Try.func29, Try.ntmps29
  go_wp2
  (try simp only [Exit.inBlock, Exit.then])
  refine bodyPost_ret (results_cell1 rfl _ _ _ _ _ _ _ rfl HR.blk_heap Try.underlying35 rfl info_hrep) rfl ?_
  exact ⟨rfl, HR.drop⟩

set_option maxHeartbeats 4000000 in
set_option maxRecDepth 100000 in
theorem replies_calls {A : Option Addr} {n c : Nat} {rs : List Rp} (HS : Sep w0 w O L) (hr : Rb w0 O L 3 A n (rrow rs)) (hn : n ≤ 4398046511000) :
    Calls Try.prog 27 #[.slice A n c] w fun e w' => ∃ A' c', e = .returned (.slice A' n c') ∧ Sep w0 w' O (own 27 3 A' n c' (rrow rs) :: L) := by
  obtain ⟨i0, hi0, hz0, hz1, hz2⟩ := info_parts info_rrep3
  have hl : (rrow rs).length = n * 3 := hr.len HS
  rw [rrow_len] at hl
  have HLL : Aside (rs.length = n) := ⟨by omega⟩
  have HT := HS.nil 27 3
  clear hl
  go_enter Try.func27, Try.ntmps27
  go_wp2_with fail
  go_loopw [3, 4] (fun v i wr => ∃ (k cj : Nat) (B : Option Addr), k ≤ n ∧ i = .int .i64 k ∧ v = .slice B k cj ∧ Sep w0 wr O (own 27 3 B k cj (rrow (rs.take k)) :: L)) (fun _ i _ => n - (intOf i).toNat)
  case atStart => exact ⟨0, 0, none, Nat.zero_le _, rfl, rfl, by simpa [rrow] using HT⟩
  case round =>
    obtain ⟨k, cj, B, hk, rfl, rfl, HSk⟩ := hrel
    clear HT
    by_cases hlt : k < n
    · obtain ⟨ad, v, rfl, hvk, x0, x1, x2⟩ := hr.cons.repAt HSk hlt
      have hj : (k : Int) < n := by omega
      have j0 : (0 : Int) ≤ k := by omega
      have HE : Aside (rrow (rs.take k) ++ v.cells = rrow (rs.take (k + 1))) := ⟨by rw [List.take_add_one, hvk]; simp [rrow]⟩
      obtain ⟨vo, vk, vA, vc, vd⟩ := v
      dsimp only [Rp.cells] at x0 x1 x2 HE
      generalize vd.length = m at *
      have HL := (HSk.lit #[.int .u32 vo, .int .u32 vk, .slice vA m vc] 27 3 1 rfl (by decide)).up1
      have h1c : ∀ u ∈ (#[.int .u32 vo, .int .u32 vk, .slice vA m vc] : Array Value).toList, u.oneCell' = true := by
        intro u hu
        simp at hu
        rcases hu with rfl | rfl | rfl <;> rfl
      have H1C := hid h1c
      have hrd := HL.rd1
      have hb1 : k + 1 ≤ maxLen := by simp only [maxLen]; omega
      have hb2 : (k + 1) * 32 ≤ 140737488355328 := by omega
      clear hvk h1c
      go_wp2_with (at_builtin; (refine wpList_append_sep rfl (.tmp 11) (.tmp 16) 50 rfl 27 i0 _ 3 32 Try.underlying50 hi0 hz0 hz1 hz2 rfl (by decide) rfl HL rfl hrd H1C.out hb1 hb2 rfl HE.out ?_; intro B3 c3 w3 HS3 hsz3))
      go_roundw
      case rel => exact ⟨k + 1, c3, B3, by omega, by go_num, rfl, HS3.sel 2 [0]⟩
      case measure => simp [intOf]; omega
    · obtain rfl : n = k := by omega
      have hj : ¬ (n : Int) < n := by omega
      rw [List.take_of_length_le (by rw [HLL.out]; exact Nat.le_refl _)] at HSk
      go_wp2
      go_ret
      exact ⟨B, cj, rfl, HSk⟩
end
end Go.Proofs.Ytgepekailoopeaa
