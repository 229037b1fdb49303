/-
  A queue's heap by container/heap: the row lies in a cell of a block; slices.Clone; sorted.
-/
import Derived.Test.YtkdoocgjagpcbaaQueueI
import Derived.Test.YtkdoocgjagpcbaaQueueL
namespace Go.Proofs.Ytkdoocgjagpcbaa
open Go.RowKit
set_option linter.unusedVariables false
set_option linter.unusedSimpArgs false
/-- a row of a queue, in the cell o of a block -/
def heapB (g o : Nat) (t : TypeId) (cs : Array Value) (xs : List Hd) : Asr :=
  ex fun A => ex fun c => star (own 65 5 A xs.length c (hv xs)) (blk g t (cs.setIfInBounds o (.slice A xs.length c)))
section
variable {w0 w : World} {O : Nat → Prop} {L : List Asr} {g o : Nat} {t : TypeId} {cs : Array Value} {xs : List Hd}
theorem at_set {cs : Array Value} {o : Nat} (ho : o < cs.size) (v : Value) : (cs.setIfInBounds o v)[o]? = some v := by
  rw [Array.getElem?_setIfInBounds_self_of_lt ho]
theorem Sep.unheapB (h : Sep w0 w O (heapB g o t cs xs :: L)) : ∃ A c, Sep w0 w O (own 65 5 A xs.length c (hv xs) :: blk g t (cs.setIfInBounds o (.slice A xs.length c)) :: L) := by
  obtain ⟨A, h⟩ := h.unex
  obtain ⟨c, h⟩ := h.unex
  exact ⟨A, c, h.unstar⟩
theorem Sep.heapedB {A : Option Addr} {c : Nat} (h : Sep w0 w O (own 65 5 A xs.length c (hv xs) :: blk g t (cs.setIfInBounds o (.slice A xs.length c)) :: L)) : Sep w0 w O (heapB g o t cs xs :: L) :=
  Sep.ex A (Sep.ex c h.star)
theorem hmethB (w0 : World) (O : Nat → Prop) (g o : Nat) (t : TypeId) (cs : Array Value) (ho : o < cs.size) : HMeth w0 O 63 (.pointer (some ⟨g, o, none⟩)) ltH (heapB g o t cs) 56 57 58 where
  eN := fun _ _ => by kernel_rfl
  eL := fun _ _ => by kernel_rfl
  eS := fun _ _ => by kernel_rfl
  len := fun {w L xs} h => by
    obtain ⟨A, c, h⟩ := h.unheapB
    exact ⟨_, mt_len (h.up1.blkAt o (at_set ho _)), row_len⟩
  less := fun {w L xs i j} h hi hj => by
    obtain ⟨A, c, h⟩ := h.unheapB
    exact ⟨_, mt_less (h.up1.blkAt o (at_set ho _)), row_less h hi hj⟩
  swap := fun {w L xs i j} h hi hj => by
    obtain ⟨A, c, h⟩ := h.unheapB
    refine ⟨_, mt_swap (h.up1.blkAt o (at_set ho _)), (row_swap h hi hj).mono ?_⟩
    rintro e w' ⟨rfl, H⟩
    refine ⟨rfl, Sep.heapedB (A := A) (c := c) ?_⟩
    rw [swp_len]
    exact H
theorem hmethBP (w0 : World) (O : Nat → Prop) (g o : Nat) (t : TypeId) (cs : Array Value) (ho : o < cs.size) : HMethP w0 O 63 (.pointer (some ⟨g, o, none⟩)) (heapB g o t cs) (fun x => .iface 65 (hval x)) 60 59 where
  eP := fun _ _ => by kernel_rfl
  eO := fun _ _ => by kernel_rfl
  push := fun {w L xs x} h hn => by
    obtain ⟨A, c, h⟩ := h.unheapB
    refine ⟨_, mt_push w g o, (row_push h (at_set ho _) hn).mono ?_⟩
    rintro e w' ⟨rfl, A', c', H⟩
    rw [Array.setIfInBounds_setIfInBounds] at H
    exact ⟨rfl, H.heapedB⟩
  pop := fun {w L xs} h h0 => by
    obtain ⟨A, c, h⟩ := h.unheapB
    refine ⟨_, mt_pop w g o, (row_pop h (at_set ho _) h0).mono ?_⟩
    rintro e w' ⟨rfl, H⟩
    rw [Array.setIfInBounds_setIfInBounds] at H
    refine ⟨rfl, Sep.heapedB (A := A) (c := c) ?_⟩
    have e : (xs.take (xs.length - 1)).length = xs.length - 1 := by rw [List.length_take]; omega
    rw [e]
    exact H

set_option maxHeartbeats 400000 in
theorem hclone_calls {A : Option Addr} {n c : Nat} {xs : List Hd} (HS : Sep w0 w O L) (hr : Rb w0 O L 5 A n (hv xs)) (hn : n ≤ 1048576) :
    Calls Try.prog 34 #[.slice A n c] w fun e w' => ∃ A' c', e = .returned (.slice A' n c') ∧ Sep w0 w' O (own 65 5 A' n c' (hv xs) :: L) := by
  obtain ⟨i0, hi0, hz0, hz1, hz2⟩ := info_parts info_held
  have q := fun w a n c n' c' => Lib.run_eql_slice_nil (P := Try.prog) w 59 65 a n c n' c' Try.underlying59
  rcases A with _ | ad
  · obtain ⟨rfl, e⟩ := hr.noneNil HS
    rw [e]
    go_enter Try.func34, Try.ntmps34
    go_wp2
    go_ret
    exact ⟨_, _, rfl, HS.nil _ _⟩
  · have HL := HS.lit #[] 65 5 0 rfl (Nat.zero_le _)
    have hrd := (hr.cons (P := own 65 5 (some ⟨w.heap.size, 0, none⟩) 0 0 [])).read HL
    go_enter Try.func34, Try.ntmps34
    go_wp2_with (at_builtin; refine wpList_append_sep rfl (.tmp 5) (.tmp 6) 59 rfl 65 i0 _ 5 40 Try.underlying59 hi0 hz0 hz1 hz2 rfl (by decide) rfl HL rfl hrd (hv_one _) (by simp only [maxLen]; omega) (by omega) (Nat.zero_add n) rfl ?_; intro A' c' w1 HS1 hsz1)
    go_ret
    exact ⟨_, _, rfl, HS1⟩

def sln : Value → Nat
  | .slice _ n _ => n
  | _ => 0
set_option maxHeartbeats 1000000 in
theorem sorted_calls {xs : List Hd} (ho : o < cs.size) (HS : Sep w0 w O (heapB g o t cs xs :: L)) (hn : xs.length ≤ 1024) :
    Calls Try.prog 36 #[.iface 63 (.pointer (some ⟨g, o, none⟩))] w fun e w' => ∃ A c, e = .returned (.slice A xs.length c) ∧ Sep w0 w' O (own 65 5 A xs.length c (hv (popsL xs.length xs)) :: heapB g o t cs [] :: L) := by
  obtain ⟨i0, hi0, hz0, hz1, hz2⟩ := info_parts info_held
  have M := hid (hmethB w0 O g o t cs ho)
  have MP := hid (hmethBP w0 O g o t cs ho)
  have eN := M.out.eN
  have HN := HS.nil 65 5
  obtain ⟨N, hN⟩ : ∃ N, N = xs.length := ⟨_, rfl⟩
  obtain ⟨R, hR⟩ : ∃ R, R = popsL xs.length xs := ⟨_, rfl⟩
  have HR := hid hR
  rw [← hR]
  have HNN := hid hN
  rw [← hN] at hn ⊢
  clear hR hN HS
  go_enter Try.func36, Try.ntmps36
  go_wp2
  go_loopw [3] (fun v wr => ∃ (k j ck : Nat) (Q : Option Addr) (ys zs : List Hd), k + j = N ∧ v = .slice Q k ck ∧ Aside (ys.length = j ∧ R = zs ++ popsL j ys) ∧ Sep w0 wr O (heapB g o t cs ys :: own 65 5 Q k ck (hv zs) :: L)) (fun v _ => N - sln v)
  case atStart => exact ⟨0, N, 0, none, xs, [], by omega, rfl, ⟨HNN.out.symm, by rw [HR.out, HNN.out]; rfl⟩, HN.up1⟩
  case round =>
    obtain ⟨k, j, ck, Q, ys, zs, hkj, rfl, hyz, H1⟩ := hrel
    obtain ⟨rvN, mN, cN⟩ := M.out.len H1
    simp at mN
    rw [hyz.out.1] at cN
    clear HN
    cases j with
    | zero =>
      have hj0 : ¬ (0 : Int) < 0 := by decide
      go_wp2_with fail
      refine cN.mono ?_
      rintro e w' ⟨rfl, rfl⟩
      go_wp2
      go_ret
      obtain rfl : k = N := by omega
      have h0 : ys = [] := List.eq_nil_of_length_eq_zero hyz.out.1
      have h1 := hyz.out.2
      rw [h0] at H1
      rw [show zs ++ popsL 0 ys = zs by simp [popsL]] at h1
      rw [h1]
      exact ⟨Q, ck, rfl, H1.up1⟩
    | succ j =>
      have hj1 : (0 : Int) < ((j + 1 : Nat) : Int) := by omega
      have hyl := hyz.out.1
      have hpop := heappop_calls M.out MP.out H1 (by omega) (by omega)
      obtain ⟨x, hx⟩ : ∃ x, x = gat (popL ltH ys) j := ⟨_, rfl⟩
      rw [hyl, Nat.add_sub_cancel, ← hx] at hpop
      have hP : Calls Try.prog 39 #[.iface 63 (.pointer (some ⟨g, o, none⟩))] wr fun e w' => e = .returned (.iface 65 (.agg #[.int .i64 x.flow, .int .i64 x.cost, .int .u64 x.id, .int .i64 x.tag, .int .i64 x.n])) ∧ Sep w0 w' O (heapB g o t cs ((popL ltH ys).take j) :: own 65 5 Q k ck (hv zs) :: L) := hpop
      have ta : ∀ w, (Instr.typeAssert (.iface 65 (.agg #[.int .i64 x.flow, .int .i64 x.cost, .int .u64 x.id, .int .i64 x.tag, .int .i64 x.n])) 20 65 false).run Try.prog w = .ok (.agg #[.int .i64 x.flow, .int .i64 x.cost, .int .u64 x.id, .int .i64 x.tag, .int .i64 x.n]) w := fun w => ta_held w x
      have hp := pop_ok ltH_ordr (l := ys)
      have HX := hid hx
      have hb1 : k + 1 ≤ maxLen := by simp only [maxLen]; omega
      have hb2 : (k + 1) * 40 ≤ 140737488355328 := by omega
      have h1c : ∀ u ∈ (#[.int .i64 x.flow, .int .i64 x.cost, .int .u64 x.id, .int .i64 x.tag, .int .i64 x.n] : Array Value).toList, u.oneCell' = true := by
        intro u hu
        simp at hu
        rcases hu with rfl | rfl | rfl | rfl | rfl <;> rfl
      have hap : hv zs ++ (#[.int .i64 x.flow, .int .i64 x.cost, .int .u64 x.id, .int .i64 x.tag, .int .i64 x.n] : Array Value).toList = hv (zs ++ [x]) := by simp [hv, hcs]
      have HAP := hid hap
      have H1C := hid h1c
      have HPL : Aside (((popL ltH ys).take j).length = j ∧ R = (zs ++ [x]) ++ popsL j ((popL ltH ys).take j)) := ⟨by
        have hl : (popL ltH ys).length = ys.length := by unfold popL; rw [dnL_len, swp_len]
        rw [List.length_take, hl, hyl]; omega, by rw [hyz.out.2, popsL, ← hx]; simp⟩
      clear hpop hp hx h1c hap hyl
      go_wp2_with fail
      refine cN.mono ?_
      rintro e w' ⟨rfl, rfl⟩
      go_wp2_with fail
      refine hP.mono ?_
      rintro e w2 ⟨rfl, H2⟩
      have H3 := (H2.lit #[.int .i64 x.flow, .int .i64 x.cost, .int .u64 x.id, .int .i64 x.tag, .int .i64 x.n] 65 5 1 rfl (by decide)).up2
      clear mN cN hP H1
      go_wp2_with (at_builtin; go_loud (refine wpList_append_sep rfl (.tmp 7) (.tmp 11) 58 rfl 65 i0 _ 5 40 Try.underlying58 hi0 hz0 hz1 hz2 rfl (by decide) rfl H3 rfl H3.rd1 H1C.out hb1 hb2 rfl HAP.out ?_); intro Q' cq' w6 HS7 hsz7)
      go_roundw
      case rel => exact ⟨k + 1, j, cq', Q', (popL ltH ys).take j, zs ++ [x], by omega, rfl, HPL, HS7.sel 3 [2, 0]⟩
      case measure => simp [sln]; omega
end
end Go.Proofs.Ytkdoocgjagpcbaa
