/-
  A space's heap: the methods Push and Pop of least, and container/heap's calls over it.
-/
import Derived.Test.YtepooiiaijbljaaFreeM
import Derived.Test.YtepooiiaijbljaaHeapP
import Derived.Test.YtepooiiaijbljaaBlk
namespace Go.Proofs.Ytepooiiaijbljaa
open Go.RowKit
set_option linter.unusedVariables false
set_option linter.unusedSimpArgs false
theorem ta_int (w : World) (x : Int) : (Instr.typeAssert (.iface 3 (.int .i64 x)) 20 3 false).run Try.prog w = .ok (.int .i64 x) w := by kernel_rfl
section
variable {w0 w : World} {O : Nat → Prop} {L : List Asr}

set_option maxHeartbeats 1000000 in
theorem least_push {g c : Nat} {A IA : Option Addr} {ni ci : Nat} {cnt x : Int} {xs : List Int} (HS : Sep w0 w O (own 3 1 A xs.length c (kv .i64 xs) :: blk g 73 #[.slice IA ni ci, .int .i64 cnt, .slice A xs.length c, .bool true] :: L)) (hn : xs.length < 1048576) :
    Calls Try.prog 79 #[.pointer (some ⟨g, 2, none⟩), .iface 3 (.int .i64 x)] w fun e w' => e = .returned (.tuple #[]) ∧ ∃ A' c', Sep w0 w' O (own 3 1 A' (xs ++ [x]).length c' (kv .i64 (xs ++ [x])) :: blk g 73 #[.slice IA ni ci, .int .i64 cnt, .slice A' (xs ++ [x]).length c', .bool true] :: L) := by
  obtain ⟨i0, hi0, hz0, hz1, hz2⟩ := info_parts info_int
  have f2 := HS.up1.blkAt 2 rfl
  have HLb := (HS.lit #[.int .i64 x] 3 1 1 rfl (by decide)).up1
  have hrd := HLb.rd1
  have f2b := HLb.up2.blkAt 2 rfl
  have f2c := HLb.drew.up2.blkAt 2 rfl
  have hb1 : xs.length + 1 ≤ maxLen := by simp only [maxLen]; omega
  have hb2 : (xs.length + 1) * 8 ≤ 140737488355328 := by omega
  have ta := fun w => ta_int w x
  have hlen : (xs ++ [x]).length = xs.length + 1 := by simp
  rw [hlen]
  have HLEN := hid hlen
  clear hlen
  go_enter Try.func79, Try.ntmps79
  go_region_law (first | go_loud (refine step_append_sep rfl (.tmp 7) (.tmp 10) 71 rfl 3 i0 _ 1 8 Try.underlying71 hi0 hz0 hz1 hz2 rfl (by decide) rfl HLb rfl hrd (kv_one .i64 [x]) hb1 hb2 rfl (kv_append .i64 xs [x]) ?_; intro A12 c12 w12 HS12 hsz12; have q1 := HS12.up2.blk_frozen 2; have q2 := HS12.up2.blkAt 2 rfl))
  all_goals
    have HW := HS12.up2.blk_set 2 (.slice A12 (xs.length + 1) c12)
    go_end0
    exact ⟨rfl, A12, c12, HW.sel 3 [1, 0]⟩

theorem least_pop {g c : Nat} {A IA : Option Addr} {ni ci : Nat} {cnt : Int} {xs : List Int} (HS : Sep w0 w O (own 3 1 A xs.length c (kv .i64 xs) :: blk g 73 #[.slice IA ni ci, .int .i64 cnt, .slice A xs.length c, .bool true] :: L)) (h0 : 0 < xs.length) :
    Calls Try.prog 78 #[.pointer (some ⟨g, 2, none⟩)] w fun e w' => e = .returned (.iface 3 (.int .i64 (gat xs (xs.length - 1)))) ∧ Sep w0 w' O (own 3 1 A (xs.length - 1) c (kv .i64 (xs.take (xs.length - 1))) :: blk g 73 #[.slice IA ni ci, .int .i64 cnt, .slice A (xs.length - 1) c, .bool true] :: L) := by
  obtain ⟨m, hm⟩ : ∃ m, xs.length = m + 1 := ⟨xs.length - 1, by omega⟩
  have hge := HS.own_ge
  have hmx := HS.own_max
  simp only [maxLen] at hmx
  obtain ⟨b, rfl⟩ := HS.own_some (by omega)
  have cm := HS.kcell (j := m) (by omega) rfl
  rw [gat_int (by omega)] at cm
  have f2 := HS.up1.blkAt 2 rfl
  have z2 := HS.up1.blk_frozen 2
  rw [show xs.length - 1 = m by omega]
  have HW := (HS.kpre (m := m) (by omega)).up1.blk_set 2 (.slice (some ⟨b, 0, none⟩) m c)
  rw [hm] at f2 hge
  clear hm h0 HS
  have i1 : (m : Int) ≤ c := by omega
  have i2 : ((m + 1 : Nat) : Int) - 1 = m := by omega
  go_enter Try.func78, Try.ntmps78
  go_wp2
  go_ret
  exact ⟨rfl, HW.up1⟩

/-- a space's block with its heap -/
def heapAt (g : Nat) (IA : Option Addr) (ni ci : Nat) (cnt : Int) (xs : List Int) : Asr :=
  ex fun A => ex fun c => star (own 3 1 A xs.length c (kv .i64 xs)) (blk g 73 #[.slice IA ni ci, .int .i64 cnt, .slice A xs.length c, .bool true])
variable {g ni ci : Nat} {IA : Option Addr} {cnt : Int} {xs : List Int}
theorem Sep.unheap (h : Sep w0 w O (heapAt g IA ni ci cnt xs :: L)) : ∃ A c, Sep w0 w O (own 3 1 A xs.length c (kv .i64 xs) :: blk g 73 #[.slice IA ni ci, .int .i64 cnt, .slice A xs.length c, .bool true] :: L) := by
  obtain ⟨A, h⟩ := h.unex
  obtain ⟨c, h⟩ := h.unex
  exact ⟨A, c, h.unstar⟩
theorem Sep.heaped {A : Option Addr} {c : Nat} (h : Sep w0 w O (own 3 1 A xs.length c (kv .i64 xs) :: blk g 73 #[.slice IA ni ci, .int .i64 cnt, .slice A xs.length c, .bool true] :: L)) : Sep w0 w O (heapAt g IA ni ci cnt xs :: L) :=
  Sep.ex A (Sep.ex c h.star)
theorem hmeth (w0 : World) (O : Nat → Prop) (g : Nat) (IA : Option Addr) (ni ci : Nat) (cnt : Int) : HMeth w0 O 75 (.pointer (some ⟨g, 2, none⟩)) ltI (heapAt g IA ni ci cnt) 75 76 77 where
  eN := fun _ _ => by kernel_rfl
  eL := fun _ _ => by kernel_rfl
  eS := fun _ _ => by kernel_rfl
  len := fun {w L xs} h => by
    obtain ⟨A, c, h⟩ := h.unheap
    exact ⟨_, mt_len (h.up1.blkAt 2 rfl), least_len⟩
  less := fun {w L xs i j} h hi hj => by
    obtain ⟨A, c, h⟩ := h.unheap
    exact ⟨_, mt_less (h.up1.blkAt 2 rfl), least_less h hi hj⟩
  swap := fun {w L xs i j} h hi hj => by
    obtain ⟨A, c, h⟩ := h.unheap
    refine ⟨_, mt_swap (h.up1.blkAt 2 rfl), (least_swap h hi hj).mono ?_⟩
    rintro e w' ⟨rfl, H⟩
    refine ⟨rfl, Sep.heaped (A := A) (c := c) ?_⟩
    rw [swp_len]
    exact H
theorem hmethP (w0 : World) (O : Nat → Prop) (g : Nat) (IA : Option Addr) (ni ci : Nat) (cnt : Int) : HMethP w0 O 75 (.pointer (some ⟨g, 2, none⟩)) (heapAt g IA ni ci cnt) (fun x => .iface 3 (.int .i64 x)) 79 78 where
  eP := fun _ _ => by kernel_rfl
  eO := fun _ _ => by kernel_rfl
  push := fun {w L xs x} h hn => by
    obtain ⟨A, c, h⟩ := h.unheap
    refine ⟨_, mt_push w g 2, (least_push h hn).mono ?_⟩
    rintro e w' ⟨rfl, A', c', H⟩
    exact ⟨rfl, H.heaped⟩
  pop := fun {w L xs} h h0 => by
    obtain ⟨A, c, h⟩ := h.unheap
    refine ⟨_, mt_pop w g 2, (least_pop h h0).mono ?_⟩
    rintro e w' ⟨rfl, H⟩
    refine ⟨rfl, Sep.heaped (A := A) (c := c) ?_⟩
    have e : (xs.take (xs.length - 1)).length = xs.length - 1 := by rw [List.length_take]; omega
    rw [e]
    exact H
end
end Go.Proofs.Ytepooiiaijbljaa
