/-
  A queue's heap: the methods Push and Pop of row, and container/heap's calls over a row that lies in a cell.
-/
import Derived.Test.YtkdoocgjagpcbaaQueueH
import Derived.Deep.CutBlock
import Derived.Deep.DeepCutAuto
namespace Go.Proofs.Ytkdoocgjagpcbaa
open Go.RowKit
set_option linter.unusedVariables false
set_option linter.unusedSimpArgs false
section
variable {w0 w : World} {O : Nat → Prop} {L : List Asr}

set_option maxHeartbeats 1000000 in
theorem row_push {g o c : Nat} {t : TypeId} {cs : Array Value} {A : Option Addr} {x : Hd} {xs : List Hd} (HS : Sep w0 w O (own 65 5 A xs.length c (hv xs) :: blk g t cs :: L)) (ho : cs[o]? = some (.slice A xs.length c)) (hn : xs.length < 1048576) :
    Calls Try.prog 60 #[.pointer (some ⟨g, o, none⟩), .iface 65 (hval x)] w fun e w' => e = .returned (.tuple #[]) ∧ ∃ A' c', Sep w0 w' O (own 65 5 A' (xs ++ [x]).length c' (hv (xs ++ [x])) :: blk g t (cs.setIfInBounds o (.slice A' (xs ++ [x]).length c')) :: L) := by
  obtain ⟨i0, hi0, hz0, hz1, hz2⟩ := info_parts info_held
  have f2 := HS.up1.blkAt o ho
  have HLb := (HS.lit #[.int .i64 x.flow, .int .i64 x.cost, .int .u64 x.id, .int .i64 x.tag, .int .i64 x.n] 65 5 1 rfl (by decide)).up1
  have hrd := HLb.rd1
  have f2b := HLb.up2.blkAt o ho
  have f2c := HLb.drew.up2.blkAt o ho
  have hb1 : xs.length + 1 ≤ maxLen := by simp only [maxLen]; omega
  have hb2 : (xs.length + 1) * 40 ≤ 140737488355328 := by omega
  have ta : ∀ w, (Instr.typeAssert (.iface 65 (.agg #[.int .i64 x.flow, .int .i64 x.cost, .int .u64 x.id, .int .i64 x.tag, .int .i64 x.n])) 20 65 false).run Try.prog w = .ok (.agg #[.int .i64 x.flow, .int .i64 x.cost, .int .u64 x.id, .int .i64 x.tag, .int .i64 x.n]) w := fun w => ta_held w x
  rw [show hval x = .agg #[.int .i64 x.flow, .int .i64 x.cost, .int .u64 x.id, .int .i64 x.tag, .int .i64 x.n] from rfl]
  have hlen : (xs ++ [x]).length = xs.length + 1 := by simp
  rw [hlen]
  have HLEN := hid hlen
  have h1c : ∀ u ∈ (#[.int .i64 x.flow, .int .i64 x.cost, .int .u64 x.id, .int .i64 x.tag, .int .i64 x.n] : Array Value).toList, u.oneCell' = true := by
    intro u hu
    simp at hu
    rcases hu with rfl | rfl | rfl | rfl | rfl <;> rfl
  have hap : hv xs ++ (#[.int .i64 x.flow, .int .i64 x.cost, .int .u64 x.id, .int .i64 x.tag, .int .i64 x.n] : Array Value).toList = hv (xs ++ [x]) := by simp [hv, hcs]
  have HAP := hid hap
  have H1C := hid h1c
  have q2f : ∀ (W : World) (P : Asr), Sep w0 W O (P :: blk g t cs :: L) → W.cell? ⟨g, o, none⟩ = some (.slice A xs.length c) := fun W P h => h.up1.blkAt o ho
  clear hlen h1c hap
  go_enter Try.func60, Try.ntmps60
  go_region_law (first | go_loud (refine step_append_sep rfl (.tmp 7) (.tmp 10) 59 rfl 65 i0 _ 5 40 Try.underlying59 hi0 hz0 hz1 hz2 rfl (by decide) rfl HLb rfl hrd H1C.out hb1 hb2 rfl HAP.out ?_; intro A12 c12 w12 HS12 hsz12; have q1 := HS12.up2.blk_frozen o; have q2 := HS12.up2.blkAt o ho))
  all_goals
    have HW := HS12.up2.blk_set o (.slice A12 (xs.length + 1) c12)
    go_end0
    exact ⟨rfl, A12, c12, HW.sel 3 [1, 0]⟩

set_option maxHeartbeats 1000000 in
theorem row_pop {g o c : Nat} {t : TypeId} {cs : Array Value} {A : Option Addr} {xs : List Hd} (HS : Sep w0 w O (own 65 5 A xs.length c (hv xs) :: blk g t cs :: L)) (ho : cs[o]? = some (.slice A xs.length c)) (h0 : 0 < xs.length) :
    Calls Try.prog 59 #[.pointer (some ⟨g, o, none⟩)] w fun e w' => e = .returned (.iface 65 (hval (gat xs (xs.length - 1)))) ∧ Sep w0 w' O (own 65 5 A (xs.length - 1) c (hv (xs.take (xs.length - 1))) :: blk g t (cs.setIfInBounds o (.slice A (xs.length - 1) c)) :: L) := by
  obtain ⟨m, hm⟩ : ∃ m, xs.length = m + 1 := ⟨xs.length - 1, by omega⟩
  have hge := HS.own_ge
  have hmx := HS.own_max
  simp only [maxLen] at hmx
  obtain ⟨b, rfl⟩ := HS.own_some (by omega)
  obtain ⟨x, hx⟩ : ∃ x, x = gat xs m := ⟨_, rfl⟩
  have hml : m < xs.length := by omega
  have c0 : w.cell? ⟨b, m * 5, none⟩ = some (.int .i64 x.flow) := HS.hcell hml rfl 0 (by rw [← hx]; rfl)
  have c1 : w.cell? ⟨b, m * 5 + 1, none⟩ = some (.int .i64 x.cost) := HS.hcell hml rfl 1 (by rw [← hx]; rfl)
  have c2 : w.cell? ⟨b, m * 5 + 2, none⟩ = some (.int .u64 x.id) := HS.hcell hml rfl 2 (by rw [← hx]; rfl)
  have c3 : w.cell? ⟨b, m * 5 + 3, none⟩ = some (.int .i64 x.tag) := HS.hcell hml rfl 3 (by rw [← hx]; rfl)
  have c4 : w.cell? ⟨b, m * 5 + 4, none⟩ = some (.int .i64 x.n) := HS.hcell hml rfl 4 (by rw [← hx]; rfl)
  have f2 := HS.up1.blkAt o ho
  have HZ := (HS.alloc #[.int .i64 0, .int .i64 0, .int .u64 0, .int .i64 0, .int .i64 0] 65).up1
  have z0 : (w.alloc (.cells #[.int .i64 0, .int .i64 0, .int .u64 0, .int .i64 0, .int .i64 0] 65)).cell? ⟨b, m * 5, none⟩ = some (.int .i64 x.flow) := HZ.hcell hml rfl 0 (by rw [← hx]; rfl)
  have z1 : (w.alloc (.cells #[.int .i64 0, .int .i64 0, .int .u64 0, .int .i64 0, .int .i64 0] 65)).cell? ⟨b, m * 5 + 1, none⟩ = some (.int .i64 x.cost) := HZ.hcell hml rfl 1 (by rw [← hx]; rfl)
  have z2 : (w.alloc (.cells #[.int .i64 0, .int .i64 0, .int .u64 0, .int .i64 0, .int .i64 0] 65)).cell? ⟨b, m * 5 + 2, none⟩ = some (.int .u64 x.id) := HZ.hcell hml rfl 2 (by rw [← hx]; rfl)
  have z3 : (w.alloc (.cells #[.int .i64 0, .int .i64 0, .int .u64 0, .int .i64 0, .int .i64 0] 65)).cell? ⟨b, m * 5 + 3, none⟩ = some (.int .i64 x.tag) := HZ.hcell hml rfl 3 (by rw [← hx]; rfl)
  have z4 : (w.alloc (.cells #[.int .i64 0, .int .i64 0, .int .u64 0, .int .i64 0, .int .i64 0] 65)).cell? ⟨b, m * 5 + 4, none⟩ = some (.int .i64 x.n) := HZ.hcell hml rfl 4 (by rw [← hx]; rfl)
  have f2z := HZ.up2.blkAt o ho
  rw [show xs.length - 1 = m by omega, ← hx]
  have H1 := HS.own_pre (m := m) (by omega)
  rw [hv_take] at H1
  rw [hm] at f2 f2z hge
  have HS2 := hid H1
  have HO := hid ho
  have HM := hid hm
  clear hm h0 HS hx hml H1 ho HZ
  have i1 : (m : Int) ≤ c := by omega
  have i2 : ((m + 1 : Nat) : Int) - 1 = m := by omega
  have hw : IntKind.i64.wrap (m : Int) = m := by rw [IntKind.wrap_i64]; omega
  have hj : (m : Int) < (m : Int) + 1 := by omega
  go_enter Try.func59, Try.ntmps59
  go_upto_region 1 with (fail)
  have HB : Sep w0 (w.alloc (.cells #[.int .i64 x.flow, .int .i64 x.cost, .int .u64 x.id, .int .i64 x.tag, .int .i64 x.n] 65)) O (blk w.heap.size 65 #[.int .i64 x.flow, .int .i64 x.cost, .int .u64 x.id, .int .i64 x.tag, .int .i64 x.n] :: own 65 5 (some ⟨b, 0, none⟩) m c (hv (xs.take m)) :: blk g t cs :: L) := HS2.out.alloc #[.int .i64 x.flow, .int .i64 x.cost, .int .u64 x.id, .int .i64 x.tag, .int .i64 x.n] 65
  go_cut [3] (fun v wx => v = .pointer (some ⟨w.heap.size, 0, none⟩) ∧ Sep w0 wx O (blk w.heap.size 65 #[.int .i64 x.flow, .int .i64 x.cost, .int .u64 x.id, .int .i64 x.tag, .int .i64 x.n] :: own 65 5 (some ⟨b, 0, none⟩) m c (hv (xs.take m)) :: blk g t cs :: L))
  case first =>
    go_region_law (fail)
    all_goals
      go_wp2
      go_meet
      case rel => exact ⟨rfl, HB.drew⟩
  case rest =>
    obtain ⟨rfl, H3⟩ := hcut
    clear HB c0 c1 c2 c3 c4 z0 z1 z2 z3 z4 f2 f2z
    have f2 := H3.up2.blkAt o HO.out
    rw [HM.out] at f2
    have y2 := H3.up2.blk_frozen o
    have HW := H3.up2.blk_set o (.slice (some ⟨b, 0, none⟩) m c)
    have d0 := HW.up1.blkAt 0 rfl
    have d1 := HW.up1.blkAt 1 rfl
    have d2 := HW.up1.blkAt 2 rfl
    have d3 := HW.up1.blkAt 3 rfl
    have d4 := HW.up1.blkAt 4 rfl
    go_upto_region 2 with (fail)
    go_region_law (fail)
    all_goals
      go_wp2
      go_ret
      exact ⟨rfl, HW.sel 3 [2, 0]⟩
end
end Go.Proofs.Ytkdoocgjagpcbaa
