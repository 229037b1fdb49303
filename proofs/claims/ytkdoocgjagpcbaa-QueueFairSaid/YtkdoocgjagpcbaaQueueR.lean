/-
  slices.IndexFunc, slices.DeleteFunc of a row of a queue; a queue's Drop.
-/
import Derived.Test.YtkdoocgjagpcbaaQueueP
namespace Go.Proofs.Ytkdoocgjagpcbaa
open Go.RowKit
set_option linter.unusedVariables false
set_option linter.unusedSimpArgs false
section
variable {w0 w : World} {O : Nat → Prop} {L : List Asr} {g b gf : Nat} {q : Qu} {f : Int}
theorem own_setCells_pre {e : TypeId} {s a N c m : Nat} : ∀ (vs : List Value) (o : Nat) (w : World) (xs : List Value), m ≤ o → Sep w0 w O (own e s (some ⟨a, 0, none⟩) N c xs :: L) → ∃ ys, ys.take m = xs.take m ∧ Sep w0 (w.setCells a o vs) O (own e s (some ⟨a, 0, none⟩) N c ys :: L)
  | [], _, _, xs, _, h => ⟨xs, rfl, h⟩
  | v :: r, o, w, xs, hm, h => by
    obtain ⟨ys, h1, h2⟩ := own_setCells_pre (m := m) r (o + 1) (w.setCell ⟨a, o, none⟩ v) (xs.set o v) (by omega) (h.own_set o v)
    exact ⟨ys, by rw [h1, List.take_set_of_le hm], h2⟩
theorem zero_held (w : World) : (zeroValue 65).run Try.prog w = .ok (.agg #[.int .i64 0, .int .i64 0, .int .u64 0, .int .i64 0, .int .i64 0]) w := by kernel_rfl
/-- clear(s[i:]): what stood ahead of i stays -/
theorem Sep.cleared {a N c cc i : Nat} {xs : List Hd} (HS : Sep w0 w O (own 65 5 (some ⟨a, 0, none⟩) N c (hv xs) :: L)) (hx : xs.length = N) (hi : i < N) :
    ∃ w', (∀ ty, (Builtin.clear_ #[59] ty #[.slice (some ⟨a, i * 5, none⟩) (N - i) cc]).run Try.prog w = .ok (.tuple #[]) w') ∧ Sep w0 w' O (own 65 5 (some ⟨a, 0, none⟩) i c (hv (xs.take i)) :: L) := by
  obtain ⟨m, hm⟩ : ∃ m, N - i = m + 1 := ⟨N - i - 1, by omega⟩
  obtain ⟨zs, hz⟩ : ∃ zs, zs = (Builtin.zeroCells (Value.agg #[.int .i64 0, .int .i64 0, .int .u64 0, .int .i64 0, .int .i64 0]).cells (m + 1)).toList := ⟨_, rfl⟩
  have hzl : zs.length = (m + 1) * 5 := by rw [hz]; simp [Builtin.zeroCells, Value.cells]
  have hz1 : ∀ v ∈ zs, v.oneCell' = true := by
    intro v hv
    rw [hz] at hv
    simp only [Builtin.zeroCells, Value.cells, Array.toList_map, List.mem_map] at hv
    obtain ⟨k, -, rfl⟩ := hv
    rw [show (#[Value.int .i64 0, Value.int .i64 0, Value.int .u64 0, Value.int .i64 0, Value.int .i64 0] : Array Value).size = 5 from rfl]
    have hk : k % 5 < 5 := Nat.mod_lt _ (by decide)
    rcases (show k % 5 = 0 ∨ k % 5 = 1 ∨ k % 5 = 2 ∨ k % 5 = 3 ∨ k % 5 = 4 by omega) with e | e | e | e | e <;> rw [e] <;> rfl
  have hlen := hv_len xs
  have hst := run_storeCells_cells (P := Try.prog) a (i * 5) zs 0 w (fun j hj => by
    have := HS.own_row.cellAt (i * 5 + 0 + j) (by omega)
    rw [this, List.getElem?_eq_getElem (by omega)]
    rfl) (fun j hj => HS.own_frozen _) hz1
  rw [Nat.add_zero] at hst
  obtain ⟨ys, h1, h2⟩ := own_setCells_pre (m := i * 5) zs (i * 5) w (hv xs) (Nat.le_refl _) HS
  refine ⟨w.setCells a (i * 5) zs, fun ty => ?_, ?_⟩
  · rw [hm]
    simp [Builtin.clear_, run_underlying Try.underlying59, zero_held, ← hz, hst]
  · have h3 := h2.own_pre (m := i) (by omega)
    rw [h1, hv_take] at h3
    exact h3

theorem dropf_calls {x : Hd} (HS : Sep w0 w O (blk gf 3 #[.int .i64 f] :: L)) : Calls Try.prog 31 #[.agg #[.int .i64 x.flow, .int .i64 x.cost, .int .u64 x.id, .int .i64 x.tag, .int .i64 x.n], .pointer (some ⟨gf, 0, none⟩)] w fun e w' => e = .returned (.bool (x.flow == f)) ∧ Sep w0 w' O (blk gf 3 #[.int .i64 f] :: L) := by
  have HB := HS.alloc #[.int .i64 x.flow, .int .i64 x.cost, .int .u64 x.id, .int .i64 x.tag, .int .i64 x.n] 65
  have b0 := HB.blkAt 0 rfl
  have c0 := HB.up1.blkAt 0 rfl
  by_cases h : x.flow = f
  · rw [h] at b0
    have HB2 := hid (show (x.flow == f) = true by simpa using h)
    have HBB := hid HB
    clear HS HB h
    go_enter Try.func31, Try.ntmps31
    go_wp2
    go_ret
    exact ⟨by rw [HB2.out]; rfl, HBB.out.drop⟩
  · have hb : (x.flow == f) = false := beq_eq_false_iff_ne.2 h
    have HB2 := hid hb
    clear HS h
    go_enter Try.func31, Try.ntmps31
    go_wp2
    go_ret
    exact ⟨by rw [HB2.out]; rfl, HB.drop⟩

set_option maxHeartbeats 1000000 in
theorem qindexf_calls {A : Option Addr} {c : Nat} {xs : List Hd} (HS : Sep w0 w O (own 65 5 A xs.length c (hv xs) :: blk gf 3 #[.int .i64 f] :: L)) (hn : xs.length ≤ 1048576) :
    Calls Try.prog 38 #[.slice A xs.length c, .func (.func 31) #[] #[.pointer (some ⟨gf, 0, none⟩)]] w fun e w' => ∃ r : Int, e = .returned (.int .i64 r) ∧ ((r = -1 ∧ ∀ y ∈ xs, ¬ y.flow = f) ∨ ∃ k : Nat, r = k ∧ k < xs.length ∧ (gat xs k).flow = f ∧ ∀ j, j < k → ¬ (gat xs j).flow = f) ∧ Sep w0 w' O (own 65 5 A xs.length c (hv xs) :: blk gf 3 #[.int .i64 f] :: L) := by
  obtain ⟨N, hN⟩ : ∃ N, N = xs.length := ⟨_, rfl⟩
  have HN := hid hN
  rw [← hN] at HS hn ⊢
  clear hN
  go_enter Try.func38, Try.ntmps38
  go_wp2
  go_loopw [8] (fun v wr => ∃ k : Nat, v = .int .i64 k ∧ k ≤ N ∧ (∀ j, j < k → ¬ (gat xs j).flow = f) ∧ Sep w0 wr O (own 65 5 A N c (hv xs) :: blk gf 3 #[.int .i64 f] :: L)) (fun v _ => N - (intOf v).toNat)
  case atStart => exact ⟨0, rfl, Nat.zero_le _, fun j hj => absurd hj (Nat.not_lt_zero j), HS⟩
  case round =>
    obtain ⟨k, rfl, hk, hno, H1⟩ := hrel
    have HNO := hid hno
    clear hno HS
    by_cases hlt : k < N
    · have hk1 : (k : Int) < N := by omega
      have hkx : k < xs.length := by have := HN.out; omega
      obtain ⟨a, rfl⟩ := H1.own_some (by omega)
      obtain ⟨x, hx⟩ : ∃ x, x = gat xs k := ⟨_, rfl⟩
      have c0 : wr.cell? ⟨a, k * 5, none⟩ = some (.int .i64 x.flow) := H1.hcell hkx HN.out.symm 0 (by rw [← hx]; rfl)
      have c1 : wr.cell? ⟨a, k * 5 + 1, none⟩ = some (.int .i64 x.cost) := H1.hcell hkx HN.out.symm 1 (by rw [← hx]; rfl)
      have c2 : wr.cell? ⟨a, k * 5 + 2, none⟩ = some (.int .u64 x.id) := H1.hcell hkx HN.out.symm 2 (by rw [← hx]; rfl)
      have c3 : wr.cell? ⟨a, k * 5 + 3, none⟩ = some (.int .i64 x.tag) := H1.hcell hkx HN.out.symm 3 (by rw [← hx]; rfl)
      have c4 : wr.cell? ⟨a, k * 5 + 4, none⟩ = some (.int .i64 x.n) := H1.hcell hkx HN.out.symm 4 (by rw [← hx]; rfl)
      have hd := dropf_calls (x := x) H1.up1
      have HX := hid hx
      clear hx hkx
      by_cases hf : x.flow = f
      · rw [show (x.flow == f) = true by simpa using hf] at hd
        have HF := hid hf
        clear hf
        go_wp2_with fail
        refine hd.mono ?_
        rintro e w1 ⟨rfl, H2⟩
        go_wp2
        go_ret
        exact ⟨k, rfl, .inr ⟨k, rfl, by have := HN.out; omega, by rw [← HX.out]; exact HF.out, HNO.out⟩, H2.up1⟩
      · rw [show (x.flow == f) = false from beq_eq_false_iff_ne.2 hf] at hd
        have HF := hid hf
        clear hf
        go_wp2_with fail
        refine hd.mono ?_
        rintro e w1 ⟨rfl, H2⟩
        go_wp2
        go_roundw
        case rel => exact ⟨k + 1, by go_num, by omega, fun j hj => by
          by_cases hjk : j = k
          · rw [hjk, ← HX.out]; exact HF.out
          · exact HNO.out j (by omega), H2.up1⟩
        case measure => simp [intOf]; omega
    · obtain rfl : k = N := by omega
      have hk1 : ¬ (k : Int) < k := by omega
      go_wp2
      go_ret
      refine ⟨-1, rfl, .inl ⟨rfl, fun y hy => ?_⟩, H1⟩
      obtain ⟨j, hj, rfl⟩ := List.getElem_of_mem hy
      have := HNO.out j (by have := HN.out; omega)
      unfold gat at this
      rw [List.getElem?_eq_getElem hj] at this
      exact this
end
end Go.Proofs.Ytkdoocgjagpcbaa
