/-
  slices.DeleteFunc of a row of a queue; a queue's Drop.
-/
import Derived.Test.YtkdoocgjagpcbaaQueueR
namespace Go.Proofs.Ytkdoocgjagpcbaa
open Go.RowKit
set_option linter.unusedVariables false
set_option linter.unusedSimpArgs false
section
variable {w0 w : World} {O : Nat → Prop} {L : List Asr} {g b gf : Nat} {q : Qu} {f : Int}
theorem take_more {xs : List Hd} {P : Hd → Bool} {k : Nat} (hk : k < xs.length) : (xs.take (k + 1)).filter P = (xs.take k).filter P ++ if P (gat xs k) = true then [gat xs k] else [] := by
  rw [List.take_add_one, gat_get hk, List.filter_append]
  by_cases h : P (gat xs k) = true
  · rw [if_pos h]; simp [h]
  · rw [if_neg h]; simp [h]

set_option maxHeartbeats 2000000 in
set_option maxRecDepth 10000 in
theorem qdelf_calls {A : Option Addr} {c : Nat} {xs : List Hd} (HS : Sep w0 w O (own 65 5 A xs.length c (hv xs) :: blk gf 3 #[.int .i64 f] :: L)) (hn : xs.length ≤ 1048576) :
    Calls Try.prog 30 #[.slice A xs.length c, .func (.func 31) #[] #[.pointer (some ⟨gf, 0, none⟩)]] w fun e w' => ∃ A' c', e = .returned (.slice A' (xs.filter fun h => !(h.flow == f)).length c') ∧ Sep w0 w' O (own 65 5 A' (xs.filter fun h => !(h.flow == f)).length c' (hv (xs.filter fun h => !(h.flow == f))) :: blk gf 3 #[.int .i64 f] :: L) := by
  have hI := qindexf_calls HS hn
  obtain ⟨N, hN⟩ : ∃ N, N = xs.length := ⟨_, rfl⟩
  have HN := hid hN
  rw [← hN] at HS hn hI ⊢
  obtain ⟨R, hR⟩ : ∃ R, R = xs.filter fun h => !(h.flow == f) := ⟨_, rfl⟩
  rw [← hR]
  have HR := hid hR
  clear hN hR HS
  go_enter Try.func30, Try.ntmps30
  go_wp2_with fail
  refine hI.mono ?_
  rintro e w1 ⟨r, rfl, hr, H1⟩
  clear hI
  rcases hr with ⟨rfl, hno⟩ | ⟨k, rfl, hk, hkf, hno⟩
  · have hRx : R = xs := by
      rw [HR.out, List.filter_eq_self]
      intro y hy
      simpa using hno y hy
    have HRX := hid hRx
    clear hno hRx
    go_wp2
    go_ret
    rw [HRX.out]
    exact ⟨A, c, by rw [HN.out]; rfl, by rw [← HN.out]; exact H1⟩
  · obtain ⟨a, rfl⟩ := H1.own_some (by omega)
    have hst : (xs.take (k + 1)).filter (fun h => !(h.flow == f)) = xs.take k := by
      rw [take_more (show k < xs.length by have := HN.out; omega), if_neg (by simp [hkf]), List.append_nil, List.filter_eq_self]
      intro y hy
      obtain ⟨j, hj, rfl⟩ := List.getElem_of_mem hy
      rw [List.length_take] at hj
      have := hno j (by omega)
      unfold gat at this
      rw [List.getElem?_eq_getElem (by omega)] at this
      rw [List.getElem_take]
      simpa using this
    have HST := hid hst
    have hkN : k < N := by have := HN.out; omega
    have hb : ((k : Int) == -1) = false := beq_eq_false_iff_ne.2 (by omega)
    have wk : IntKind.i64.wrap ((k : Int) + 1) = k + 1 := by rw [IntKind.wrap_i64]; omega
    clear hst hno hkf
    go_wp2
    go_loopw [5, 6] (fun u v wr => ∃ (i j : Nat) (ys : List Hd), u = .int .i64 i ∧ v = .int .i64 j ∧ i < j ∧ j ≤ N ∧ Aside (ys.length = N ∧ ys.take i = (xs.take j).filter (fun h => !(h.flow == f)) ∧ ys.drop j = xs.drop j) ∧ Sep w0 wr O (own 65 5 (some ⟨a, 0, none⟩) N c (hv ys) :: blk gf 3 #[.int .i64 f] :: L)) (fun _ v _ => N - (intOf v).toNat)
    case atStart => exact ⟨k, k + 1, xs, rfl, by go_num, by omega, by omega, ⟨HN.out.symm, HST.out.symm, rfl⟩, H1⟩
    case round =>
      obtain ⟨i, j, ys, rfl, rfl, hij, hjN, hys, H2⟩ := hrel
      clear H1
      by_cases hlt : j < N
      · have hj1 : (j : Int) < N := by omega
        have hjy : j < ys.length := by rw [hys.out.1]; exact hlt
        have hjx : j < xs.length := by have := HN.out; omega
        have hiy : i < ys.length := by rw [hys.out.1]; omega
        have hyx : gat ys j = gat xs j := by
          have h1 := congrArg (fun l => l[0]?) hys.out.2.2
          simp only [List.getElem?_drop, Nat.add_zero] at h1
          rw [gat_get hjy, gat_get hjx] at h1
          injection h1
        have hmr := take_more (P := fun h => !(h.flow == f)) hjx
        obtain ⟨x, hx⟩ : ∃ x, x = gat ys j := ⟨_, rfl⟩
        rw [← hyx, ← hx] at hmr
        have c0 : wr.cell? ⟨a, j * 5, none⟩ = some (.int .i64 x.flow) := H2.hcell hjy hys.out.1 0 (by rw [← hx]; rfl)
        have c1 : wr.cell? ⟨a, j * 5 + 1, none⟩ = some (.int .i64 x.cost) := H2.hcell hjy hys.out.1 1 (by rw [← hx]; rfl)
        have c2 : wr.cell? ⟨a, j * 5 + 2, none⟩ = some (.int .u64 x.id) := H2.hcell hjy hys.out.1 2 (by rw [← hx]; rfl)
        have c3 : wr.cell? ⟨a, j * 5 + 3, none⟩ = some (.int .i64 x.tag) := H2.hcell hjy hys.out.1 3 (by rw [← hx]; rfl)
        have c4 : wr.cell? ⟨a, j * 5 + 4, none⟩ = some (.int .i64 x.n) := H2.hcell hjy hys.out.1 4 (by rw [← hx]; rfl)
        have HX := hid hx
        have HIY := hid hiy
        clear hx hyx hjy hjx hiy
        have H3 := H2.alloc #[.int .i64 x.flow, .int .i64 x.cost, .int .u64 x.id, .int .i64 x.tag, .int .i64 x.n] 65
        obtain ⟨gv, hgv⟩ : ∃ gv, gv = wr.heap.size := ⟨_, rfl⟩
        obtain ⟨w3, hw3⟩ : ∃ w3, w3 = wr.alloc (.cells #[.int .i64 x.flow, .int .i64 x.cost, .int .u64 x.id, .int .i64 x.tag, .int .i64 x.n] 65) := ⟨_, rfl⟩
        rw [← hgv, ← hw3] at H3
        have HGV := hid hgv
        have HW3 := hid hw3
        clear hgv hw3
        go_upto_region 8 with (fail)
        rw [← HGV.out, ← HW3.out]
        clear c0 c1 c2 c3 c4
        have b0 := H3.blkAt 0 rfl
        have b1 := H3.blkAt 1 rfl
        have b2 := H3.blkAt 2 rfl
        have b3 := H3.blkAt 3 rfl
        have b4 := H3.blkAt 4 rfl
        have hd := dropf_calls (x := x) (H3.up2)
        by_cases hf : x.flow = f
        · rw [show (x.flow == f) = true by simpa using hf] at hd
          rw [if_neg (by simp [hf]), List.append_nil] at hmr
          have HM := hid hmr
          clear hf hmr
          go_wp2_with fail
          refine hd.mono ?_
          rintro e w4 ⟨rfl, H4⟩
          go_wp2
          go_roundw
          case rel => exact ⟨i, j + 1, ys, rfl, by go_num, by omega, by omega, ⟨hys.out.1, by rw [HM.out]; exact hys.out.2.1, by
            have h := congrArg (List.drop 1) hys.out.2.2
            rw [List.drop_drop, List.drop_drop] at h
            exact h⟩, H4.sel 3 [2, 0]⟩
          case measure => simp [intOf]; omega
        · rw [show (x.flow == f) = false from beq_eq_false_iff_ne.2 hf] at hd
          rw [if_pos (by simp [hf])] at hmr
          have HM := hid hmr
          clear hf hmr b0 b1 b2 b3 b4
          have b0 := H3.blkAt 0 rfl
          have b1 := H3.blkAt 1 rfl
          have b2 := H3.blkAt 2 rfl
          have b3 := H3.blkAt 3 rfl
          have b4 := H3.blkAt 4 rfl
          go_wp2_with fail
          refine hd.mono ?_
          rintro e w4 ⟨rfl, H4⟩
          clear b0 b1 b2 b3 b4
          have b0 := H4.up1.blkAt 0 rfl
          have b1 := H4.up1.blkAt 1 rfl
          have b2 := H4.up1.blkAt 2 rfl
          have b3 := H4.up1.blkAt 3 rfl
          have b4 := H4.up1.blkAt 4 rfl
          have H5 := H4.up2
          obtain ⟨y, hy⟩ : ∃ y, y = gat ys i := ⟨_, rfl⟩
          have c0 : w4.cell? ⟨a, i * 5, none⟩ = some (.int .i64 y.flow) := H5.hcell HIY.out hys.out.1 0 (by rw [← hy]; rfl)
          have c1 : w4.cell? ⟨a, i * 5 + 1, none⟩ = some (.int .i64 y.cost) := H5.hcell HIY.out hys.out.1 1 (by rw [← hy]; rfl)
          have c2 : w4.cell? ⟨a, i * 5 + 2, none⟩ = some (.int .u64 y.id) := H5.hcell HIY.out hys.out.1 2 (by rw [← hy]; rfl)
          have c3 : w4.cell? ⟨a, i * 5 + 3, none⟩ = some (.int .i64 y.tag) := H5.hcell HIY.out hys.out.1 3 (by rw [← hy]; rfl)
          have c4 : w4.cell? ⟨a, i * 5 + 4, none⟩ = some (.int .i64 y.n) := H5.hcell HIY.out hys.out.1 4 (by rw [← hy]; rfl)
          have f0 := H5.own_frozen (i * 5)
          have f1 := H5.own_frozen (i * 5 + 1)
          have f2 := H5.own_frozen (i * 5 + 2)
          have f3 := H5.own_frozen (i * 5 + 3)
          have f4 := H5.own_frozen (i * 5 + 4)
          have i1 : (i : Int) < N := by omega
          have H6 := ((((H5.own_set (i * 5) (.int .i64 x.flow)).own_set (i * 5 + 1) (.int .i64 x.cost)).own_set (i * 5 + 2) (.int .u64 x.id)).own_set (i * 5 + 3) (.int .i64 x.tag)).own_set (i * 5 + 4) (.int .i64 x.n)
          rw [hv_set] at H6
          clear hy H4 H5
          go_wp2
          go_roundw
          case rel => exact ⟨i + 1, j + 1, ys.set i x, by go_num, by go_num, by omega, by omega, ⟨by rw [List.length_set]; exact hys.out.1, by
            rw [List.take_add_one, List.take_set_of_le (Nat.le_refl _), hys.out.2.1, List.getElem?_set, if_pos rfl, if_pos HIY.out, HM.out]; rfl, by
            have h := congrArg (List.drop 1) hys.out.2.2
            rw [List.drop_drop, List.drop_drop] at h
            rw [List.drop_set_of_lt (by omega)]
            exact h⟩, H6.sel 3 [0, 1]⟩
          case measure => simp [intOf]; omega
      · obtain rfl : j = N := by omega
        have hj1 : ¬ (j : Int) < j := by omega
        have hge := H2.own_ge
        have hmx := H2.own_max
        simp only [maxLen] at hmx
        have hci : ¬ c = i := by omega
        have hi1 : (i : Int) ≤ c := by omega
        have hi2 : (i : Int) ≤ j := by omega
        have hi3 : (j : Int) ≤ c := by omega
        obtain ⟨w4, hcl, H3⟩ := H2.cleared (cc := c - i) hys.out.1 hij
        have hRi : R = ys.take i := by
          rw [HR.out, hys.out.2.1, List.take_of_length_le (by have := HN.out; omega)]
        have hRl : R.length = i := by rw [hRi, List.length_take, hys.out.1]; omega
        have HRI := hid hRi
        have HRL := hid hRl
        clear hRi hRl H2
        go_wp2
        go_ret
        refine ⟨_, c, by rw [HRL.out]; rfl, ?_⟩
        rw [HRL.out, HRI.out]
        exact H3
end
end Go.Proofs.Ytkdoocgjagpcbaa
