/-
  slices.Index of a row of a queue; New; At.
-/
import Derived.Test.YtkdoocgjagpcbaaQueueK
namespace Go.Proofs.Ytkdoocgjagpcbaa
open Go.RowKit
set_option linter.unusedVariables false
set_option linter.unusedSimpArgs false
theorem results_rowa {P : Program} {fn : Func} {p q : Tmp} {ty : TypeId} (h : fn.results = #[.cell p ty, .tmp q]) (tmps : Array Value) (w : World) (g : Nat) (t : TypeId) (cs : Array Value) (fr : Nat × Nat) (d : TypeDesc)
    (hp : tmps.getD p undef = .pointer (some ⟨g, 0, none⟩)) (hg : w.heap[g]? = some (.cells cs t fr))
    (hu : P.underlying ty = some d) (hd : (match d with | .struct _ | .array _ _ => true | _ => false) = true) (hi : (P.info? ty).map (·.size) = some cs.size) :
    (results fn tmps).run P w = .ok (.tuple #[.agg cs, tmps.getD q undef]) w := by
  have hp' : tmps[p]?.getD undef = .pointer (some ⟨g, 0, none⟩) := by simpa using hp
  simp [results, h, hp', asAddr, run_loadVar_row w g t ty cs fr d hg hu hd hi]
theorem info_item : (Try.prog.info? 35).map (·.size) = some 3 := by kernel_rfl
theorem hd_ne {x y : Hd} (h : ¬ x = y) : ¬ x.flow = y.flow ∨ (x.flow = y.flow ∧ ¬ x.cost = y.cost) ∨ (x.flow = y.flow ∧ x.cost = y.cost ∧ ¬ x.id = y.id) ∨ (x.flow = y.flow ∧ x.cost = y.cost ∧ x.id = y.id ∧ ¬ x.tag = y.tag) ∨ (x.flow = y.flow ∧ x.cost = y.cost ∧ x.id = y.id ∧ x.tag = y.tag ∧ ¬ x.n = y.n) := by
  cases x with
  | mk a b c d e =>
    cases y with
    | mk p q r s t =>
      simp only [Hd.mk.injEq] at h
      dsimp only
      by_cases h1 : a = p <;> by_cases h2 : b = q <;> by_cases h3 : c = r <;> by_cases h4 : d = s <;> by_cases h5 : e = t <;> simp_all
section
variable {w0 w : World} {O : Nat → Prop} {L : List Asr} {g b : Nat} {q : Qu}

set_option maxHeartbeats 2000000 in
theorem qindex_calls {A : Option Addr} {c : Nat} {xs : List Hd} {x : Hd} (HS : Sep w0 w O (own 65 5 A xs.length c (hv xs) :: L)) (hx : x ∈ xs) (hn : xs.length ≤ 1048576) :
    Calls Try.prog 28 #[.slice A xs.length c, .agg #[.int .i64 x.flow, .int .i64 x.cost, .int .u64 x.id, .int .i64 x.tag, .int .i64 x.n]] w fun e w' => ∃ k : Nat, e = .returned (.int .i64 k) ∧ k < xs.length ∧ gat xs k = x ∧ Sep w0 w' O (own 65 5 A xs.length c (hv xs) :: L) := by
  have h0 : 0 < xs.length := List.length_pos_of_mem hx
  obtain ⟨a, rfl⟩ := HS.own_some h0
  have HB := HS.alloc #[.int .i64 x.flow, .int .i64 x.cost, .int .u64 x.id, .int .i64 x.tag, .int .i64 x.n] 65
  obtain ⟨gb, hgb⟩ : ∃ gb, gb = w.heap.size := ⟨_, rfl⟩
  rw [← hgb] at HB
  have HG := hid hgb
  clear hgb HS h0
  have HX := hid hx
  obtain ⟨N, hN⟩ : ∃ N, N = xs.length := ⟨_, rfl⟩
  have HN := hid hN
  rw [← hN] at HB hn ⊢
  clear hx hN
  go_enter Try.func28, Try.ntmps28
  go_wp2
  rw [← HG.out]
  go_loopw [8] (fun v wr => ∃ k : Nat, v = .int .i64 k ∧ k ≤ N ∧ (∀ j, j < k → gat xs j ≠ x) ∧ Sep w0 wr O (blk gb 65 #[.int .i64 x.flow, .int .i64 x.cost, .int .u64 x.id, .int .i64 x.tag, .int .i64 x.n] :: own 65 5 (some ⟨a, 0, none⟩) N c (hv xs) :: L)) (fun v _ => N - (intOf v).toNat)
  case atStart => exact ⟨0, rfl, Nat.zero_le _, fun j hj => absurd hj (Nat.not_lt_zero j), HB⟩
  case round =>
    obtain ⟨k, rfl, hk, hno, H1⟩ := hrel
    have HNO := hid hno
    clear hno HB
    by_cases hlt : k < N
    · have hk1 : (k : Int) < N := by omega
      have hkx : k < xs.length := by have := HN.out; omega
      obtain ⟨y, hy⟩ : ∃ y, y = gat xs k := ⟨_, rfl⟩
      have b0 := H1.blkAt 0 rfl
      have b1 := H1.blkAt 1 rfl
      have b2 := H1.blkAt 2 rfl
      have b3 := H1.blkAt 3 rfl
      have b4 := H1.blkAt 4 rfl
      have c0 : wr.cell? ⟨a, k * 5, none⟩ = some (.int .i64 y.flow) := H1.up1.hcell hkx HN.out.symm 0 (by rw [← hy]; rfl)
      have c1 : wr.cell? ⟨a, k * 5 + 1, none⟩ = some (.int .i64 y.cost) := H1.up1.hcell hkx HN.out.symm 1 (by rw [← hy]; rfl)
      have c2 : wr.cell? ⟨a, k * 5 + 2, none⟩ = some (.int .u64 y.id) := H1.up1.hcell hkx HN.out.symm 2 (by rw [← hy]; rfl)
      have c3 : wr.cell? ⟨a, k * 5 + 3, none⟩ = some (.int .i64 y.tag) := H1.up1.hcell hkx HN.out.symm 3 (by rw [← hy]; rfl)
      have c4 : wr.cell? ⟨a, k * 5 + 4, none⟩ = some (.int .i64 y.n) := H1.up1.hcell hkx HN.out.symm 4 (by rw [← hy]; rfl)
      have HY := hid hy
      clear hy hkx
      by_cases hxy : x = y
      · have HXY := hid hxy
        rw [← hxy] at c0 c1 c2 c3 c4
        clear hxy
        go_upto_region 4 with (fail)
        go_quiet (fail)
        go_wp2
        go_ret
        exact ⟨k, rfl, hlt, by rw [← HY.out, HXY.out], (H1.drewN nq).drop⟩
      · have HXY := hid hxy
        rcases hd_ne hxy with h1 | ⟨h1, h2⟩ | ⟨h1, h2, h3⟩ | ⟨h1, h2, h3, h4⟩ | ⟨h1, h2, h3, h4, h5⟩
        all_goals
          clear hxy
          go_upto_region 4 with (fail)
          go_quiet (fail)
          go_wp2
          go_roundw
          case rel => exact ⟨k + 1, by go_num, by omega, fun j hj => by
            by_cases hjk : j = k
            · rw [hjk, ← HY.out]; exact fun h => HXY.out h.symm
            · exact HNO.out j (by omega), H1.drewN nq⟩
          case measure => simp [intOf]; omega
    · exfalso
      obtain ⟨j, hj, hjx⟩ := List.getElem_of_mem HX.out
      refine HNO.out j (by have := HN.out; omega) ?_
      unfold gat
      rw [List.getElem?_eq_getElem hj, hjx]
      rfl

theorem qnew_calls (HS : Sep w0 w O L) : Calls Try.prog 7 #[] w fun e w' => ∃ g, e = .returned (.pointer (some ⟨g, 0, none⟩)) ∧ Sep w0 w' O (quA g 0 noQu :: L) := by
  have H1 := (HS.alloc (qc 0 0 [0, 0, 0, 0, 0, 0, 0, 0] [0, 0, 0, 0, 0, 0, 0, 0] (.slice none 0 0)) 61).nil 65 5
  go_enter Try.func7, Try.ntmps7
  go_wp2
  go_ret
  exact ⟨_, rfl, Sep.qued (q := noQu) (xs := []) (A := none) (c := 0) noQu_ok (fun k h1 h2 => absurd h2 (by simp)) (.refl _) rfl rfl H1⟩

set_option maxHeartbeats 1000000 in
theorem qat_calls {i : Int} (HS : Sep w0 w O (quA g b q :: L)) : Calls Try.prog 13 #[.pointer (some ⟨g, 0, none⟩), .int .i64 i] w fun e w' => e = .returned (.tuple #[.agg #[.int .i64 (tkAt q i).flow, .int .i64 (tkAt q i).cost, .int .u64 (tkAt q i).id], .bool (tkIs q i)]) ∧ Sep w0 w' O (quA g b q :: L) := by
  have HB := HS.alloc #[.int .i64 0, .int .i64 0, .int .u64 0] 35
  obtain ⟨gb, hgb⟩ : ∃ gb, gb = w.heap.size := ⟨_, rfl⟩
  rw [← hgb] at HB
  have HG := hid hgb
  clear hgb HS
  have hA := qall_calls HB.up1
  obtain ⟨hok, -⟩ := HB.up1.unqu
  have hsm := hok.small
  clear hok
  by_cases hr : i < 0 ∨ (q.S.length : Int) ≤ i
  · have e1 : tkAt q i = ⟨0, 0, 0, 0, 0⟩ := by unfold tkAt; rw [if_pos hr]
    have e2 : tkIs q i = false := by unfold tkIs; rw [if_pos hr]
    rw [e1, e2]
    clear e1 e2
    have HR := hid hr
    clear hr
    go_enter Try.func13, Try.ntmps13
    go_upto_region 1 with (fail)
    rw [← HG.out]
    go_wp2_with fail
    refine hA.mono ?_
    rintro e w1 ⟨A, c, rfl, H1⟩
    have H2 := H1.up2
    have d0 := H2.blkAt 0 rfl
    have d1 := H2.blkAt 1 rfl
    have d2 := H2.blkAt 2 rfl
    have f0 := H2.blk_frozen 0
    have f1 := H2.blk_frozen 1
    have f2 := H2.blk_frozen 2
    have H4 := ((H2.blk_set 0 (.int .i64 0)).blk_set 1 (.int .i64 0)).blk_set 2 (.int .u64 0)
    rcases HR.out with h0 | h1
    · go_wp2
      (try simp only [Exit.inBlock, Exit.then])
      refine bodyPost_ret (results_rowa rfl _ _ _ _ _ _ _ rfl H4.blk_heap Try.underlying35 rfl info_item) rfl ?_
      exact ⟨rfl, H4.sel 3 [2]⟩
    · have h0 : ¬ i < 0 := by omega
      go_wp2
      (try simp only [Exit.inBlock, Exit.then])
      refine bodyPost_ret (results_rowa rfl _ _ _ _ _ _ _ rfl H4.blk_heap Try.underlying35 rfl info_item) rfl ?_
      exact ⟨rfl, H4.sel 3 [2]⟩
  · have e1 : tkAt q i = gat q.S i.toNat := by unfold tkAt; rw [if_neg hr]
    have e2 : tkIs q i = true := by unfold tkIs; rw [if_neg hr]
    rw [e1, e2]
    clear e1 e2
    obtain ⟨k, rfl⟩ := Int.eq_ofNat_of_zero_le (show 0 ≤ i by omega)
    rw [Int.toNat_natCast]
    have hk : k < q.S.length := by omega
    have h0 : ¬ (k : Int) < 0 := by omega
    have h1 : ¬ (q.S.length : Int) ≤ k := by omega
    have h2 : (k : Int) < q.S.length := by omega
    obtain ⟨y, hy⟩ : ∃ y, y = gat q.S k := ⟨_, rfl⟩
    have HY := hid hy
    rw [← hy]
    clear hr hy
    go_enter Try.func13, Try.ntmps13
    go_upto_region 1 with (fail)
    rw [← HG.out]
    go_wp2_with fail
    refine hA.mono ?_
    rintro e w1 ⟨A, c, rfl, H1⟩
    obtain ⟨a, rfl⟩ := H1.own_some (by omega)
    have H2 := H1.up2
    have d0 := H2.blkAt 0 rfl
    have d1 := H2.blkAt 1 rfl
    have d2 := H2.blkAt 2 rfl
    have f0 := H2.blk_frozen 0
    have f1 := H2.blk_frozen 1
    have f2 := H2.blk_frozen 2
    have c0 : w1.cell? ⟨a, k * 5, none⟩ = some (.int .i64 y.flow) := H1.hcell hk rfl 0 (by rw [← HY.out]; rfl)
    have c1 : w1.cell? ⟨a, k * 5 + 1, none⟩ = some (.int .i64 y.cost) := H1.hcell hk rfl 1 (by rw [← HY.out]; rfl)
    have c2 : w1.cell? ⟨a, k * 5 + 2, none⟩ = some (.int .u64 y.id) := H1.hcell hk rfl 2 (by rw [← HY.out]; rfl)
    have H3 := ((H2.blk_set 0 (.int .i64 y.flow)).blk_set 1 (.int .i64 y.cost)).blk_set 2 (.int .u64 y.id)
    clear H1 hA
    go_wp2
    (try simp only [Exit.inBlock, Exit.then])
    refine bodyPost_ret (results_rowa rfl _ _ _ _ _ _ _ rfl H3.blk_heap Try.underlying35 rfl info_item) rfl ?_
    exact ⟨rfl, H3.sel 3 [2]⟩
end
end Go.Proofs.Ytkdoocgjagpcbaa
