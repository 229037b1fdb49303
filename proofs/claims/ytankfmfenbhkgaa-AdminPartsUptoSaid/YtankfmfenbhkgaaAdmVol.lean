/-
  Contract of admin's reader: volume.
-/
import Derived.Test.YtankfmfenbhkgaaVols
import Derived.Test.YtankfmfenbhkgaaAdmTake
namespace Go.Proofs.Ytankfmfenbhkgaa
open Go.RowKit
set_option linter.unusedVariables false
set_option linter.unusedSimpArgs false
theorem info_vol : (Try.prog.info? 48).map (·.size) = some 6 := by kernel_rfl
abbrev zVol : Array Value := #[.int .u64 0, .string noStr, .int .u64 0, .int .u64 0, .bool false, .int .u64 0]
section
variable {w0 w : World} {O : Nat → Prop} {L : List Asr}
theorem cut_vol (l : List Int) (a : Nat) : cut (l.drop a) [8, 8, 8, 1, 1] = [fN l a 8, fN l (a + 8) 8, fN l (a + 16) 8, fN l (a + 24) 1, fN l (a + 25) 1] := by
  simp [cut, fN, List.drop_drop]

set_option maxHeartbeats 4000000 in
set_option maxRecDepth 100000 in
theorem rvol_zero {g a n c : Nat} {A : Option Addr} {l : List Int} {stop : Bool} {e E : Int} (hE : E = if stop then e else 0) (HS : Sep w0 w O (rdB g A n c a stop e :: L)) (hr : Rb w0 O L 1 A n (by8 l)) (hb : Byt l) (hA : (A = none ∧ n = 0 ∧ c = 0) ∨ ∃ ad, A = some ad) (hc : n ≤ c) (hn : n ≤ 140737488355328) (ha : a ≤ n) (h : stop = true ∨ n < a + 26) :
    Calls Try.prog 37 #[.pointer (some ⟨g, 0, none⟩)] w fun e' w' => e' = .returned (.agg zVol) ∧ Sep w0 w' O (rdB g A n c a true E :: L) := by
  have hn' := hr.cons.klen HS
  have hs0 := fun (w : World) (c : Nat) => run_convert_bytes_nil (P := Try.prog) w 25 5 Try.underlying25 Try.underlying5 0 c 9 Try.underlying9
  have HSv := (HS.alloc zVol 48)
  have HSb := (HSv.litB #[.int .i64 8, .int .i64 8, .int .i64 8, .int .i64 1, .int .i64 1] 3 1 5 rfl (by decide) (B := w.heap.size + 1) (by simp)).up2
  have HE := hid hE
  have HH : Aside (stop = true ∨ n < a + tot [8, 8, 8, 1, 1]) := ⟨by simpa [tot] using h⟩
  clear hE h
  go_enter Try.func37, Try.ntmps37
  go_wp2_with fail
  refine (rnumbers_no (ss := [8, 8, 8, 1, 1]) HE.out HSb (by decide) (by decide) hn ha HH.out).mono ?_
  rintro e' w2 ⟨A2, rfl, HS3⟩
  obtain ⟨gz, rfl⟩ := HS3.own_some (by decide)
  replace HS3 : Sep w0 w2 O (own 22 1 (some ⟨gz, 0, none⟩) 5 5 (kv .u64 [(0 : Int), (0 : Int), (0 : Int), (0 : Int), (0 : Int)]) :: rdB g A n c a true E :: blk w.heap.size 48 zVol :: L) := HS3
  have n3 : w2.cell? ⟨gz, 3, none⟩ = some (.int .u64 0) := HS3.kcell (j := 3) (by simp) rfl
  go_wp2_with fail
  refine (rfail_stop HS3.up1).mono ?_
  rintro e' w3 ⟨rfl, HS4⟩
  replace HS4 : Sep w0 w3 O (rdB g A n c a true E :: own 22 1 (some ⟨gz, 0, none⟩) 5 5 (kv .u64 [(0 : Int), (0 : Int), (0 : Int), (0 : Int), (0 : Int)]) :: blk w.heap.size 48 zVol :: L) := HS4
  clear n3
  have n4 : w3.cell? ⟨gz, 4, none⟩ = some (.int .u64 0) := HS4.up1.kcell (j := 4) (by simp) rfl
  go_wp2_with fail
  refine (rfail_stop HS4).mono ?_
  rintro e' w4 ⟨rfl, HS5⟩
  replace HS5 : Sep w0 w4 O (rdB g A n c a true E :: own 22 1 (some ⟨gz, 0, none⟩) 5 5 (kv .u64 [(0 : Int), (0 : Int), (0 : Int), (0 : Int), (0 : Int)]) :: blk w.heap.size 48 zVol :: L) := HS5
  clear n4
  have Z1 : Aside (∀ j, j < 5 → w4.drew.cell? ⟨gz, j, none⟩ = ([.int .u64 0, .int .u64 0, .int .u64 0, .int .u64 0, .int .u64 0] : List Value)[j]?) := ⟨fun j hj => HS5.drew.up1.own_cell hj⟩
  go_upto_region 4 with (fail)
  go_region_held_law (fun w' => ∀ j, j < 5 → w'.cell? ⟨gz, j, none⟩ = ([.int .u64 0, .int .u64 0, .int .u64 0, .int .u64 0, .int .u64 0] : List Value)[j]?)
    (first | with_reducible exact Z3.out | with_reducible exact Z2.out | with_reducible exact Z1.out)
    (first
      | (go_at_call 33; refine (rtake_no HS5.drew hn ha (.inl rfl)).mono ?_; rintro e' w5 ⟨rfl, HS6⟩; have c0 := HS6.up2.blk_at 0 rfl; have c1 := HS6.up2.blk_at 1 rfl; have c2 := HS6.up2.blk_at 2 rfl; have c3 := HS6.up2.blk_at 3 rfl; have c4 := HS6.up2.blk_at 4 rfl; have c5 := HS6.up2.blk_at 5 rfl; have f0 := HS6.up2.blk_frozen 0; have f1 := HS6.up2.blk_frozen 1; have f2 := HS6.up2.blk_frozen 2; have f3 := HS6.up2.blk_frozen 3; have f4 := HS6.up2.blk_frozen 4; have f5 := HS6.up2.blk_frozen 5; have HR := HS6.up2.blk_set6 (.int .u64 0) (.string ByteArray.empty) (.int .u64 0) (.int .u64 0) (.bool false) (.int .u64 0); have Z2 : Aside (∀ j, j < 5 → w5.cell? ⟨gz, j, none⟩ = ([.int .u64 0, .int .u64 0, .int .u64 0, .int .u64 0, .int .u64 0] : List Value)[j]?) := ⟨fun j hj => HS6.up1.own_cell hj⟩; have Z3 : Aside (∀ j, j < 5 → ((((((w5.setCell ⟨w.heap.size, 0, none⟩ (.int .u64 0)).setCell ⟨w.heap.size, 1, none⟩ (.string ByteArray.empty)).setCell ⟨w.heap.size, 2, none⟩ (.int .u64 0)).setCell ⟨w.heap.size, 3, none⟩ (.int .u64 0)).setCell ⟨w.heap.size, 4, none⟩ (.bool false)).setCell ⟨w.heap.size, 5, none⟩ (.int .u64 0)).cell? ⟨gz, j, none⟩ = ([.int .u64 0, .int .u64 0, .int .u64 0, .int .u64 0, .int .u64 0] : List Value)[j]?) := ⟨fun j hj => HR.up2.own_cell hj⟩))
  all_goals
    go_wp2
    (try simp only [Exit.inBlock, Exit.then])
    refine bodyPost_ret (results_row1 rfl _ _ _ _ _ _ _ rfl HR.blk_heap Try.underlying48 rfl info_vol) rfl ?_
    exact ⟨rfl, HR.up1.sel 3 [0]⟩

set_option maxHeartbeats 4000000 in
set_option maxRecDepth 100000 in
theorem rvol_form {g a n c : Nat} {A : Option Addr} {l : List Int} (HS : Sep w0 w O (rdB g A n c a false 0 :: L)) (hr : Rb w0 O L 1 A n (by8 l)) (hb : Byt l) (hA : (A = none ∧ n = 0 ∧ c = 0) ∨ ∃ ad, A = some ad) (hc : n ≤ c) (hn : n ≤ 140737488355328) (ha : a ≤ n) (h26 : a + 26 ≤ n) (h : 1 < fN l (a + 24) 1) :
    Calls Try.prog 37 #[.pointer (some ⟨g, 0, none⟩)] w fun e' w' => ∃ v : Vol, e' = .returned (.agg v.cells.toArray) ∧ Sep w0 w' O (rdB g A n c ((a + 26 : Nat) : Int) true 5 :: L) := by
  have hn' := hr.cons.klen HS
  have hs0 := fun (w : World) (c : Nat) => run_convert_bytes_nil (P := Try.prog) w 25 5 Try.underlying25 Try.underlying5 0 c 9 Try.underlying9
  have HSv := (HS.alloc zVol 48)
  have HSb := (HSv.litB #[.int .i64 8, .int .i64 8, .int .i64 8, .int .i64 1, .int .i64 1] 3 1 5 rfl (by decide) (B := w.heap.size + 1) (by simp)).up2
  have hcut := cut_vol l a
  have hy := fN_bd hb (a + 25) 1
  simp only [show (256 : Int) ^ 1 = 256 from rfl] at hy
  obtain ⟨x0, hx0⟩ : ∃ x, fN l a 8 = x := ⟨_, rfl⟩
  obtain ⟨x1, hx1⟩ : ∃ x, fN l (a + 8) 8 = x := ⟨_, rfl⟩
  obtain ⟨x2, hx2⟩ : ∃ x, fN l (a + 16) 8 = x := ⟨_, rfl⟩
  obtain ⟨x3, hx3'⟩ : ∃ x, fN l (a + 24) 1 = x := ⟨_, rfl⟩
  rw [hx0, hx1, hx2, hx3'] at hcut
  obtain ⟨x4, hx4'⟩ : ∃ x, fN l (a + 25) 1 = x := ⟨_, rfl⟩
  rw [hx4'] at hcut hy
  have ht : a + tot [8, 8, 8, 1, 1] ≤ n := by simpa [tot] using h26
  have ha2 : a + 26 ≤ n := h26
  obtain ⟨B, hB⟩ : ∃ B, (x3 == 1) = B := ⟨_, rfl⟩
  have y1 : IntKind.i64.wrap x4 = x4 := by rw [IntKind.wrap_i64]; omega
  rw [hx3'] at h
  have hx3 : 1 < x3 := h
  have HC := hid hcut
  clear h hcut hx0 hx1 hx2 hx3' hx4' h26
  go_enter Try.func37, Try.ntmps37
  go_wp2_with fail
  refine (rnumbers_ok (ss := [8, 8, 8, 1, 1]) HSb hr.cons hb hA hc (by decide) (by decide) hn ht).mono ?_
  rintro e' w2 ⟨A2, rfl, HS3⟩
  rw [HC.out] at HS3
  obtain ⟨gz, rfl⟩ := HS3.own_some (by decide)
  replace HS3 : Sep w0 w2 O (own 22 1 (some ⟨gz, 0, none⟩) 5 5 (kv .u64 [(x0 : Int), (x1 : Int), (x2 : Int), (x3 : Int), (x4 : Int)]) :: rdB g A n c ((a + 26 : Nat) : Int) false 0 :: blk w.heap.size 48 zVol :: L) := HS3
  have n3 : w2.cell? ⟨gz, 3, none⟩ = some (.int .u64 x3) := HS3.kcell (j := 3) (by simp) rfl
  go_wp2_with fail
  refine (rfail_calls HS3.up1).mono ?_
  rintro e' w3 ⟨rfl, HS4⟩
  first
    | (rw [decide_eq_true hx3] at HS4)
    | (rw [decide_eq_false (Int.not_lt.2 hx3)] at HS4)
    | skip
  replace HS4 : Sep w0 w3 O (rdB g A n c ((a + 26 : Nat) : Int) true 5 :: own 22 1 (some ⟨gz, 0, none⟩) 5 5 (kv .u64 [(x0 : Int), (x1 : Int), (x2 : Int), (x3 : Int), (x4 : Int)]) :: blk w.heap.size 48 zVol :: L) := HS4
  clear n3
  have n4 : w3.cell? ⟨gz, 4, none⟩ = some (.int .u64 x4) := HS4.up1.kcell (j := 4) (by simp) rfl
  go_wp2_with fail
  refine (rfail_stop HS4).mono ?_
  rintro e' w4 ⟨rfl, HS5⟩
  replace HS5 : Sep w0 w4 O (rdB g A n c ((a + 26 : Nat) : Int) true 5 :: own 22 1 (some ⟨gz, 0, none⟩) 5 5 (kv .u64 [(x0 : Int), (x1 : Int), (x2 : Int), (x3 : Int), (x4 : Int)]) :: blk w.heap.size 48 zVol :: L) := HS5
  clear n4
  have Z1 : Aside (∀ j, j < 5 → w4.drew.cell? ⟨gz, j, none⟩ = ([.int .u64 x0, .int .u64 x1, .int .u64 x2, .int .u64 x3, .int .u64 x4] : List Value)[j]?) := ⟨fun j hj => HS5.drew.up1.own_cell hj⟩
  go_upto_region 4 with (fail)
  go_region_held_law (fun w' => ∀ j, j < 5 → w'.cell? ⟨gz, j, none⟩ = ([.int .u64 x0, .int .u64 x1, .int .u64 x2, .int .u64 x3, .int .u64 x4] : List Value)[j]?)
    (first | with_reducible exact Z3.out | with_reducible exact Z2.out | with_reducible exact Z1.out)
    (first
      | (go_at_call 33; refine (rtake_no HS5.drew hn ha2 (.inl rfl)).mono ?_; rintro e' w5 ⟨rfl, HS6⟩; have c0 := HS6.up2.blk_at 0 rfl; have c1 := HS6.up2.blk_at 1 rfl; have c2 := HS6.up2.blk_at 2 rfl; have c3 := HS6.up2.blk_at 3 rfl; have c4 := HS6.up2.blk_at 4 rfl; have c5 := HS6.up2.blk_at 5 rfl; have f0 := HS6.up2.blk_frozen 0; have f1 := HS6.up2.blk_frozen 1; have f2 := HS6.up2.blk_frozen 2; have f3 := HS6.up2.blk_frozen 3; have f4 := HS6.up2.blk_frozen 4; have f5 := HS6.up2.blk_frozen 5; have HR := HS6.up2.blk_set6 (.int .u64 x0) (.string ByteArray.empty) (.int .u64 x1) (.int .u64 0) (.bool B) (.int .u64 x2); have Z2 : Aside (∀ j, j < 5 → w5.cell? ⟨gz, j, none⟩ = ([.int .u64 x0, .int .u64 x1, .int .u64 x2, .int .u64 x3, .int .u64 x4] : List Value)[j]?) := ⟨fun j hj => HS6.up1.own_cell hj⟩; have Z3 : Aside (∀ j, j < 5 → ((((((w5.setCell ⟨w.heap.size, 0, none⟩ (.int .u64 x0)).setCell ⟨w.heap.size, 1, none⟩ (.string ByteArray.empty)).setCell ⟨w.heap.size, 2, none⟩ (.int .u64 x1)).setCell ⟨w.heap.size, 3, none⟩ (.int .u64 0)).setCell ⟨w.heap.size, 4, none⟩ (.bool B)).setCell ⟨w.heap.size, 5, none⟩ (.int .u64 x2)).cell? ⟨gz, j, none⟩ = ([.int .u64 x0, .int .u64 x1, .int .u64 x2, .int .u64 x3, .int .u64 x4] : List Value)[j]?) := ⟨fun j hj => HR.up2.own_cell hj⟩))
  all_goals
    go_wp2
    (try simp only [Exit.inBlock, Exit.then])
    refine bodyPost_ret (results_row1 rfl _ _ _ _ _ _ _ rfl HR.blk_heap Try.underlying48 rfl info_vol) rfl ?_
    exact ⟨⟨x0, noStr, x1, 0, B, x2⟩, rfl, HR.up1.sel 3 [0]⟩

set_option maxHeartbeats 4000000 in
set_option maxRecDepth 100000 in
theorem rvol_long {g a n c : Nat} {A : Option Addr} {l : List Int} (HS : Sep w0 w O (rdB g A n c a false 0 :: L)) (hr : Rb w0 O L 1 A n (by8 l)) (hb : Byt l) (hA : (A = none ∧ n = 0 ∧ c = 0) ∨ ∃ ad, A = some ad) (hc : n ≤ c) (hn : n ≤ 140737488355328) (ha : a ≤ n) (h26 : a + 26 ≤ n) (h : ¬ 1 < fN l (a + 24) 1) (h' : 16 < fN l (a + 25) 1) :
    Calls Try.prog 37 #[.pointer (some ⟨g, 0, none⟩)] w fun e' w' => ∃ v : Vol, e' = .returned (.agg v.cells.toArray) ∧ Sep w0 w' O (rdB g A n c ((a + 26 : Nat) : Int) true 3 :: L) := by
  have hn' := hr.cons.klen HS
  have hs0 := fun (w : World) (c : Nat) => run_convert_bytes_nil (P := Try.prog) w 25 5 Try.underlying25 Try.underlying5 0 c 9 Try.underlying9
  have HSv := (HS.alloc zVol 48)
  have HSb := (HSv.litB #[.int .i64 8, .int .i64 8, .int .i64 8, .int .i64 1, .int .i64 1] 3 1 5 rfl (by decide) (B := w.heap.size + 1) (by simp)).up2
  have hcut := cut_vol l a
  have hy := fN_bd hb (a + 25) 1
  simp only [show (256 : Int) ^ 1 = 256 from rfl] at hy
  obtain ⟨x0, hx0⟩ : ∃ x, fN l a 8 = x := ⟨_, rfl⟩
  obtain ⟨x1, hx1⟩ : ∃ x, fN l (a + 8) 8 = x := ⟨_, rfl⟩
  obtain ⟨x2, hx2⟩ : ∃ x, fN l (a + 16) 8 = x := ⟨_, rfl⟩
  obtain ⟨x3, hx3'⟩ : ∃ x, fN l (a + 24) 1 = x := ⟨_, rfl⟩
  rw [hx0, hx1, hx2, hx3'] at hcut
  obtain ⟨x4, hx4'⟩ : ∃ x, fN l (a + 25) 1 = x := ⟨_, rfl⟩
  rw [hx4'] at hcut hy
  have ht : a + tot [8, 8, 8, 1, 1] ≤ n := by simpa [tot] using h26
  have ha2 : a + 26 ≤ n := h26
  obtain ⟨B, hB⟩ : ∃ B, (x3 == 1) = B := ⟨_, rfl⟩
  have y1 : IntKind.i64.wrap x4 = x4 := by rw [IntKind.wrap_i64]; omega
  rw [hx3'] at h
  rw [hx4'] at h'
  have hx3 : ¬ 1 < x3 := h
  have hx4 : 16 < x4 := h'
  have HC := hid hcut
  clear h h' hcut hx0 hx1 hx2 hx3' hx4' h26
  go_enter Try.func37, Try.ntmps37
  go_wp2_with fail
  refine (rnumbers_ok (ss := [8, 8, 8, 1, 1]) HSb hr.cons hb hA hc (by decide) (by decide) hn ht).mono ?_
  rintro e' w2 ⟨A2, rfl, HS3⟩
  rw [HC.out] at HS3
  obtain ⟨gz, rfl⟩ := HS3.own_some (by decide)
  replace HS3 : Sep w0 w2 O (own 22 1 (some ⟨gz, 0, none⟩) 5 5 (kv .u64 [(x0 : Int), (x1 : Int), (x2 : Int), (x3 : Int), (x4 : Int)]) :: rdB g A n c ((a + 26 : Nat) : Int) false 0 :: blk w.heap.size 48 zVol :: L) := HS3
  have n3 : w2.cell? ⟨gz, 3, none⟩ = some (.int .u64 x3) := HS3.kcell (j := 3) (by simp) rfl
  go_wp2_with fail
  refine (rfail_calls HS3.up1).mono ?_
  rintro e' w3 ⟨rfl, HS4⟩
  first
    | (rw [decide_eq_true hx3] at HS4)
    | (rw [decide_eq_false (Int.not_lt.2 hx3)] at HS4)
    | skip
  replace HS4 : Sep w0 w3 O (rdB g A n c ((a + 26 : Nat) : Int) false 0 :: own 22 1 (some ⟨gz, 0, none⟩) 5 5 (kv .u64 [(x0 : Int), (x1 : Int), (x2 : Int), (x3 : Int), (x4 : Int)]) :: blk w.heap.size 48 zVol :: L) := HS4
  clear n3
  have n4 : w3.cell? ⟨gz, 4, none⟩ = some (.int .u64 x4) := HS4.up1.kcell (j := 4) (by simp) rfl
  go_wp2_with fail
  refine (rfail_calls HS4).mono ?_
  rintro e' w4 ⟨rfl, HS5⟩
  first
    | (rw [decide_eq_true hx4] at HS5)
    | (rw [decide_eq_false (Int.not_lt.2 hx4)] at HS5)
    | skip
  replace HS5 : Sep w0 w4 O (rdB g A n c ((a + 26 : Nat) : Int) true 3 :: own 22 1 (some ⟨gz, 0, none⟩) 5 5 (kv .u64 [(x0 : Int), (x1 : Int), (x2 : Int), (x3 : Int), (x4 : Int)]) :: blk w.heap.size 48 zVol :: L) := HS5
  clear n4
  have Z1 : Aside (∀ j, j < 5 → w4.drew.cell? ⟨gz, j, none⟩ = ([.int .u64 x0, .int .u64 x1, .int .u64 x2, .int .u64 x3, .int .u64 x4] : List Value)[j]?) := ⟨fun j hj => HS5.drew.up1.own_cell hj⟩
  go_upto_region 4 with (fail)
  go_region_held_law (fun w' => ∀ j, j < 5 → w'.cell? ⟨gz, j, none⟩ = ([.int .u64 x0, .int .u64 x1, .int .u64 x2, .int .u64 x3, .int .u64 x4] : List Value)[j]?)
    (first | with_reducible exact Z3.out | with_reducible exact Z2.out | with_reducible exact Z1.out)
    (first
      | (go_at_call 33; refine (rtake_no HS5.drew hn ha2 (.inl rfl)).mono ?_; rintro e' w5 ⟨rfl, HS6⟩; have c0 := HS6.up2.blk_at 0 rfl; have c1 := HS6.up2.blk_at 1 rfl; have c2 := HS6.up2.blk_at 2 rfl; have c3 := HS6.up2.blk_at 3 rfl; have c4 := HS6.up2.blk_at 4 rfl; have c5 := HS6.up2.blk_at 5 rfl; have f0 := HS6.up2.blk_frozen 0; have f1 := HS6.up2.blk_frozen 1; have f2 := HS6.up2.blk_frozen 2; have f3 := HS6.up2.blk_frozen 3; have f4 := HS6.up2.blk_frozen 4; have f5 := HS6.up2.blk_frozen 5; have HR := HS6.up2.blk_set6 (.int .u64 x0) (.string ByteArray.empty) (.int .u64 x1) (.int .u64 0) (.bool B) (.int .u64 x2); have Z2 : Aside (∀ j, j < 5 → w5.cell? ⟨gz, j, none⟩ = ([.int .u64 x0, .int .u64 x1, .int .u64 x2, .int .u64 x3, .int .u64 x4] : List Value)[j]?) := ⟨fun j hj => HS6.up1.own_cell hj⟩; have Z3 : Aside (∀ j, j < 5 → ((((((w5.setCell ⟨w.heap.size, 0, none⟩ (.int .u64 x0)).setCell ⟨w.heap.size, 1, none⟩ (.string ByteArray.empty)).setCell ⟨w.heap.size, 2, none⟩ (.int .u64 x1)).setCell ⟨w.heap.size, 3, none⟩ (.int .u64 0)).setCell ⟨w.heap.size, 4, none⟩ (.bool B)).setCell ⟨w.heap.size, 5, none⟩ (.int .u64 x2)).cell? ⟨gz, j, none⟩ = ([.int .u64 x0, .int .u64 x1, .int .u64 x2, .int .u64 x3, .int .u64 x4] : List Value)[j]?) := ⟨fun j hj => HR.up2.own_cell hj⟩))
  all_goals
    go_wp2
    (try simp only [Exit.inBlock, Exit.then])
    refine bodyPost_ret (results_row1 rfl _ _ _ _ _ _ _ rfl HR.blk_heap Try.underlying48 rfl info_vol) rfl ?_
    exact ⟨⟨x0, noStr, x1, 0, B, x2⟩, rfl, HR.up1.sel 3 [0]⟩

set_option maxHeartbeats 4000000 in
set_option maxRecDepth 100000 in
theorem rvol_few {g a n c : Nat} {A : Option Addr} {l : List Int} (HS : Sep w0 w O (rdB g A n c a false 0 :: L)) (hr : Rb w0 O L 1 A n (by8 l)) (hb : Byt l) (hA : (A = none ∧ n = 0 ∧ c = 0) ∨ ∃ ad, A = some ad) (hc : n ≤ c) (hn : n ≤ 140737488355328) (ha : a ≤ n) (h26 : a + 26 ≤ n) (h : ¬ 1 < fN l (a + 24) 1) (h' : ¬ 16 < fN l (a + 25) 1) (hf : (n : Int) < a + 26 + fN l (a + 25) 1) :
    Calls Try.prog 37 #[.pointer (some ⟨g, 0, none⟩)] w fun e' w' => ∃ v : Vol, e' = .returned (.agg v.cells.toArray) ∧ Sep w0 w' O (rdB g A n c ((a + 26 : Nat) : Int) true 0 :: L) := by
  have hn' := hr.cons.klen HS
  have hs0 := fun (w : World) (c : Nat) => run_convert_bytes_nil (P := Try.prog) w 25 5 Try.underlying25 Try.underlying5 0 c 9 Try.underlying9
  have HSv := (HS.alloc zVol 48)
  have HSb := (HSv.litB #[.int .i64 8, .int .i64 8, .int .i64 8, .int .i64 1, .int .i64 1] 3 1 5 rfl (by decide) (B := w.heap.size + 1) (by simp)).up2
  have hcut := cut_vol l a
  have hy := fN_bd hb (a + 25) 1
  simp only [show (256 : Int) ^ 1 = 256 from rfl] at hy
  obtain ⟨x0, hx0⟩ : ∃ x, fN l a 8 = x := ⟨_, rfl⟩
  obtain ⟨x1, hx1⟩ : ∃ x, fN l (a + 8) 8 = x := ⟨_, rfl⟩
  obtain ⟨x2, hx2⟩ : ∃ x, fN l (a + 16) 8 = x := ⟨_, rfl⟩
  obtain ⟨x3, hx3'⟩ : ∃ x, fN l (a + 24) 1 = x := ⟨_, rfl⟩
  rw [hx0, hx1, hx2, hx3'] at hcut
  obtain ⟨x4, hx4'⟩ : ∃ x, fN l (a + 25) 1 = x := ⟨_, rfl⟩
  rw [hx4'] at hcut hy
  have ht : a + tot [8, 8, 8, 1, 1] ≤ n := by simpa [tot] using h26
  have ha2 : a + 26 ≤ n := h26
  obtain ⟨B, hB⟩ : ∃ B, (x3 == 1) = B := ⟨_, rfl⟩
  have y1 : IntKind.i64.wrap x4 = x4 := by rw [IntKind.wrap_i64]; omega
  rw [hx3'] at h
  rw [hx4'] at h' hf
  have hx3 : ¬ 1 < x3 := h
  have hx4 : ¬ 16 < x4 := h'
  have HC := hid hcut
  have HF : Aside ((n : Int) - ((a + 26 : Nat) : Int) < x4) := ⟨by omega⟩
  clear h h' hf hcut hx0 hx1 hx2 hx3' hx4' h26
  go_enter Try.func37, Try.ntmps37
  go_wp2_with fail
  refine (rnumbers_ok (ss := [8, 8, 8, 1, 1]) HSb hr.cons hb hA hc (by decide) (by decide) hn ht).mono ?_
  rintro e' w2 ⟨A2, rfl, HS3⟩
  rw [HC.out] at HS3
  obtain ⟨gz, rfl⟩ := HS3.own_some (by decide)
  replace HS3 : Sep w0 w2 O (own 22 1 (some ⟨gz, 0, none⟩) 5 5 (kv .u64 [(x0 : Int), (x1 : Int), (x2 : Int), (x3 : Int), (x4 : Int)]) :: rdB g A n c ((a + 26 : Nat) : Int) false 0 :: blk w.heap.size 48 zVol :: L) := HS3
  have n3 : w2.cell? ⟨gz, 3, none⟩ = some (.int .u64 x3) := HS3.kcell (j := 3) (by simp) rfl
  go_wp2_with fail
  refine (rfail_calls HS3.up1).mono ?_
  rintro e' w3 ⟨rfl, HS4⟩
  first
    | (rw [decide_eq_true hx3] at HS4)
    | (rw [decide_eq_false (Int.not_lt.2 hx3)] at HS4)
    | skip
  replace HS4 : Sep w0 w3 O (rdB g A n c ((a + 26 : Nat) : Int) false 0 :: own 22 1 (some ⟨gz, 0, none⟩) 5 5 (kv .u64 [(x0 : Int), (x1 : Int), (x2 : Int), (x3 : Int), (x4 : Int)]) :: blk w.heap.size 48 zVol :: L) := HS4
  clear n3
  have n4 : w3.cell? ⟨gz, 4, none⟩ = some (.int .u64 x4) := HS4.up1.kcell (j := 4) (by simp) rfl
  go_wp2_with fail
  refine (rfail_calls HS4).mono ?_
  rintro e' w4 ⟨rfl, HS5⟩
  first
    | (rw [decide_eq_true hx4] at HS5)
    | (rw [decide_eq_false (Int.not_lt.2 hx4)] at HS5)
    | skip
  replace HS5 : Sep w0 w4 O (rdB g A n c ((a + 26 : Nat) : Int) false 0 :: own 22 1 (some ⟨gz, 0, none⟩) 5 5 (kv .u64 [(x0 : Int), (x1 : Int), (x2 : Int), (x3 : Int), (x4 : Int)]) :: blk w.heap.size 48 zVol :: L) := HS5
  clear n4
  have Z1 : Aside (∀ j, j < 5 → w4.drew.cell? ⟨gz, j, none⟩ = ([.int .u64 x0, .int .u64 x1, .int .u64 x2, .int .u64 x3, .int .u64 x4] : List Value)[j]?) := ⟨fun j hj => HS5.drew.up1.own_cell hj⟩
  go_upto_region 4 with (fail)
  go_region_held_law (fun w' => ∀ j, j < 5 → w'.cell? ⟨gz, j, none⟩ = ([.int .u64 x0, .int .u64 x1, .int .u64 x2, .int .u64 x3, .int .u64 x4] : List Value)[j]?)
    (first | with_reducible exact Z3.out | with_reducible exact Z2.out | with_reducible exact Z1.out)
    (first
      | (go_at_call 33; refine (rtake_no HS5.drew hn ha2 (.inr HF.out)).mono ?_; rintro e' w5 ⟨rfl, HS6⟩; have c0 := HS6.up2.blk_at 0 rfl; have c1 := HS6.up2.blk_at 1 rfl; have c2 := HS6.up2.blk_at 2 rfl; have c3 := HS6.up2.blk_at 3 rfl; have c4 := HS6.up2.blk_at 4 rfl; have c5 := HS6.up2.blk_at 5 rfl; have f0 := HS6.up2.blk_frozen 0; have f1 := HS6.up2.blk_frozen 1; have f2 := HS6.up2.blk_frozen 2; have f3 := HS6.up2.blk_frozen 3; have f4 := HS6.up2.blk_frozen 4; have f5 := HS6.up2.blk_frozen 5; have HR := HS6.up2.blk_set6 (.int .u64 x0) (.string ByteArray.empty) (.int .u64 x1) (.int .u64 0) (.bool B) (.int .u64 x2); have Z2 : Aside (∀ j, j < 5 → w5.cell? ⟨gz, j, none⟩ = ([.int .u64 x0, .int .u64 x1, .int .u64 x2, .int .u64 x3, .int .u64 x4] : List Value)[j]?) := ⟨fun j hj => HS6.up1.own_cell hj⟩; have Z3 : Aside (∀ j, j < 5 → ((((((w5.setCell ⟨w.heap.size, 0, none⟩ (.int .u64 x0)).setCell ⟨w.heap.size, 1, none⟩ (.string ByteArray.empty)).setCell ⟨w.heap.size, 2, none⟩ (.int .u64 x1)).setCell ⟨w.heap.size, 3, none⟩ (.int .u64 0)).setCell ⟨w.heap.size, 4, none⟩ (.bool B)).setCell ⟨w.heap.size, 5, none⟩ (.int .u64 x2)).cell? ⟨gz, j, none⟩ = ([.int .u64 x0, .int .u64 x1, .int .u64 x2, .int .u64 x3, .int .u64 x4] : List Value)[j]?) := ⟨fun j hj => HR.up2.own_cell hj⟩))
  all_goals
    go_wp2
    (try simp only [Exit.inBlock, Exit.then])
    refine bodyPost_ret (results_row1 rfl _ _ _ _ _ _ _ rfl HR.blk_heap Try.underlying48 rfl info_vol) rfl ?_
    exact ⟨⟨x0, noStr, x1, 0, B, x2⟩, rfl, HR.up1.sel 3 [0]⟩

set_option maxHeartbeats 4000000 in
set_option maxRecDepth 100000 in
theorem rvol_ok {g a n c : Nat} {A : Option Addr} {l : List Int} {k : Nat} (HS : Sep w0 w O (rdB g A n c a false 0 :: L)) (hr : Rb w0 O L 1 A n (by8 l)) (hb : Byt l) (hA : (A = none ∧ n = 0 ∧ c = 0) ∨ ∃ ad, A = some ad) (hc : n ≤ c) (hn : n ≤ 140737488355328) (ha : a ≤ n) (h26 : a + 26 ≤ n) (h : ¬ 1 < fN l (a + 24) 1) (hk : fN l (a + 25) 1 = k) (h' : k ≤ 16) (hf : a + 26 + k ≤ n) :
    Calls Try.prog 37 #[.pointer (some ⟨g, 0, none⟩)] w fun e' w' => e' = .returned (.agg (Vol.mk (fN l a 8) (strOfNums ((l.drop (a + 26)).take k)) (fN l (a + 8) 8) 0 (fN l (a + 24) 1 == 1) (fN l (a + 16) 8)).cells.toArray) ∧ Sep w0 w' O (rdB g A n c ((a + 26 + k : Nat) : Int) false 0 :: L) := by
  have hn' := hr.cons.klen HS
  have hs0 := fun (w : World) (c : Nat) => run_convert_bytes_nil (P := Try.prog) w 25 5 Try.underlying25 Try.underlying5 0 c 9 Try.underlying9
  have HSv := (HS.alloc zVol 48)
  have HSb := (HSv.litB #[.int .i64 8, .int .i64 8, .int .i64 8, .int .i64 1, .int .i64 1] 3 1 5 rfl (by decide) (B := w.heap.size + 1) (by simp)).up2
  have hcut := cut_vol l a
  have hy := fN_bd hb (a + 25) 1
  simp only [show (256 : Int) ^ 1 = 256 from rfl] at hy
  obtain ⟨x0, hx0⟩ : ∃ x, fN l a 8 = x := ⟨_, rfl⟩
  obtain ⟨x1, hx1⟩ : ∃ x, fN l (a + 8) 8 = x := ⟨_, rfl⟩
  obtain ⟨x2, hx2⟩ : ∃ x, fN l (a + 16) 8 = x := ⟨_, rfl⟩
  obtain ⟨x3, hx3'⟩ : ∃ x, fN l (a + 24) 1 = x := ⟨_, rfl⟩
  rw [hx0, hx1, hx2, hx3'] at hcut
  have hx4' := hk
  rw [hx4'] at hcut hy
  have ht : a + tot [8, 8, 8, 1, 1] ≤ n := by simpa [tot] using h26
  have ha2 : a + 26 ≤ n := h26
  rw [hx0, hx1, hx2, hx3']
  obtain ⟨nm, hnm⟩ : ∃ nm, nm = strOfNums ((l.drop (a + 26)).take k) := ⟨_, rfl⟩
  rw [← hnm]
  obtain ⟨B, hB⟩ : ∃ B, (x3 == 1) = B := ⟨_, rfl⟩
  rw [hB]
  have y1 : IntKind.i64.wrap (k : Int) = k := by rw [IntKind.wrap_i64]; omega
  rw [hx3'] at h
  have hx3 : ¬ 1 < x3 := h
  have hx4 : ¬ 16 < (k : Int) := by omega
  have HC := hid hcut
  have HNM := hid hnm
  have HF : Aside (a + 26 + k ≤ n) := ⟨hf⟩
  have HA := hid hA
  clear h h' hf hcut hx0 hx1 hx2 hx3' hx4' h26 hnm hA hk
  go_enter Try.func37, Try.ntmps37
  go_wp2_with fail
  refine (rnumbers_ok (ss := [8, 8, 8, 1, 1]) HSb hr.cons hb HA.out hc (by decide) (by decide) hn ht).mono ?_
  rintro e' w2 ⟨A2, rfl, HS3⟩
  rw [HC.out] at HS3
  obtain ⟨gz, rfl⟩ := HS3.own_some (by decide)
  replace HS3 : Sep w0 w2 O (own 22 1 (some ⟨gz, 0, none⟩) 5 5 (kv .u64 [(x0 : Int), (x1 : Int), (x2 : Int), (x3 : Int), (k : Int)]) :: rdB g A n c ((a + 26 : Nat) : Int) false 0 :: blk w.heap.size 48 zVol :: L) := HS3
  have n3 : w2.cell? ⟨gz, 3, none⟩ = some (.int .u64 x3) := HS3.kcell (j := 3) (by simp) rfl
  go_wp2_with fail
  refine (rfail_calls HS3.up1).mono ?_
  rintro e' w3 ⟨rfl, HS4⟩
  first
    | (rw [decide_eq_true hx3] at HS4)
    | (rw [decide_eq_false (Int.not_lt.2 hx3)] at HS4)
    | skip
  replace HS4 : Sep w0 w3 O (rdB g A n c ((a + 26 : Nat) : Int) false 0 :: own 22 1 (some ⟨gz, 0, none⟩) 5 5 (kv .u64 [(x0 : Int), (x1 : Int), (x2 : Int), (x3 : Int), (k : Int)]) :: blk w.heap.size 48 zVol :: L) := HS4
  clear n3
  have n4 : w3.cell? ⟨gz, 4, none⟩ = some (.int .u64 k) := HS4.up1.kcell (j := 4) (by simp) rfl
  go_wp2_with fail
  refine (rfail_calls HS4).mono ?_
  rintro e' w4 ⟨rfl, HS5⟩
  first
    | (rw [decide_eq_true hx4] at HS5)
    | (rw [decide_eq_false (Int.not_lt.2 hx4)] at HS5)
    | skip
  replace HS5 : Sep w0 w4 O (rdB g A n c ((a + 26 : Nat) : Int) false 0 :: own 22 1 (some ⟨gz, 0, none⟩) 5 5 (kv .u64 [(x0 : Int), (x1 : Int), (x2 : Int), (x3 : Int), (k : Int)]) :: blk w.heap.size 48 zVol :: L) := HS5
  clear n4
  have Z1 : Aside (∀ j, j < 5 → w4.drew.cell? ⟨gz, j, none⟩ = ([.int .u64 x0, .int .u64 x1, .int .u64 x2, .int .u64 x3, .int .u64 k] : List Value)[j]?) := ⟨fun j hj => HS5.drew.up1.own_cell hj⟩
  go_upto_region 4 with (fail)
  go_region_held_law (fun w' => ∀ j, j < 5 → w'.cell? ⟨gz, j, none⟩ = ([.int .u64 x0, .int .u64 x1, .int .u64 x2, .int .u64 x3, .int .u64 k] : List Value)[j]?)
    (first | with_reducible exact Z3.out | with_reducible exact Z2.out | with_reducible exact Z1.out)
    (first
      | (go_at_call 33; refine (rtake_yes_i HS5.drew hr.cons.cons HA.out hc hn rfl HF.out).mono ?_; rintro e' w5 ⟨A5, c5', rfl, hc5, hr5, HS6⟩; have hs5 := run_str (P := Try.prog) (c := c5') (hr5.cons.read HS6) 25 9 5 Try.underlying25 Try.underlying5 Try.underlying9; rw [← HNM.out] at hs5; have c0 := HS6.up2.blk_at 0 rfl; have c1 := HS6.up2.blk_at 1 rfl; have c2 := HS6.up2.blk_at 2 rfl; have c3 := HS6.up2.blk_at 3 rfl; have c4 := HS6.up2.blk_at 4 rfl; have c5 := HS6.up2.blk_at 5 rfl; have f0 := HS6.up2.blk_frozen 0; have f1 := HS6.up2.blk_frozen 1; have f2 := HS6.up2.blk_frozen 2; have f3 := HS6.up2.blk_frozen 3; have f4 := HS6.up2.blk_frozen 4; have f5 := HS6.up2.blk_frozen 5; have HR := HS6.up2.blk_set6 (.int .u64 x0) (.string nm) (.int .u64 x1) (.int .u64 0) (.bool B) (.int .u64 x2); have Z2 : Aside (∀ j, j < 5 → w5.cell? ⟨gz, j, none⟩ = ([.int .u64 x0, .int .u64 x1, .int .u64 x2, .int .u64 x3, .int .u64 k] : List Value)[j]?) := ⟨fun j hj => HS6.up1.own_cell hj⟩; have Z3 : Aside (∀ j, j < 5 → ((((((w5.setCell ⟨w.heap.size, 0, none⟩ (.int .u64 x0)).setCell ⟨w.heap.size, 1, none⟩ (.string nm)).setCell ⟨w.heap.size, 2, none⟩ (.int .u64 x1)).setCell ⟨w.heap.size, 3, none⟩ (.int .u64 0)).setCell ⟨w.heap.size, 4, none⟩ (.bool B)).setCell ⟨w.heap.size, 5, none⟩ (.int .u64 x2)).cell? ⟨gz, j, none⟩ = ([.int .u64 x0, .int .u64 x1, .int .u64 x2, .int .u64 x3, .int .u64 k] : List Value)[j]?) := ⟨fun j hj => HR.up2.own_cell hj⟩))
  all_goals
    go_wp2
    (try simp only [Exit.inBlock, Exit.then])
    refine bodyPost_ret (results_row1 rfl _ _ _ _ _ _ _ rfl HR.blk_heap Try.underlying48 rfl info_vol) rfl ?_
    exact ⟨rfl, HR.up1.sel 3 [0]⟩
end
end Go.Proofs.Ytankfmfenbhkgaa
