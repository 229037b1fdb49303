/-
  Contract of admin.Take: a command that is whole; any tape.
-/
import Derived.Test.YtankfmfenbhkgaaAdmTake
import Derived.Test.YtankfmfenbhkgaaStrX
namespace Go.Proofs.Ytankfmfenbhkgaa
open Go.RowKit
set_option linter.unusedVariables false
set_option linter.unusedSimpArgs false
section
variable {w0 w : World} {O : Nat → Prop} {L : List Asr}

set_option maxHeartbeats 4000000 in
set_option maxRecDepth 100000 in
theorem admtake_ok1 {gt p q : Nat} {l : List Int} (HS : Sep w0 w O (Go.Proofs.Ytankfmfenbhkgaa.tape gt l :: L)) (hb : Byt l) (hl : l.length ≤ 140737488355328) (hm : num (l.take 4) = 1128878932) (hp : fN l 22 1 = p) (hq : fN l 23 1 = q)
    (hx : fN l 5 1 = 1) (hp16 : p ≤ 16) (hq16 : q ≤ 16) (hlen : 24 + p + q ≤ l.length) :
    Calls Try.prog 12 #[.pointer (some ⟨gt, 0, none⟩)] w fun e w' => e = .returned (.tuple #[admV (fN l 4 1) (fN l 6 8) (strOfNums ((l.drop 24).take p)) (strOfNums ((l.drop (24 + p)).take q)) (fN l 14 8) true, .bool true, .int .i64 0]) ∧ Sep w0 w' O (Go.Proofs.Ytankfmfenbhkgaa.tape gt (l.drop (24 + (p + q))) :: L) := by
  have HSb := (HS.alloc zAdm 24).up1
  obtain ⟨nms, hnms⟩ : ∃ nms, nms = strOfNums ((l.drop 24).take (p + q)) := ⟨_, rfl⟩
  have hsz : nms.size = p + q := by rw [hnms, strOfNums_size, List.length_take, List.length_drop]; omega
  obtain ⟨nm, hnm⟩ : ∃ nm, nm = strOfNums ((l.drop 24).take p) := ⟨_, rfl⟩
  obtain ⟨au, hau⟩ : ∃ au, au = strOfNums ((l.drop (24 + p)).take q) := ⟨_, rfl⟩
  rw [← hnm, ← hau]
  have x1e : nms.extract 0 p = nm := by rw [hnms, strOfNums_extract, hnm, List.drop_zero, List.take_take]; congr 2; omega
  have x2e : nms.extract p nms.size = au := by
    rw [hsz, hnms, strOfNums_extract, hau, List.drop_take, List.take_take, List.drop_drop]; congr 2; omega
  have hs1 : ∀ w, (Instr.slice 9 (.string nms) none (some (.int .u64 p)) none).run Try.prog w = .ok (.string nm) w := fun w => by
    rw [← x1e]; exact run_slice_string_h w _ _ Try.underlying9 .u64 p (by omega) (by omega)
  have hs2 : ∀ w, (Instr.slice 9 (.string nms) (some (.int .u64 p)) none none).run Try.prog w = .ok (.string au) w := fun w => by
    rw [← x2e]; exact run_slice_string_l w _ _ Try.underlying9 .u64 p (by omega) (by omega)
  have HNM := hid hnms
  clear hnm hau hnms x1e x2e hsz
  have hcut := cut_adm l
  rw [hp, hq] at hcut
  have hx0 := fN_bd hb 4 1
  simp only [show (256 : Int) ^ 1 = 256 from rfl] at hx0
  rw [hx] at hcut
  clear hx
  generalize fN l 4 1 = x0 at *
  generalize fN l 6 8 = x2 at *
  generalize fN l 14 8 = x3 at *
  have y1 : IntKind.u64.wrap ((p : Int) + q) = p + q := by rw [IntKind.wrap_u64]; omega
  have y2 : IntKind.i64.wrap ((p : Int) + q) = p + q := by rw [IntKind.wrap_i64]; omega
  have y3 : IntKind.i64.wrap x0 = x0 := by rw [IntKind.wrap_i64]; omega
  have HC := hid hcut
  have HM := hid hm
  have HPQ : Aside ((p : Int) + q = (p + q : Nat)) := ⟨by omega⟩
  have HPL : Aside (24 + (p + q) ≤ l.length) := ⟨by omega⟩
  clear hcut hm hp hq hlen
  rcases Decidable.em ((p : Int) < q) with hpq | hpq
  all_goals
    have hm16 : ¬ 16 < (p : Int) := by omega
    have hm16' : ¬ 16 < (q : Int) := by omega
    first
      | (have hN : Aside (p < q) := ⟨by omega⟩)
      | (have hN : Aside (¬ p < q) := ⟨by omega⟩)
    go_enter Try.func12, Try.ntmps12
    go_wp2_with fail
    refine (ropen_calls HSb hb hl (.inr (.inr ⟨by have := HPL.out; omega, HM.out, rfl, rfl, rfl⟩))).mono ?_
    rintro e w1 ⟨g, A, c, rfl, HS1⟩
    have hor := HS1.up1.own_or
    have hle := own_le HS1.up1
    have HS2 := (HS1.lit #[.int .i64 1, .int .i64 1, .int .i64 8, .int .i64 8, .int .i64 1, .int .i64 1] 3 1 6 rfl (by decide)).up1
    go_wp2_with fail
    refine (rnumbers_ok (ss := [1, 1, 8, 8, 1, 1]) HS2 Rb.i0 hb hor hle (by decide) (by decide) hl (by have := HPL.out; simp [tot]; omega)).mono ?_
    rintro e w2 ⟨A2, rfl, HS3⟩
    rw [HC.out] at HS3
    obtain ⟨gz, rfl⟩ := HS3.own_some (by decide)
    have HOR := hid hor
    have HLE := hid hle
    clear hor hle
    replace HS3 : Sep w0 w2 O (own 22 1 (some ⟨gz, 0, none⟩) 6 6 (kv .u64 [x0, 1, x2, x3, (p : Int), (q : Int)]) :: rdB g A l.length c (24 : Nat) false 0 :: own 5 1 A l.length c (by8 l) :: Go.Proofs.Ytankfmfenbhkgaa.tape gt l :: blk w.heap.size 24 zAdm :: L) := HS3
    have n1 : w2.cell? ⟨gz, 1, none⟩ = some (.int .u64 1) := HS3.kcell (j := 1) (by simp) rfl
    go_wp2_with fail
    refine (rfail_calls HS3.up1).mono ?_
    rintro e w3 ⟨rfl, HS4⟩
    replace HS4 : Sep w0 w3 O (rdB g A l.length c (24 : Nat) false 0 :: own 22 1 (some ⟨gz, 0, none⟩) 6 6 (kv .u64 [x0, 1, x2, x3, (p : Int), (q : Int)]) :: own 5 1 A l.length c (by8 l) :: Go.Proofs.Ytankfmfenbhkgaa.tape gt l :: blk w.heap.size 24 zAdm :: L) := HS4
    clear n1
    go_wp2_with fail
    go_region_held_law (fun w' => w'.cell? ⟨gz, 4, none⟩ = some (.int .u64 p) ∧ w'.cell? ⟨gz, 5, none⟩ = some (.int .u64 q)) (first | exact ⟨HS5.up1.kcell (j := 4) (by simp) rfl, HS5.up1.kcell (j := 5) (by simp) rfl⟩ | exact ⟨HS4.drew.up1.kcell (j := 4) (by simp) rfl, HS4.drew.up1.kcell (j := 5) (by simp) rfl⟩)
      (first
        | (go_at_call 32; refine (rfail_calls HS4.drew).mono ?_; rintro e w4 ⟨rfl, HS5⟩))
    all_goals
      first
        | (rw [if_pos hN.out] at HS5)
        | (rw [if_neg hN.out] at HS5)
        | skip
      first
        | (rw [decide_eq_false (Int.not_lt.2 hm16)] at HS5)
        | (rw [decide_eq_false (Int.not_lt.2 hm16')] at HS5)
        | skip
      replace HS5 : Sep w0 w4 O (rdB g A l.length c (24 : Nat) false 0 :: own 22 1 (some ⟨gz, 0, none⟩) 6 6 (kv .u64 [x0, 1, x2, x3, (p : Int), (q : Int)]) :: own 5 1 A l.length c (by8 l) :: Go.Proofs.Ytankfmfenbhkgaa.tape gt l :: blk w.heap.size 24 zAdm :: L) := HS5
      go_wp2_with fail
      go_region_held_law (fun w' => w'.cell? ⟨gz, 4, none⟩ = some (.int .u64 p) ∧ w'.cell? ⟨gz, 5, none⟩ = some (.int .u64 q)) (first | exact ⟨HS6.up1.kcell (j := 4) (by simp) rfl, HS6.up1.kcell (j := 5) (by simp) rfl⟩ | exact ⟨HS5.drew.up1.kcell (j := 4) (by simp) rfl, HS5.drew.up1.kcell (j := 5) (by simp) rfl⟩)
        (first
          | (go_at_call 33; refine (rtake_yes_i HS5.drew Rb.i1 HOR.out HLE.out hl HPQ.out HPL.out).mono ?_; rintro e w5 ⟨A5, c5, rfl, hc5, hr5, HS6⟩; have hs5 := run_str (P := Try.prog) (c := c5) (hr5.cons.read HS6) 25 9 5 Try.underlying25 Try.underlying5 Try.underlying9; rw [← HNM.out] at hs5))
      all_goals
        go_wp2_with fail
        refine (rdone_yes (a := 24 + (p + q)) HS6.up3 HPL.out hl).mono ?_
        rintro e w6 ⟨rfl, HS7⟩
        have HZ := HS7.up2.drew
        have HB0 := HS7.up4
        have c0 := HB0.blk_at 0 rfl
        have f0 := HB0.blk_frozen 0
        have c1 := HB0.blk_at 1 rfl
        have f1 := HB0.blk_frozen 1
        have c2 := HB0.blk_at 2 rfl
        have f2 := HB0.blk_frozen 2
        have c3 := HB0.blk_at 3 rfl
        have f3 := HB0.blk_frozen 3
        have c4 := HB0.blk_at 4 rfl
        have f4 := HB0.blk_frozen 4
        have c5 := HB0.blk_at 5 rfl
        have f5 := HB0.blk_frozen 5
        have HB := HS7.up4
        have HR := HB.blk_set6 (.int .i64 x0) (.int .u64 x2) (.string nm) (.string au) (.int .u64 x3) (.bool true)
        have HRZ := HR.up3.drew
        have Z1 : Aside (∀ j, j < 6 → w6.drew.cell? ⟨gz, j, none⟩ = ([.int .u64 x0, .int .u64 1, .int .u64 x2, .int .u64 x3, .int .u64 p, .int .u64 q] : List Value)[j]?) := ⟨fun j hj => HZ.own_cell hj⟩
        obtain ⟨W, hW⟩ : ∃ W, W = ((((((w6.setCell ⟨w.heap.size, 0, none⟩ (.int .i64 x0)).setCell ⟨w.heap.size, 1, none⟩ (.int .u64 x2)).setCell ⟨w.heap.size, 2, none⟩ (.string nm)).setCell ⟨w.heap.size, 3, none⟩ (.string au)).setCell ⟨w.heap.size, 4, none⟩ (.int .u64 x3)).setCell ⟨w.heap.size, 5, none⟩ (.bool true)).drew := ⟨_, rfl⟩
        have Z2 : Aside (∀ j, j < 6 → W.cell? ⟨gz, j, none⟩ = ([.int .u64 x0, .int .u64 1, .int .u64 x2, .int .u64 x3, .int .u64 p, .int .u64 q] : List Value)[j]?) := ⟨fun j hj => by rw [hW]; exact HRZ.own_cell hj⟩
        rw [hW] at Z2
        clear hW W
        clear HS HSb HS1 HS2 HS3 HS4 HS5 HS6 HS7 HB HB0 hr5 HZ HRZ hs5 hc5
        go_upto_region 8 with (fail)
        go_region_held_law (fun w' => ∀ j, j < 6 → w'.cell? ⟨gz, j, none⟩ = ([.int .u64 x0, .int .u64 1, .int .u64 x2, .int .u64 x3, .int .u64 p, .int .u64 q] : List Value)[j]?)
          (first | with_reducible exact Z1.out | with_reducible exact Z2.out) (fail)
        all_goals
          replace HR := HR.drew
          go_wp2
          (try simp only [Exit.inBlock, Exit.then])
          refine bodyPost_ret (results_row2 rfl _ _ _ _ _ _ _ rfl HR.blk_heap Try.underlying24 rfl info_adm) rfl ?_
          exact ⟨rfl, HR.sel 5 [1]⟩
end
end Go.Proofs.Ytankfmfenbhkgaa
