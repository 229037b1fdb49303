/-
  Contract of admin.Take.
-/
import Derived.Test.YtankfmfenbhkgaaAdmOpen
import Derived.Test.YtankfmfenbhkgaaRow2
import Derived.Test.YtankfmfenbhkgaaStr
import Derived.Test.YtankfmfenbhkgaaAdmPut2
import Derived.Deep.RegionLaw
namespace Go.Proofs.Ytankfmfenbhkgaa
open Go.RowKit
set_option linter.unusedVariables false
set_option linter.unusedSimpArgs false
theorem info_adm : (Try.prog.info? 24).map (·.size) = some 6 := by kernel_rfl
abbrev noStr : ByteArray := ByteArray.mk #[]
abbrev zAdm : Array Value := #[.int .i64 0, .int .u64 0, .string noStr, .string noStr, .int .u64 0, .bool false]
section
variable {w0 w : World} {O : Nat → Prop} {L : List Asr}

set_option maxHeartbeats 2000000 in
theorem admtake_zero {gt : Nat} {l : List Int} {E : Int} (HS : Sep w0 w O (Go.Proofs.Ytankfmfenbhkgaa.tape gt l :: L)) (hb : Byt l) (hl : l.length ≤ 140737488355328)
    (h : (l.length < 4 ∧ E = 0) ∨ (4 ≤ l.length ∧ num (l.take 4) ≠ 1128878932 ∧ E = 33) ∨ (4 ≤ l.length ∧ num (l.take 4) = 1128878932 ∧ l.length < 24 ∧ E = 0)) :
    Calls Try.prog 12 #[.pointer (some ⟨gt, 0, none⟩)] w fun e w' => e = .returned (.tuple #[admV 0 0 noStr noStr 0 false, .bool false, .int .i64 E]) ∧ Sep w0 w' O (Go.Proofs.Ytankfmfenbhkgaa.tape gt l :: L) := by
  have HSb := (HS.alloc zAdm 24).up1
  have hs0 := fun (w : World) (c : Nat) => run_convert_bytes_nil (P := Try.prog) w 25 5 Try.underlying25 Try.underlying5 0 c 9 Try.underlying9
  have key : ∃ (a : Nat) (stop : Bool) (E1 : Int), (stop = true ∨ l.length < a + tot [1, 1, 8, 8, 1, 1]) ∧ E = (if stop then E1 else 0) ∧ a ≤ l.length ∧
      ((l.length < 4 ∧ a = 0 ∧ stop = true ∧ E1 = 0) ∨ (4 ≤ l.length ∧ num (l.take 4) ≠ 1128878932 ∧ a = 4 ∧ stop = true ∧ E1 = 33) ∨ (4 ≤ l.length ∧ num (l.take 4) = 1128878932 ∧ a = 4 ∧ stop = false ∧ E1 = 0)) := by
    rcases h with ⟨h1, rfl⟩ | ⟨h1, h2, rfl⟩ | ⟨h1, h2, h3, rfl⟩
    · exact ⟨0, true, 0, .inl rfl, rfl, Nat.zero_le _, .inl ⟨h1, rfl, rfl, rfl⟩⟩
    · exact ⟨4, true, 33, .inl rfl, rfl, h1, .inr (.inl ⟨h1, h2, rfl, rfl, rfl⟩)⟩
    · exact ⟨4, false, 0, .inr (by simp [tot]; omega), rfl, h1, .inr (.inr ⟨h1, h2, rfl, rfl, rfl⟩)⟩
  clear h
  obtain ⟨a, stop, E1, h1, h2, h3, h4⟩ := key
  have H1 := hid h1
  have H2 := hid h2
  have H4 := hid h4
  clear h1 h2 h4
  go_enter Try.func12, Try.ntmps12
  go_wp2_with fail
  refine (ropen_calls HSb hb hl H4.out).mono ?_
  rintro e w1 ⟨g, A, c, rfl, HS1⟩
  have HS2 := (HS1.lit #[.int .i64 1, .int .i64 1, .int .i64 8, .int .i64 8, .int .i64 1, .int .i64 1] 3 1 6 rfl (by decide)).up1
  go_wp2_with fail
  refine (rnumbers_no (ss := [1, 1, 8, 8, 1, 1]) H2.out HS2 (by decide) (by decide) hl h3 H1.out).mono ?_
  rintro e w2 ⟨A2, rfl, HS3⟩
  obtain ⟨gz, rfl⟩ := HS3.own_some (by decide)
  replace HS3 : Sep w0 w2 O (own 22 1 (some ⟨gz, 0, none⟩) 6 6 (kv .u64 [0, 0, 0, 0, 0, 0]) :: rdB g A l.length c a true E :: own 5 1 A l.length c (by8 l) :: Go.Proofs.Ytankfmfenbhkgaa.tape gt l :: blk w.heap.size 24 zAdm :: L) := HS3
  have n1 := HS3.kcell (j := 1) (by decide) rfl
  go_wp2_with fail
  refine (rfail_calls HS3.up1).mono ?_
  rintro e w3 ⟨rfl, HS4⟩
  replace HS4 : Sep w0 w3 O (rdB g A l.length c a true E :: own 22 1 (some ⟨gz, 0, none⟩) 6 6 (kv .u64 [0, 0, 0, 0, 0, 0]) :: own 5 1 A l.length c (by8 l) :: Go.Proofs.Ytankfmfenbhkgaa.tape gt l :: blk w.heap.size 24 zAdm :: L) := HS4
  clear n1
  go_wp2_with fail
  go_region_held_law (fun w' => w'.cell? ⟨gz, 4, none⟩ = some (.int .u64 0) ∧ w'.cell? ⟨gz, 5, none⟩ = some (.int .u64 0)) (first | exact ⟨HS5.up1.kcell (j := 4) (by decide) rfl, HS5.up1.kcell (j := 5) (by decide) rfl⟩ | exact ⟨HS4.drew.up1.kcell (j := 4) (by decide) rfl, HS4.drew.up1.kcell (j := 5) (by decide) rfl⟩)
    (first
      | (go_at_call 32; refine (rfail_calls HS4.drew).mono ?_; rintro e w4 ⟨rfl, HS5⟩))
  all_goals
    replace HS5 : Sep w0 w4 O (rdB g A l.length c a true E :: own 22 1 (some ⟨gz, 0, none⟩) 6 6 (kv .u64 [0, 0, 0, 0, 0, 0]) :: own 5 1 A l.length c (by8 l) :: Go.Proofs.Ytankfmfenbhkgaa.tape gt l :: blk w.heap.size 24 zAdm :: L) := HS5
    go_wp2_with fail
    go_region_held_law (fun w' => w'.cell? ⟨gz, 4, none⟩ = some (.int .u64 0) ∧ w'.cell? ⟨gz, 5, none⟩ = some (.int .u64 0)) (first | exact ⟨HS6.up1.kcell (j := 4) (by decide) rfl, HS6.up1.kcell (j := 5) (by decide) rfl⟩ | exact ⟨HS5.drew.up1.kcell (j := 4) (by decide) rfl, HS5.drew.up1.kcell (j := 5) (by decide) rfl⟩)
      (first
        | (go_at_call 33; refine (rtake_no HS5.drew hl h3 (.inl rfl)).mono ?_; rintro e w5 ⟨rfl, HS6⟩))
    all_goals
      replace HS6 : Sep w0 w5 O (rdB g A l.length c a true E :: own 22 1 (some ⟨gz, 0, none⟩) 6 6 (kv .u64 [0, 0, 0, 0, 0, 0]) :: own 5 1 A l.length c (by8 l) :: Go.Proofs.Ytankfmfenbhkgaa.tape gt l :: blk w.heap.size 24 zAdm :: L) := HS6
      go_wp2_with fail
      refine (rdone_no _ HS6).mono ?_
      rintro e w6 ⟨rfl, rfl⟩
      have k3 := HS6.blk_at 3 rfl
      have HB := HS6.up4
      have hne1 := HB.blk_ne
      have hne2 : g ≠ w.heap.size := fun e => hne1 e.symm
      have c0 := HB.blk_at 0 rfl
      have c1 := HB.blk_at 1 rfl
      have c2 := HB.blk_at 2 rfl
      have c3 := HB.blk_at 3 rfl
      have c4 := HB.blk_at 4 rfl
      have c5 := HB.blk_at 5 rfl
      have f0 := HB.blk_frozen 0
      have f1 := HB.blk_frozen 1
      have f2 := HB.blk_frozen 2
      have f3 := HB.blk_frozen 3
      have f4 := HB.blk_frozen 4
      have f5 := HB.blk_frozen 5
      have HR := HB.blk_set6 (.int .i64 0) (.int .u64 0) (.string noStr) (.string noStr) (.int .u64 0) (.bool false)
      clear HS HSb HS1 HS2 HS3 HS4 HS5
      go_upto_region 7 with (fail)
      go_region_law (fail)
      all_goals
        replace HR := HR.drew
        go_wp2
        (try simp only [Exit.inBlock, Exit.then])
        refine bodyPost_ret (results_row2 rfl _ _ _ _ _ _ _ rfl HR.blk_heap Try.underlying24 rfl info_adm) rfl ?_
        exact ⟨rfl, HR.sel 5 [4]⟩

theorem cut_adm (l : List Int) : cut (l.drop 4) [1, 1, 8, 8, 1, 1] = [fN l 4 1, fN l 5 1, fN l 6 8, fN l 14 8, fN l 22 1, fN l 23 1] := by
  simp [cut, fN, List.drop_drop]

set_option maxHeartbeats 4000000 in
set_option maxRecDepth 100000 in
theorem admtake_bad {gt p q : Nat} {l : List Int} {E : Int} (HS : Sep w0 w O (Go.Proofs.Ytankfmfenbhkgaa.tape gt l :: L)) (hb : Byt l) (hl : l.length ≤ 140737488355328) (h24 : 24 ≤ l.length) (hm : num (l.take 4) = 1128878932) (hp : fN l 22 1 = p) (hq : fN l 23 1 = q)
    (h : (1 < fN l 5 1 ∧ E = 5) ∨ (¬ 1 < fN l 5 1 ∧ (16 < p ∨ 16 < q) ∧ E = 3) ∨ (¬ 1 < fN l 5 1 ∧ p ≤ 16 ∧ q ≤ 16 ∧ l.length < 24 + p + q ∧ E = 0)) :
    Calls Try.prog 12 #[.pointer (some ⟨gt, 0, none⟩)] w fun e w' => e = .returned (.tuple #[admV 0 0 noStr noStr 0 false, .bool false, .int .i64 E]) ∧ Sep w0 w' O (Go.Proofs.Ytankfmfenbhkgaa.tape gt l :: L) := by
  have HSb := (HS.alloc zAdm 24).up1
  have hs0 := fun (w : World) (c : Nat) => run_convert_bytes_nil (P := Try.prog) w 25 5 Try.underlying25 Try.underlying5 0 c 9 Try.underlying9
  have hcut := cut_adm l
  rw [hp, hq] at hcut
  have hp1 := (fN_bd hb 22 1).2
  have hq1 := (fN_bd hb 23 1).2
  rw [hp] at hp1
  rw [hq] at hq1
  simp only [show (256 : Int) ^ 1 = 256 from rfl] at hp1 hq1
  generalize fN l 5 1 = x1 at *
  generalize fN l 4 1 = x0 at *
  generalize fN l 6 8 = x2 at *
  generalize fN l 14 8 = x3 at *
  have key : (((p : Int) < q) ∨ ¬ ((p : Int) < q)) ∧ ((1 < x1 ∧ E = 5) ∨ (¬ 1 < x1 ∧ Aside ((p : Int) < q → 16 < (q : Int)) ∧ Aside (¬ (p : Int) < q → 16 < (p : Int)) ∧ E = 3) ∨ (¬ 1 < x1 ∧ Aside ((p : Int) < q → ¬ 16 < (q : Int)) ∧ Aside (¬ (p : Int) < q → ¬ 16 < (p : Int)) ∧ Aside ((l.length : Int) - (24 : Nat) < (p : Int) + q) ∧ E = 0)) := by
    refine ⟨Decidable.em _, ?_⟩
    rcases h with ⟨h1, h2⟩ | ⟨h1, h2, h3⟩ | ⟨h1, h2, h3, h4, h5⟩
    · exact .inl ⟨h1, h2⟩
    · exact .inr (.inl ⟨h1, ⟨by omega⟩, ⟨by omega⟩, h3⟩)
    · exact .inr (.inr ⟨h1, ⟨by omega⟩, ⟨by omega⟩, ⟨by omega⟩, h5⟩)
  have w1' : IntKind.u64.wrap ((p : Int) + q) = p + q := by rw [IntKind.wrap_u64]; omega
  have w2' : IntKind.i64.wrap ((p : Int) + q) = p + q := by rw [IntKind.wrap_i64]; omega
  have HC := hid hcut
  have HM := hid hm
  clear h hcut hm hp hq
  obtain ⟨kmax, key⟩ := key
  rcases kmax with hpq | hpq <;> rcases key with ⟨hx, rfl⟩ | ⟨hx, g1, g2, rfl⟩ | ⟨hx, g1, g2, g3, rfl⟩
  all_goals
    (try have hm16 := g1.out hpq)
    (try have hm16 := g2.out hpq)
    first
      | (have hN : Aside (p < q) := ⟨by omega⟩)
      | (have hN : Aside (¬ p < q) := ⟨by omega⟩)
    go_enter Try.func12, Try.ntmps12
    go_wp2_with fail
    refine (ropen_calls HSb hb hl (.inr (.inr ⟨by omega, HM.out, rfl, rfl, rfl⟩))).mono ?_
    rintro e w1 ⟨g, A, c, rfl, HS1⟩
    have hor := HS1.up1.own_or
    have hle := own_le HS1.up1
    have HS2 := (HS1.lit #[.int .i64 1, .int .i64 1, .int .i64 8, .int .i64 8, .int .i64 1, .int .i64 1] 3 1 6 rfl (by decide)).up1
    go_wp2_with fail
    refine (rnumbers_ok (ss := [1, 1, 8, 8, 1, 1]) HS2 Rb.i0 hb hor hle (by decide) (by decide) hl (by simp [tot]; omega)).mono ?_
    rintro e w2 ⟨A2, rfl, HS3⟩
    rw [HC.out] at HS3
    obtain ⟨gz, rfl⟩ := HS3.own_some (by decide)
    clear hor hle
    replace HS3 : Sep w0 w2 O (own 22 1 (some ⟨gz, 0, none⟩) 6 6 (kv .u64 [x0, x1, x2, x3, (p : Int), (q : Int)]) :: rdB g A l.length c (24 : Nat) false 0 :: own 5 1 A l.length c (by8 l) :: Go.Proofs.Ytankfmfenbhkgaa.tape gt l :: blk w.heap.size 24 zAdm :: L) := HS3
    have n1 : w2.cell? ⟨gz, 1, none⟩ = some (.int .u64 x1) := HS3.kcell (j := 1) (by simp) rfl
    go_wp2_with fail
    refine (rfail_calls HS3.up1).mono ?_
    rintro e w3 ⟨rfl, HS4⟩
    first
      | (rw [decide_eq_true hx] at HS4)
      | (rw [decide_eq_false (Int.not_lt.2 hx)] at HS4)
      | skip
    first
      | (replace HS4 : Sep w0 w3 O (rdB g A l.length c (24 : Nat) true 5 :: own 22 1 (some ⟨gz, 0, none⟩) 6 6 (kv .u64 [x0, x1, x2, x3, (p : Int), (q : Int)]) :: own 5 1 A l.length c (by8 l) :: Go.Proofs.Ytankfmfenbhkgaa.tape gt l :: blk w.heap.size 24 zAdm :: L) := HS4)
      | (replace HS4 : Sep w0 w3 O (rdB g A l.length c (24 : Nat) false 0 :: own 22 1 (some ⟨gz, 0, none⟩) 6 6 (kv .u64 [x0, x1, x2, x3, (p : Int), (q : Int)]) :: own 5 1 A l.length c (by8 l) :: Go.Proofs.Ytankfmfenbhkgaa.tape gt l :: blk w.heap.size 24 zAdm :: L) := HS4)
    clear n1
    go_wp2_with fail
    go_region_held_law (fun w' => w'.cell? ⟨gz, 4, none⟩ = some (.int .u64 p) ∧ w'.cell? ⟨gz, 5, none⟩ = some (.int .u64 q)) (first | exact ⟨HS5.up1.kcell (j := 4) (by simp) rfl, HS5.up1.kcell (j := 5) (by simp) rfl⟩ | exact ⟨HS4.drew.up1.kcell (j := 4) (by simp) rfl, HS4.drew.up1.kcell (j := 5) (by simp) rfl⟩)
      (first
        | (go_at_call 32; refine (rfail_stop HS4.drew).mono ?_; rintro e w4 ⟨rfl, HS5⟩)
        | (go_at_call 32; refine (rfail_calls HS4.drew).mono ?_; rintro e w4 ⟨rfl, HS5⟩))
    all_goals
      first
        | (rw [if_pos hN.out] at HS5)
        | (rw [if_neg hN.out] at HS5)
        | skip
      first
        | (rw [decide_eq_true hm16] at HS5)
        | (rw [decide_eq_false (Int.not_lt.2 hm16)] at HS5)
        | skip
      first
        | (replace HS5 : Sep w0 w4 O (rdB g A l.length c (24 : Nat) true 5 :: own 22 1 (some ⟨gz, 0, none⟩) 6 6 (kv .u64 [x0, x1, x2, x3, (p : Int), (q : Int)]) :: own 5 1 A l.length c (by8 l) :: Go.Proofs.Ytankfmfenbhkgaa.tape gt l :: blk w.heap.size 24 zAdm :: L) := HS5)
        | (replace HS5 : Sep w0 w4 O (rdB g A l.length c (24 : Nat) true 3 :: own 22 1 (some ⟨gz, 0, none⟩) 6 6 (kv .u64 [x0, x1, x2, x3, (p : Int), (q : Int)]) :: own 5 1 A l.length c (by8 l) :: Go.Proofs.Ytankfmfenbhkgaa.tape gt l :: blk w.heap.size 24 zAdm :: L) := HS5)
        | (replace HS5 : Sep w0 w4 O (rdB g A l.length c (24 : Nat) false 0 :: own 22 1 (some ⟨gz, 0, none⟩) 6 6 (kv .u64 [x0, x1, x2, x3, (p : Int), (q : Int)]) :: own 5 1 A l.length c (by8 l) :: Go.Proofs.Ytankfmfenbhkgaa.tape gt l :: blk w.heap.size 24 zAdm :: L) := HS5)
      go_wp2_with fail
      go_region_held_law (fun w' => w'.cell? ⟨gz, 4, none⟩ = some (.int .u64 p) ∧ w'.cell? ⟨gz, 5, none⟩ = some (.int .u64 q)) (first | exact ⟨HS6.up1.kcell (j := 4) (by simp) rfl, HS6.up1.kcell (j := 5) (by simp) rfl⟩ | exact ⟨HS5.drew.up1.kcell (j := 4) (by simp) rfl, HS5.drew.up1.kcell (j := 5) (by simp) rfl⟩)
        (first
          | (go_at_call 33; refine (rtake_no HS5.drew hl h24 (.inl rfl)).mono ?_; rintro e w5 ⟨rfl, HS6⟩)
          | (go_at_call 33; refine (rtake_no HS5.drew hl h24 (.inr g3.out)).mono ?_; rintro e w5 ⟨rfl, HS6⟩))
      all_goals
        first
          | (replace HS6 : Sep w0 w5 O (rdB g A l.length c (24 : Nat) true 5 :: own 22 1 (some ⟨gz, 0, none⟩) 6 6 (kv .u64 [x0, x1, x2, x3, (p : Int), (q : Int)]) :: own 5 1 A l.length c (by8 l) :: Go.Proofs.Ytankfmfenbhkgaa.tape gt l :: blk w.heap.size 24 zAdm :: L) := HS6)
          | (replace HS6 : Sep w0 w5 O (rdB g A l.length c (24 : Nat) true 3 :: own 22 1 (some ⟨gz, 0, none⟩) 6 6 (kv .u64 [x0, x1, x2, x3, (p : Int), (q : Int)]) :: own 5 1 A l.length c (by8 l) :: Go.Proofs.Ytankfmfenbhkgaa.tape gt l :: blk w.heap.size 24 zAdm :: L) := HS6)
          | (replace HS6 : Sep w0 w5 O (rdB g A l.length c (24 : Nat) true 0 :: own 22 1 (some ⟨gz, 0, none⟩) 6 6 (kv .u64 [x0, x1, x2, x3, (p : Int), (q : Int)]) :: own 5 1 A l.length c (by8 l) :: Go.Proofs.Ytankfmfenbhkgaa.tape gt l :: blk w.heap.size 24 zAdm :: L) := HS6)
        go_wp2_with fail
        refine (rdone_no _ HS6).mono ?_
        rintro e w6 ⟨rfl, rfl⟩
        have k3 := HS6.blk_at 3 rfl
        have HB := HS6.up4
        have hne1 := HB.blk_ne
        have hne2 : g ≠ w.heap.size := fun e => hne1 e.symm
        have c0 := HB.blk_at 0 rfl
        have c1 := HB.blk_at 1 rfl
        have c2 := HB.blk_at 2 rfl
        have c3 := HB.blk_at 3 rfl
        have c4 := HB.blk_at 4 rfl
        have c5 := HB.blk_at 5 rfl
        have f0 := HB.blk_frozen 0
        have f1 := HB.blk_frozen 1
        have f2 := HB.blk_frozen 2
        have f3 := HB.blk_frozen 3
        have f4 := HB.blk_frozen 4
        have f5 := HB.blk_frozen 5
        have HR := HB.blk_set6 (.int .i64 0) (.int .u64 0) (.string noStr) (.string noStr) (.int .u64 0) (.bool false)
        clear HS HSb HS1 HS2 HS3 HS4 HS5
        go_upto_region 7 with (fail)
        go_region_law (fail)
        all_goals
          replace HR := HR.drew
          go_wp2
          (try simp only [Exit.inBlock, Exit.then])
          refine bodyPost_ret (results_row2 rfl _ _ _ _ _ _ _ rfl HR.blk_heap Try.underlying24 rfl info_adm) rfl ?_
          exact ⟨rfl, HR.sel 5 [4]⟩
end
end Go.Proofs.Ytankfmfenbhkgaa
