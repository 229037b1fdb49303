/-
  Contract of admin.TakeAnswer.
-/
import Derived.Test.YtankfmfenbhkgaaAdmTimes
import Derived.Test.YtankfmfenbhkgaaAdmPutA
namespace Go.Proofs.Ytankfmfenbhkgaa
open Go.RowKit
set_option linter.unusedVariables false
set_option linter.unusedSimpArgs false
def takeAns (l : List Int) : Except Int ((Int × Int × Int) × List Vol × Nat) :=
  if 4 ≤ l.length ∧ num (l.take 4) ≠ 1128878913 then .error 33 else if l.length < 25 then .error 0 else if 16 < fN l 24 1 then .error 3
  else match volsFrom l 25 (fN l 24 1).toNat with
    | .error e => .error e
    | .ok (vs, a) => .ok ((fN l 8 8, fN l 4 4, fN l 16 8), vs, a)
section
variable {w0 w : World} {O : Nat → Prop} {L : List Asr}
theorem cut_ans (l : List Int) : cut (l.drop 4) [4, 8, 8, 1] = [fN l 4 4, fN l 8 8, fN l 16 8, fN l 24 1] := by
  simp [cut, fN, List.drop_drop]

set_option maxHeartbeats 4000000 in
set_option maxRecDepth 100000 in
theorem takeansA_zero {gt : Nat} {l : List Int} {E : Int} (h : (l.length < 4 ∧ E = 0) ∨ (4 ≤ l.length ∧ num (l.take 4) ≠ 1128878913 ∧ E = 33) ∨ (4 ≤ l.length ∧ num (l.take 4) = 1128878913 ∧ l.length < 25 ∧ E = 0)) (HS : Sep w0 w O (Go.Proofs.Ytankfmfenbhkgaa.tape gt l :: L)) (hb : Byt l) (hl : l.length ≤ 140737488355328) :
    Calls Try.prog 18 #[.pointer (some ⟨gt, 0, none⟩)] w fun e w' => e = .returned (.tuple #[.agg zAns, .bool false, .int .i64 E]) ∧ Sep w0 w' O (Go.Proofs.Ytankfmfenbhkgaa.tape gt l :: L) := by
  have HSb := (HS.alloc zAns 45).up1
  have key : ∃ (a : Nat) (stop : Bool) (E1 : Int), (stop = true ∨ l.length < a + tot [4, 8, 8, 1]) ∧ E = (if stop then E1 else 0) ∧ a ≤ l.length ∧
      ((l.length < 4 ∧ a = 0 ∧ stop = true ∧ E1 = 0) ∨ (4 ≤ l.length ∧ num (l.take 4) ≠ 1128878913 ∧ a = 4 ∧ stop = true ∧ E1 = 33) ∨ (4 ≤ l.length ∧ num (l.take 4) = 1128878913 ∧ a = 4 ∧ stop = false ∧ E1 = 0)) := by
    rcases h with ⟨h1, rfl⟩ | ⟨h1, h2, rfl⟩ | ⟨h1, h2, h3, rfl⟩
    · exact ⟨0, true, 0, .inl rfl, rfl, Nat.zero_le _, .inl ⟨h1, rfl, rfl, rfl⟩⟩
    · exact ⟨4, true, 33, .inl rfl, rfl, h1, .inr (.inl ⟨h1, h2, rfl, rfl, rfl⟩)⟩
    · exact ⟨4, false, 0, .inr (by simp [tot]; omega), rfl, h1, .inr (.inr ⟨h1, h2, rfl, rfl, rfl⟩)⟩
  clear h
  obtain ⟨a, stop, E1, h1, h2, h3, h4⟩ := key
  have H1 := hid h1
  have H2 := hid h2
  have H4 := hid h4
  clear h1 h2 h4
  go_enter Try.func18, Try.ntmps18
  go_wp2_with fail
  refine (ropen_calls HSb hb hl (H4.out)).mono ?_
  rintro e w1 ⟨g, A, c, rfl, HS1⟩
  have hor := HS1.up1.own_or
  have hle := own_le HS1.up1
  have HS2 := (HS1.lit #[.int .i64 4, .int .i64 8, .int .i64 8, .int .i64 1] 3 1 4 rfl (by decide)).up1
  have HOR := hid hor
  have HLE := hid hle
  clear hor hle
  go_wp2_with fail
  refine (rnumbers_no (ss := [4, 8, 8, 1]) H2.out HS2 (by decide) (by decide) hl h3 H1.out).mono ?_
  rintro e w2 ⟨A2, rfl, HS3⟩
  obtain ⟨gz, rfl⟩ := HS3.own_some (by decide)
  replace HS3 : Sep w0 w2 O (own 22 1 (some ⟨gz, 0, none⟩) 4 4 (kv .u64 [(0 : Int), (0 : Int), (0 : Int), (0 : Int)]) :: rdB g A l.length c a true E :: own 5 1 A l.length c (by8 l) :: Go.Proofs.Ytankfmfenbhkgaa.tape gt l :: blk w.heap.size 45 zAns :: L) := HS3
  have n3 : w2.cell? ⟨gz, 3, none⟩ = some (.int .u64 0) := HS3.kcell (j := 3) (by simp) rfl
  go_wp2_with fail
  refine (rfail_stop HS3.up1).mono ?_
  rintro e w3 ⟨rfl, HS4⟩
  replace HS4 : Sep w0 w3 O (rdB g A l.length c a true E :: own 22 1 (some ⟨gz, 0, none⟩) 4 4 (kv .u64 [(0 : Int), (0 : Int), (0 : Int), (0 : Int)]) :: own 5 1 A l.length c (by8 l) :: Go.Proofs.Ytankfmfenbhkgaa.tape gt l :: blk w.heap.size 45 zAns :: L) := HS4
  clear n3
  have n3 : w3.cell? ⟨gz, 3, none⟩ = some (.int .u64 0) := HS4.up1.kcell (j := 3) (by simp) rfl
  go_wp2_with fail
  refine (times_calls (N := 0) (s0 := true) (a0 := a) HS4 Rb.i1 hb HOR.out HLE.out hl h3 (fun h => by cases h) (by decide)).mono ?_
  rintro e w4 ⟨A4, c4, vs', a4, s4, e4, rfl, hvl, ha4, he4, hinv, HS5⟩
  have hse : s4 = true ∧ e4 = E := by
    rcases hinv with ⟨_, x2, x3⟩ | ⟨x1, _⟩
    · exact ⟨x2, x3⟩
    · cases x1
  obtain ⟨rfl, rfl⟩ := hse
  have k3 := HS5.up1.blk_at 3 rfl
  have HB := HS5.up5
  have hne1 : w.heap.size ≠ g := (HB.sel 3 [0, 2]).blk_ne
  have hne2 : g ≠ w.heap.size := fun e => hne1 e.symm
  have c0 := HB.blk_at 0 rfl
  have c1 := HB.blk_at 1 rfl
  have c2 := HB.blk_at 2 rfl
  have c3 := HB.blk_at 3 rfl
  have f0 := HB.blk_frozen 0
  have f1 := HB.blk_frozen 1
  have f2 := HB.blk_frozen 2
  have f3 := HB.blk_frozen 3
  have HR := HB.blk_set4 (.int .u64 0) (.int .u32 0) (.int .u64 0) (.slice none 0 0)
  have HD := hid (rdone_no (some ⟨gt, 0, none⟩) HS5.up1)
  clear HS HSb HS1 HS2 HS3 HS4 n3 hinv hvl HB he4
  go_wp2_with fail
  refine (HD.out).mono ?_
  rintro e w6 ⟨rfl, rfl⟩
  go_upto_region 6 with (fail)
  go_region_law (fail)
  all_goals
    replace HR := HR.drew
    go_wp2
    (try simp only [Exit.inBlock, Exit.then])
    refine bodyPost_ret (results_row2 rfl _ _ _ _ _ _ _ rfl HR.blk_heap Try.underlying45 rfl info_ans) rfl ?_
    exact ⟨rfl, HR.sel 6 [5]⟩

set_option maxHeartbeats 4000000 in
set_option maxRecDepth 100000 in
theorem takeansA_long {gt : Nat} {l : List Int} {N : Nat} (h25 : 25 ≤ l.length) (hm : num (l.take 4) = 1128878913) (hN : fN l 24 1 = N) (h : 16 < N) (HS : Sep w0 w O (Go.Proofs.Ytankfmfenbhkgaa.tape gt l :: L)) (hb : Byt l) (hl : l.length ≤ 140737488355328) :
    Calls Try.prog 18 #[.pointer (some ⟨gt, 0, none⟩)] w fun e w' => e = .returned (.tuple #[.agg zAns, .bool false, .int .i64 3]) ∧ Sep w0 w' O (Go.Proofs.Ytankfmfenbhkgaa.tape gt l :: L) := by
  have HSb := (HS.alloc zAns 45).up1
  have hcut := cut_ans l
  have b4 := fN_bd hb 4 4
  simp only [show (256 : Int) ^ 4 = 4294967296 from rfl] at b4
  have y0 : IntKind.u32.wrap (fN l 4 4) = fN l 4 4 := by rw [IntKind.wrap_u32]; omega
  rw [hN] at hcut
  have bN := fN_bd hb 24 1
  rw [hN] at bN
  simp only [show (256 : Int) ^ 1 = 256 from rfl] at bN
  have HN256 : Aside (N ≤ 256) := ⟨by omega⟩
  generalize fN l 4 4 = x0 at *
  generalize fN l 8 8 = x1 at *
  generalize fN l 16 8 = x2 at *
  have HC := hid hcut
  have HM := hid hm
  clear hcut hm b4 bN hN
  have hx3 : 16 < (N : Int) := by omega
  clear h
  go_enter Try.func18, Try.ntmps18
  go_wp2_with fail
  refine (ropen_calls HSb hb hl (.inr (.inr ⟨by omega, HM.out, rfl, rfl, rfl⟩))).mono ?_
  rintro e w1 ⟨g, A, c, rfl, HS1⟩
  have hor := HS1.up1.own_or
  have hle := own_le HS1.up1
  have HS2 := (HS1.lit #[.int .i64 4, .int .i64 8, .int .i64 8, .int .i64 1] 3 1 4 rfl (by decide)).up1
  have HOR := hid hor
  have HLE := hid hle
  clear hor hle
  go_wp2_with fail
  refine (rnumbers_ok (ss := [4, 8, 8, 1]) HS2 Rb.i0 hb HOR.out HLE.out (by decide) (by decide) hl (by simp [tot]; omega)).mono ?_
  rintro e w2 ⟨A2, rfl, HS3⟩
  rw [HC.out] at HS3
  obtain ⟨gz, rfl⟩ := HS3.own_some (by decide)
  replace HS3 : Sep w0 w2 O (own 22 1 (some ⟨gz, 0, none⟩) 4 4 (kv .u64 [(x0 : Int), (x1 : Int), (x2 : Int), (N : Int)]) :: rdB g A l.length c (25 : Nat) false 0 :: own 5 1 A l.length c (by8 l) :: Go.Proofs.Ytankfmfenbhkgaa.tape gt l :: blk w.heap.size 45 zAns :: L) := HS3
  have n3 : w2.cell? ⟨gz, 3, none⟩ = some (.int .u64 N) := HS3.kcell (j := 3) (by simp) rfl
  go_wp2_with fail
  refine (rfail_calls HS3.up1).mono ?_
  rintro e w3 ⟨rfl, HS4⟩
  first
    | (rw [decide_eq_true hx3] at HS4)
    | (rw [decide_eq_false (Int.not_lt.2 hx3)] at HS4)
    | skip
  replace HS4 : Sep w0 w3 O (rdB g A l.length c (25 : Nat) true 3 :: own 22 1 (some ⟨gz, 0, none⟩) 4 4 (kv .u64 [(x0 : Int), (x1 : Int), (x2 : Int), (N : Int)]) :: own 5 1 A l.length c (by8 l) :: Go.Proofs.Ytankfmfenbhkgaa.tape gt l :: blk w.heap.size 45 zAns :: L) := HS4
  clear n3
  have n3 : w3.cell? ⟨gz, 3, none⟩ = some (.int .u64 N) := HS4.up1.kcell (j := 3) (by simp) rfl
  go_wp2_with fail
  refine (times_calls (N := N) (s0 := true) (a0 := 25) HS4 Rb.i1 hb HOR.out HLE.out hl h25 (fun h => by cases h) HN256.out).mono ?_
  rintro e w4 ⟨A4, c4, vs', a4, s4, e4, rfl, hvl, ha4, he4, hinv, HS5⟩
  have hse : s4 = true ∧ e4 = 3 := by
    rcases hinv with ⟨_, x2, x3⟩ | ⟨x1, _⟩
    · exact ⟨x2, x3⟩
    · cases x1
  obtain ⟨rfl, rfl⟩ := hse
  have k3 := HS5.up1.blk_at 3 rfl
  have HB := HS5.up5
  have hne1 : w.heap.size ≠ g := (HB.sel 3 [0, 2]).blk_ne
  have hne2 : g ≠ w.heap.size := fun e => hne1 e.symm
  have c0 := HB.blk_at 0 rfl
  have c1 := HB.blk_at 1 rfl
  have c2 := HB.blk_at 2 rfl
  have c3 := HB.blk_at 3 rfl
  have f0 := HB.blk_frozen 0
  have f1 := HB.blk_frozen 1
  have f2 := HB.blk_frozen 2
  have f3 := HB.blk_frozen 3
  have HR := HB.blk_set4 (.int .u64 0) (.int .u32 0) (.int .u64 0) (.slice none 0 0)
  have HD := hid (rdone_no (some ⟨gt, 0, none⟩) HS5.up1)
  clear HS HSb HS1 HS2 HS3 HS4 n3 hinv hvl HB he4
  go_wp2_with fail
  refine (HD.out).mono ?_
  rintro e w6 ⟨rfl, rfl⟩
  go_upto_region 6 with (fail)
  go_region_law (fail)
  all_goals
    replace HR := HR.drew
    go_wp2
    (try simp only [Exit.inBlock, Exit.then])
    refine bodyPost_ret (results_row2 rfl _ _ _ _ _ _ _ rfl HR.blk_heap Try.underlying45 rfl info_ans) rfl ?_
    exact ⟨rfl, HR.sel 6 [5]⟩

set_option maxHeartbeats 4000000 in
set_option maxRecDepth 100000 in
theorem takeansA_bad {gt : Nat} {l : List Int} {N : Nat} (h25 : 25 ≤ l.length) (hm : num (l.take 4) = 1128878913) (hN : fN l 24 1 = N) {E : Int} (h : N ≤ 16) (hv : volsFrom l 25 N = .error E) (HS : Sep w0 w O (Go.Proofs.Ytankfmfenbhkgaa.tape gt l :: L)) (hb : Byt l) (hl : l.length ≤ 140737488355328) :
    Calls Try.prog 18 #[.pointer (some ⟨gt, 0, none⟩)] w fun e w' => e = .returned (.tuple #[.agg zAns, .bool false, .int .i64 E]) ∧ Sep w0 w' O (Go.Proofs.Ytankfmfenbhkgaa.tape gt l :: L) := by
  have HSb := (HS.alloc zAns 45).up1
  have hcut := cut_ans l
  have b4 := fN_bd hb 4 4
  simp only [show (256 : Int) ^ 4 = 4294967296 from rfl] at b4
  have y0 : IntKind.u32.wrap (fN l 4 4) = fN l 4 4 := by rw [IntKind.wrap_u32]; omega
  rw [hN] at hcut
  have bN := fN_bd hb 24 1
  rw [hN] at bN
  simp only [show (256 : Int) ^ 1 = 256 from rfl] at bN
  have HN256 : Aside (N ≤ 256) := ⟨by omega⟩
  generalize fN l 4 4 = x0 at *
  generalize fN l 8 8 = x1 at *
  generalize fN l 16 8 = x2 at *
  have HC := hid hcut
  have HM := hid hm
  clear hcut hm b4 bN hN
  have hx3 : ¬ 16 < (N : Int) := by omega
  have HV := hid hv
  clear h hv
  go_enter Try.func18, Try.ntmps18
  go_wp2_with fail
  refine (ropen_calls HSb hb hl (.inr (.inr ⟨by omega, HM.out, rfl, rfl, rfl⟩))).mono ?_
  rintro e w1 ⟨g, A, c, rfl, HS1⟩
  have hor := HS1.up1.own_or
  have hle := own_le HS1.up1
  have HS2 := (HS1.lit #[.int .i64 4, .int .i64 8, .int .i64 8, .int .i64 1] 3 1 4 rfl (by decide)).up1
  have HOR := hid hor
  have HLE := hid hle
  clear hor hle
  go_wp2_with fail
  refine (rnumbers_ok (ss := [4, 8, 8, 1]) HS2 Rb.i0 hb HOR.out HLE.out (by decide) (by decide) hl (by simp [tot]; omega)).mono ?_
  rintro e w2 ⟨A2, rfl, HS3⟩
  rw [HC.out] at HS3
  obtain ⟨gz, rfl⟩ := HS3.own_some (by decide)
  replace HS3 : Sep w0 w2 O (own 22 1 (some ⟨gz, 0, none⟩) 4 4 (kv .u64 [(x0 : Int), (x1 : Int), (x2 : Int), (N : Int)]) :: rdB g A l.length c (25 : Nat) false 0 :: own 5 1 A l.length c (by8 l) :: Go.Proofs.Ytankfmfenbhkgaa.tape gt l :: blk w.heap.size 45 zAns :: L) := HS3
  have n3 : w2.cell? ⟨gz, 3, none⟩ = some (.int .u64 N) := HS3.kcell (j := 3) (by simp) rfl
  go_wp2_with fail
  refine (rfail_calls HS3.up1).mono ?_
  rintro e w3 ⟨rfl, HS4⟩
  first
    | (rw [decide_eq_true hx3] at HS4)
    | (rw [decide_eq_false (Int.not_lt.2 hx3)] at HS4)
    | skip
  replace HS4 : Sep w0 w3 O (rdB g A l.length c (25 : Nat) false 0 :: own 22 1 (some ⟨gz, 0, none⟩) 4 4 (kv .u64 [(x0 : Int), (x1 : Int), (x2 : Int), (N : Int)]) :: own 5 1 A l.length c (by8 l) :: Go.Proofs.Ytankfmfenbhkgaa.tape gt l :: blk w.heap.size 45 zAns :: L) := HS4
  clear n3
  have n3 : w3.cell? ⟨gz, 3, none⟩ = some (.int .u64 N) := HS4.up1.kcell (j := 3) (by simp) rfl
  go_wp2_with fail
  refine (times_calls (N := N) (s0 := false) (a0 := 25) HS4 Rb.i1 hb HOR.out HLE.out hl h25 (fun _ => rfl) HN256.out).mono ?_
  rintro e w4 ⟨A4, c4, vs', a4, s4, e4, rfl, hvl, ha4, he4, hinv, HS5⟩
  have hse : s4 = true ∧ e4 = E := by
    rcases hinv with ⟨x1, _⟩ | ⟨_, ⟨x2, x3⟩ | ⟨_, _, x3⟩⟩
    · cases x1
    · rw [HV.out] at x3; injection x3 with x3; exact ⟨x2, x3.symm⟩
    · rw [HV.out] at x3; cases x3
  obtain ⟨rfl, rfl⟩ := hse
  have k3 := HS5.up1.blk_at 3 rfl
  have HB := HS5.up5
  have hne1 : w.heap.size ≠ g := (HB.sel 3 [0, 2]).blk_ne
  have hne2 : g ≠ w.heap.size := fun e => hne1 e.symm
  have c0 := HB.blk_at 0 rfl
  have c1 := HB.blk_at 1 rfl
  have c2 := HB.blk_at 2 rfl
  have c3 := HB.blk_at 3 rfl
  have f0 := HB.blk_frozen 0
  have f1 := HB.blk_frozen 1
  have f2 := HB.blk_frozen 2
  have f3 := HB.blk_frozen 3
  have HR := HB.blk_set4 (.int .u64 0) (.int .u32 0) (.int .u64 0) (.slice none 0 0)
  have HD := hid (rdone_no (some ⟨gt, 0, none⟩) HS5.up1)
  clear HS HSb HS1 HS2 HS3 HS4 n3 hinv hvl HB he4
  go_wp2_with fail
  refine (HD.out).mono ?_
  rintro e w6 ⟨rfl, rfl⟩
  go_upto_region 6 with (fail)
  go_region_law (fail)
  all_goals
    replace HR := HR.drew
    go_wp2
    (try simp only [Exit.inBlock, Exit.then])
    refine bodyPost_ret (results_row2 rfl _ _ _ _ _ _ _ rfl HR.blk_heap Try.underlying45 rfl info_ans) rfl ?_
    exact ⟨rfl, HR.sel 6 [5]⟩

set_option maxHeartbeats 4000000 in
set_option maxRecDepth 100000 in
theorem takeansA_ok {gt : Nat} {l : List Int} {N : Nat} (h25 : 25 ≤ l.length) (hm : num (l.take 4) = 1128878913) (hN : fN l 24 1 = N) {vs : List Vol} {a : Nat} (h : N ≤ 16) (hv : volsFrom l 25 N = .ok (vs, a)) (HS : Sep w0 w O (Go.Proofs.Ytankfmfenbhkgaa.tape gt l :: L)) (hb : Byt l) (hl : l.length ≤ 140737488355328) :
    Calls Try.prog 18 #[.pointer (some ⟨gt, 0, none⟩)] w fun e w' => ∃ A' c', e = .returned (.tuple #[.agg #[.int .u64 (fN l 8 8), .int .u32 (fN l 4 4), .int .u64 (fN l 16 8), .slice A' N c'], .bool true, .int .i64 0]) ∧ vs.length = N ∧ a ≤ l.length ∧ Sep w0 w' O (own 48 6 A' N c' (vrow vs) :: Go.Proofs.Ytankfmfenbhkgaa.tape gt (l.drop a) :: L) := by
  have HSb := (HS.alloc zAns 45).up1
  have hcut := cut_ans l
  have b4 := fN_bd hb 4 4
  simp only [show (256 : Int) ^ 4 = 4294967296 from rfl] at b4
  have y0 : IntKind.u32.wrap (fN l 4 4) = fN l 4 4 := by rw [IntKind.wrap_u32]; omega
  rw [hN] at hcut
  have bN := fN_bd hb 24 1
  rw [hN] at bN
  simp only [show (256 : Int) ^ 1 = 256 from rfl] at bN
  have HN256 : Aside (N ≤ 256) := ⟨by omega⟩
  generalize fN l 4 4 = x0 at *
  generalize fN l 8 8 = x1 at *
  generalize fN l 16 8 = x2 at *
  have HC := hid hcut
  have HM := hid hm
  clear hcut hm b4 bN hN
  have hx3 : ¬ 16 < (N : Int) := by omega
  have HV := hid hv
  clear h hv
  obtain ⟨Q, hQ⟩ : ∃ Q : Ending → World → Prop, Q = fun e w' => ∃ A' c', e = .returned (.tuple #[.agg #[.int .u64 x1, .int .u32 x0, .int .u64 x2, .slice A' N c'], .bool true, .int .i64 0]) ∧ vs.length = N ∧ a ≤ l.length ∧ Sep w0 w' O (own 48 6 A' N c' (vrow vs) :: Go.Proofs.Ytankfmfenbhkgaa.tape gt (l.drop a) :: L) := ⟨_, rfl⟩
  have HQ := hid hQ
  rw [← hQ]
  clear hQ
  go_enter Try.func18, Try.ntmps18
  go_wp2_with fail
  refine (ropen_calls HSb hb hl (.inr (.inr ⟨by omega, HM.out, rfl, rfl, rfl⟩))).mono ?_
  rintro e w1 ⟨g, A, c, rfl, HS1⟩
  have hor := HS1.up1.own_or
  have hle := own_le HS1.up1
  have HS2 := (HS1.lit #[.int .i64 4, .int .i64 8, .int .i64 8, .int .i64 1] 3 1 4 rfl (by decide)).up1
  have HOR := hid hor
  have HLE := hid hle
  clear hor hle
  go_wp2_with fail
  refine (rnumbers_ok (ss := [4, 8, 8, 1]) HS2 Rb.i0 hb HOR.out HLE.out (by decide) (by decide) hl (by simp [tot]; omega)).mono ?_
  rintro e w2 ⟨A2, rfl, HS3⟩
  rw [HC.out] at HS3
  obtain ⟨gz, rfl⟩ := HS3.own_some (by decide)
  replace HS3 : Sep w0 w2 O (own 22 1 (some ⟨gz, 0, none⟩) 4 4 (kv .u64 [(x0 : Int), (x1 : Int), (x2 : Int), (N : Int)]) :: rdB g A l.length c (25 : Nat) false 0 :: own 5 1 A l.length c (by8 l) :: Go.Proofs.Ytankfmfenbhkgaa.tape gt l :: blk w.heap.size 45 zAns :: L) := HS3
  have n3 : w2.cell? ⟨gz, 3, none⟩ = some (.int .u64 N) := HS3.kcell (j := 3) (by simp) rfl
  go_wp2_with fail
  refine (rfail_calls HS3.up1).mono ?_
  rintro e w3 ⟨rfl, HS4⟩
  first
    | (rw [decide_eq_true hx3] at HS4)
    | (rw [decide_eq_false (Int.not_lt.2 hx3)] at HS4)
    | skip
  replace HS4 : Sep w0 w3 O (rdB g A l.length c (25 : Nat) false 0 :: own 22 1 (some ⟨gz, 0, none⟩) 4 4 (kv .u64 [(x0 : Int), (x1 : Int), (x2 : Int), (N : Int)]) :: own 5 1 A l.length c (by8 l) :: Go.Proofs.Ytankfmfenbhkgaa.tape gt l :: blk w.heap.size 45 zAns :: L) := HS4
  clear n3
  have n3 : w3.cell? ⟨gz, 3, none⟩ = some (.int .u64 N) := HS4.up1.kcell (j := 3) (by simp) rfl
  go_wp2_with fail
  refine (times_calls (N := N) (s0 := false) (a0 := 25) HS4 Rb.i1 hb HOR.out HLE.out hl h25 (fun _ => rfl) HN256.out).mono ?_
  rintro e w4 ⟨A4, c4, vs', a4, s4, e4, rfl, hvl, ha4, he4, hinv, HS5⟩
  have hse : s4 = false ∧ e4 = 0 ∧ vs' = vs ∧ a4 = a := by
    rcases hinv with ⟨x1, _⟩ | ⟨_, ⟨x2, x3⟩ | ⟨x2, x2', x3⟩⟩
    · cases x1
    · rw [HV.out] at x3; cases x3
    · rw [HV.out] at x3; injection x3 with x3; injection x3 with x3 x4; exact ⟨x2, x2', x3.symm, x4.symm⟩
  obtain ⟨rfl, rfl, rfl, rfl⟩ := hse
  have HD := hid (rdone_yes (a := a4) (HS5.sel 6 [4, 1, 0, 2, 5]) ha4 hl)
  have HVL := hid hvl
  have HA4 := hid ha4
  clear n3 hinv hvl ha4 he4 HS HSb HS1 HS2 HS3 HS4
  go_wp2_with fail
  refine (HD.out).mono ?_
  rintro e w6 ⟨rfl, HS7⟩
  have HZ : Sep w0 w6 O (own 22 1 (some ⟨gz, 0, none⟩) 4 4 (kv .u64 [x0, x1, x2, (N : Int)]) :: blk w.heap.size 45 zAns :: own 48 6 A4 N c4 (vrow vs') :: Go.Proofs.Ytankfmfenbhkgaa.tape gt (l.drop a4) :: L) := HS7.sel 5 [3, 4, 2, 0]
  have HB := HZ.up1
  have c0 := HB.blk_at 0 rfl
  have c1 := HB.blk_at 1 rfl
  have c2 := HB.blk_at 2 rfl
  have c3 := HB.blk_at 3 rfl
  have f0 := HB.blk_frozen 0
  have f1 := HB.blk_frozen 1
  have f2 := HB.blk_frozen 2
  have f3 := HB.blk_frozen 3
  have HR := HB.blk_set4 (.int .u64 x1) (.int .u32 x0) (.int .u64 x2) (.slice A4 N c4)
  have HZd := HZ.drew
  have HRZ := HR.up1.drew
  have Z1 : Aside (∀ j, j < 4 → w6.drew.cell? ⟨gz, j, none⟩ = ([.int .u64 x0, .int .u64 x1, .int .u64 x2, .int .u64 N] : List Value)[j]?) := ⟨fun j hj => HZd.own_cell hj⟩
  obtain ⟨W, hW⟩ : ∃ W, W = ((((w6.setCell ⟨w.heap.size, 0, none⟩ (.int .u64 x1)).setCell ⟨w.heap.size, 1, none⟩ (.int .u32 x0)).setCell ⟨w.heap.size, 2, none⟩ (.int .u64 x2)).setCell ⟨w.heap.size, 3, none⟩ (.slice A4 N c4)).drew := ⟨_, rfl⟩
  have Z2 : Aside (∀ j, j < 4 → W.cell? ⟨gz, j, none⟩ = ([.int .u64 x0, .int .u64 x1, .int .u64 x2, .int .u64 N] : List Value)[j]?) := ⟨fun j hj => by rw [hW]; exact HRZ.own_cell hj⟩
  rw [hW] at Z2
  clear hW W
  clear HS5 HS7 HB HZ HZd HRZ
  go_upto_region 7 with (fail)
  go_region_held_law (fun w' => ∀ j, j < 4 → w'.cell? ⟨gz, j, none⟩ = ([.int .u64 x0, .int .u64 x1, .int .u64 x2, .int .u64 N] : List Value)[j]?)
    (first | with_reducible exact Z1.out | with_reducible exact Z2.out) (fail)
  all_goals
    replace HR := HR.drew
    go_wp2
    (try simp only [Exit.inBlock, Exit.then])
    refine bodyPost_ret (results_row2 rfl _ _ _ _ _ _ _ rfl HR.blk_heap Try.underlying45 rfl info_ans) rfl ?_
    rw [HQ.out]
    exact ⟨A4, c4, rfl, HVL.out, HA4.out, HR.sel 4 [2, 3]⟩
end
end Go.Proofs.Ytankfmfenbhkgaa
