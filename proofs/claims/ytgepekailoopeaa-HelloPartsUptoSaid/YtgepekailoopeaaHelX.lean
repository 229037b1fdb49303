/-
  Contract of hello.Write: a name and infos; whole.
-/
import Derived.Test.YtgepekailoopeaaHelW
namespace Go.Proofs.Ytgepekailoopeaa
open Go.RowKit
set_option linter.unusedVariables false
set_option linter.unusedSimpArgs false
section
variable {w0 w : World} {O : Nat → Prop} {L : List Asr}
theorem askD_len (nm : ByteArray) (inf : List Int) : (askD nm inf).length = 6 + nm.size + 2 * inf.length := by
  simp only [askD, List.length_append, be_len, strInts_len, b2s_len]; omega
theorem askD_cons (nm : ByteArray) (inf : List Int) : be 4 (nm.size : Int) ++ strInts nm ++ b2s ((inf.length : Int) :: inf) = askD nm inf := by
  simp [askD, b2s]

set_option maxHeartbeats 8000000 in
set_option maxRecDepth 100000 in
theorem hwrite_ok {op : Int} {i : Nat} {v : Value} {nm : ByteArray} {A : Option Addr} {n c : Nat} {inf : List Int} (ho : op = 6 ∨ op = 7) (HS : Sep w0 w O L) (hf : Instr.findNow (.int .u32) (.int .u32 op) readsM.toList 0 = some (some (i, v)))
    (hr : Rb w0 O L 1 A n (kv .u16 inf)) (hb : ∀ x ∈ inf, 0 ≤ x ∧ x < 65536) (h16 : nm.size ≤ 16) (h256 : 6 + nm.size + 2 * n ≤ 256) :
    Calls Try.prog 44 #[.agg #[.int .u32 op, .string nm, .slice A n c]] w (RoOut w0 O ⟨0, op, askD nm inf⟩ L) := by
  obtain ⟨i0, hi0, hz0, hz1, hz2⟩ := info_parts info_u8
  obtain ⟨k0, hk0, hy0, hy1, hy2⟩ := info_parts info_u16
  have hn := hr.klen HS
  have HLN : Aside ((askD nm inf).length = 4 + nm.size + 2 * (n + 1)) := ⟨by rw [askD_len]; omega⟩
  have HCN : Aside (be 4 (nm.size : Int) ++ strInts nm ++ b2s ((n : Int) :: inf) = askD nm inf) := ⟨by rw [← hn]; exact askD_cons nm inf⟩
  have HBD : Aside (∀ (j : Nat) y, ((n : Int) :: inf)[j]? = some y → 0 ≤ y ∧ y < 65536) := ⟨by
    intro j y h
    rcases List.mem_cons.1 (List.mem_of_getElem? h) with rfl | h
    · omega
    · exact hb y h⟩
  have hln : ((n : Int) :: inf).length = 1 + n := by rw [List.length_cons]; omega
  have HLL := hid hln
  obtain ⟨Q, hQ⟩ : ∃ Q : Ending → World → Prop, Q = RoOut w0 O ⟨0, op, askD nm inf⟩ L := ⟨_, rfl⟩
  have HQ := hid hQ
  rw [← hQ]
  clear hQ
  have HF := hid hf
  have h1 : 4 + nm.size ≤ maxLen := by simp only [maxLen]; omega
  have h2 : 4 + nm.size ≤ 140737488355328 := by omega
  have h3 : 1 + n ≤ maxLen := by simp only [maxLen]; omega
  have h4 : (1 + n) * 2 ≤ 140737488355328 := by omega
  have i1 : IntKind.i64.wrap (2 * (n : Int)) = 2 * n := by rw [IntKind.wrap_i64]; omega
  have i2 : IntKind.i64.wrap (6 + (nm.size : Int)) = 6 + nm.size := by rw [IntKind.wrap_i64]; omega
  have i3 : IntKind.i64.wrap (6 + (nm.size : Int) + 2 * n) = 6 + nm.size + 2 * n := by rw [IntKind.wrap_i64]; omega
  have i4 : ¬ 256 < (6 : Int) + nm.size + 2 * n := by omega
  have i5 : ¬ 16 < (nm.size : Int) := by omega
  have i6 : IntKind.u64.wrap (nm.size : Int) = nm.size := by rw [IntKind.wrap_u64]; omega
  have i7 : IntKind.u16.wrap (n : Int) = n := by rw [IntKind.wrap_u16]; omega
  have q0 : (0 : Int) ≤ nm.size := by omega
  have q1 : Aside ((nm.size : Int) < 18446744073709551616) := ⟨by omega⟩
  have HN := hid (And.intro hn (And.intro h16 h256))
  clear hn h16 h256 hf hln hb
  rcases ho with rfl | rfl
  · have HSa := (HS.alloc #[.int .u32 6, .string nm, .slice A n c] 66).allocB #[.int .u32 0, .slice none 0 0] 31 (B := w.heap.size + 1) (by simp)
    have Z0 : Aside (((w.alloc (.cells #[.int .u32 6, .string nm, .slice A n c] 66)).alloc (.cells #[.int .u32 0, .slice none 0 0] 31)).drew.cell? ⟨w.heap.size, 0, none⟩ = some (.int .u32 6)) := ⟨HSa.drew.up1.blk_at 0 rfl⟩
    rcases he : nm.toList.isEmpty with _ | _
    all_goals
      go_enter Try.func44, Try.ntmps44
      go_upto_region 1 with (fail)
      go_region_held_law (fun w' => w'.cell? ⟨w.heap.size, 0, none⟩ = some (.int .u32 6)) (first | with_reducible exact Z1.out | with_reducible exact Z0.out)
        (first | (go_at_call 77; refine (reads_calls HSa.drew).mono ?_; rintro e w3 ⟨r, rfl, HS3⟩; have Z1 : Aside (w3.cell? ⟨w.heap.size, 0, none⟩ = some (.int .u32 6)) := ⟨HS3.up2.blk_at 0 rfl⟩; have lk := HS3.mapGet (P := Try.prog) 149 _ _ .u32 6 Try.underlying149 Try.underlying22 HF.out))
      all_goals
        clear lk Z0 Z1 HSa
        have HS4 := HS3.drop
        clear HS3
        have a0 := HS4.up1.blk_at 0 rfl
        have a1 := HS4.up1.blk_at 1 rfl
        have a2 := HS4.up1.blk_at 2 rfl
        obtain ⟨A5, c5, w5, hcv, HS5, hc5⟩ := HS4.strb (P := Try.prog) 9 23 5 nm Try.underlying9 Try.underlying23 Try.underlying5
        have HS6 := HS5.alloc #[.int .u32 6, .slice A5 nm.size c5] 31
        have b1 := HS6.up3.blk_at 1 rfl
        go_wp2_with fail
        refine (put_ok (l := []) (x := (nm.size : Int)) (s := 4) HS6 Rb.nil (by decide) (by decide) (by decide) q0 q1.out).mono ?_
        rintro e w7 ⟨A7, c7, rfl, HS7⟩
        replace HS7 : Sep w0 w7 O (own 5 1 A7 4 c7 (by8 (be 4 (nm.size : Int))) :: blk w5.heap.size 31 #[.int .u32 6, .slice A5 nm.size c5] :: ro 1 A5 nm.size (by8 (strInts nm)) :: blk (w.heap.size + 1) 31 #[.int .u32 0, .slice none 0 0] :: blk w.heap.size 66 #[.int .u32 6, .string nm, .slice A n c] :: L) := HS7
        clear a0 a1 a2 b1 hcv HS4 HS5 HS6
        have cz1 := HS7.up1.blk_at 1 rfl
        have fz1 := HS7.up1.blk_frozen 1
        have HS8 := (HS7.up1.blk_set 1 (.slice A7 4 c7)).up1
        have d1 := HS8.up1.blk_at 1 rfl
        have d2 := HS8.up4.blk_at 1 rfl
        go_wp2_with ((at_builtin; first
          | (refine wpList_append_sep_str rfl (.tmp 82) (.tmp 84) 23 9 rfl 5 i0 Try.underlying23 Try.underlying9 hi0 hz0 hz1 hz2 rfl HS8 rfl h1 h2 rfl rfl ?_; intro A9 c9 w9 HS9 hsz9; have e1 := HS9.up1.blk_at 1 rfl; have g1 := HS9.up1.blk_frozen 1; have HS10 := HS9.up1.blk_set 1 (.slice A9 (4 + nm.size) c9); have a2s := HS10.up4.blk_at 2 rfl; have HLt := HS10.litB #[.int .u16 n] 71 1 1 rfl (by decide) (B := w9.heap.size) (by simp); have a2t := HLt.up5.blk_at 2 rfl; have hrd := (hr.cons.cons.cons.cons.cons.cons).read HLt)
          | (refine wpList_append_sep rfl (.tmp 91) (.tmp 93) 53 rfl 71 k0 _ 1 2 Try.underlying53 hk0 hy0 hy1 hy2 rfl (by decide) rfl HLt rfl hrd (kv_one .u16 inf) h3 h4 rfl (kv_append .u16 [(n : Int)] inf) ?_; intro A11 c11 w11 HS11 hsz11)))
        have HS12 : Sep w0 w11 O (own 5 1 A9 (4 + nm.size) c9 (by8 (be 4 (nm.size : Int)) ++ Lib.strCells nm) :: blk w5.heap.size 31 #[.int .u32 6, .slice A9 (4 + nm.size) c9] :: own 71 1 A11 (1 + n) c11 (kv .u16 ((n : Int) :: inf)) :: blk (w.heap.size + 1) 31 #[.int .u32 0, .slice none 0 0] :: blk w.heap.size 66 #[.int .u32 6, .string nm, .slice A n c] :: L) := HS11.sel 6 [2, 1, 0, 4, 5]
        have e9 : by8 (be 4 (nm.size : Int)) ++ Lib.strCells nm = by8 (be 4 (nm.size : Int) ++ strInts nm) := by rw [strInts_cells, by8_append]
        rw [e9] at HS12
        clear e9 hrd HLt HS10 HS9 HS8 HS7 HS11 a2s a2t e1 g1 d1 d2 cz1 fz1 i1 i2 i3 i4 i5 i6 i7
        obtain ⟨g11, rfl⟩ := HS12.up2.own_some (by omega)
        go_loopw [9, 96] (fun _ i wr => ∃ (j cj m : Nat) (B : Option Addr) (bs : List Int), j ≤ 1 + n ∧ i = .int .i64 j ∧ m = 4 + nm.size + 2 * j ∧ Aside (bs = be 4 (nm.size : Int) ++ strInts nm ++ b2s (((n : Int) :: inf).take j)) ∧
          Sep w0 wr O (own 5 1 B m cj (by8 bs) :: blk w5.heap.size 31 #[.int .u32 6, .slice B m cj] :: own 71 1 (some ⟨g11, 0, none⟩) (1 + n) c11 (kv .u16 ((n : Int) :: inf)) :: blk (w.heap.size + 1) 31 #[.int .u32 0, .slice none 0 0] :: blk w.heap.size 66 #[.int .u32 6, .string nm, .slice A n c] :: L)) (fun _ i _ => 1 + n - (intOf i).toNat)
        case atStart => exact ⟨0, c9, 4 + nm.size, A9, _, Nat.zero_le _, rfl, rfl, ⟨by simp [b2s]⟩, HS12⟩
        case round =>
          obtain ⟨j, cj, m, B, bs, hj, rfl, hm, hbs, HSj⟩ := hrel
          clear HS12
          by_cases hlt : j < 1 + n
          · obtain ⟨ad, y, hA, hy, hmem, hcell⟩ := (Rb.i2 (w0 := w0) (O := O)).elemn HSj (j := j) hlt
            injection hA with hA
            subst hA
            rw [add_at] at hcell
            have hyb := HBD.out j y hy
            have HY := hid hy
            have t1 := HSj.up1.blk_at 1 rfl
            have v1 : IntKind.u64.wrap y = y := by rw [IntKind.wrap_u64]; omega
            have v2 : (j : Int) < 1 + n := by omega
            have v3 : (0 : Int) ≤ j := by omega
            have hm9 : m ≤ 140737488355320 := by have := HN.out; omega
            have HM := hid hm
            clear hy hmem hm
            go_wp2_with fail
            refine (put_ok (x := y) (s := 2) HSj Rb.i0 hm9 (by decide) (by decide) hyb.1 (by have := hyb.2; omega)).mono ?_
            rintro e w13 ⟨A13, c13, rfl, HS13⟩
            clear t1 hcell
            have cz1 := HS13.up2.blk_at 1 rfl
            have fz1 := HS13.up2.blk_frozen 1
            have HS14 := HS13.up2.blk_set 1 (.slice A13 (m + 2) c13)
            go_wp2
            go_roundw
            case rel => exact ⟨j + 1, c13, m + 2, A13, bs ++ be 2 y, by omega, by go_num, by have := HM.out; omega, ⟨by rw [b2s_take HY.out, hbs.out, List.append_assoc]⟩, HS14.sel 6 [1, 0, 3, 4, 5]⟩
            case measure => simp [intOf]; omega
          · obtain rfl : j = 1 + n := by omega
            have v2 : ¬ ((1 + n : Nat) : Int) < 1 + n := by omega
            have t0 := HSj.up1.blk_at 0 rfl
            have t1 := HSj.up1.blk_at 1 rfl
            have HB := HSj.up3
            have cz0 := HB.blk_at 0 rfl
            have cz1 := HB.blk_at 1 rfl
            have fz0 := HB.blk_frozen 0
            have fz1 := HB.blk_frozen 1
            have HR := HB.blk_set2 (.int .u32 6) (.slice B m cj)
            have hle := own_le HSj
            have HM := hid hm
            clear hm
            go_wp2
            (try simp only [Exit.inBlock, Exit.then])
            refine bodyPost_ret (results_rowa rfl _ _ _ _ _ _ _ rfl HR.blk_heap Try.underlying31 rfl info_hraw) rfl ?_
            rw [HQ.out]
            have e8 : bs = askD nm inf := by rw [hbs.out, List.take_of_length_le (by rw [HLL.out]; exact Nat.le_refl _), HCN.out]
            have e7 : m = (askD nm inf).length := by rw [HLN.out, HM.out]; omega
            have HZ := own_ro (HR.sel 5 [1])
            rw [e8] at HZ
            subst e7
            exact ⟨B, cj, rfl, hle, HZ⟩
  · have HSa := (HS.alloc #[.int .u32 7, .string nm, .slice A n c] 66).allocB #[.int .u32 0, .slice none 0 0] 31 (B := w.heap.size + 1) (by simp)
    have Z0 : Aside (((w.alloc (.cells #[.int .u32 7, .string nm, .slice A n c] 66)).alloc (.cells #[.int .u32 0, .slice none 0 0] 31)).drew.cell? ⟨w.heap.size, 0, none⟩ = some (.int .u32 7)) := ⟨HSa.drew.up1.blk_at 0 rfl⟩
    rcases he : nm.toList.isEmpty with _ | _
    all_goals
      go_enter Try.func44, Try.ntmps44
      go_upto_region 1 with (fail)
      go_region_held_law (fun w' => w'.cell? ⟨w.heap.size, 0, none⟩ = some (.int .u32 7)) (first | with_reducible exact Z1.out | with_reducible exact Z0.out)
        (first | (go_at_call 77; refine (reads_calls HSa.drew).mono ?_; rintro e w3 ⟨r, rfl, HS3⟩; have Z1 : Aside (w3.cell? ⟨w.heap.size, 0, none⟩ = some (.int .u32 7)) := ⟨HS3.up2.blk_at 0 rfl⟩; have lk := HS3.mapGet (P := Try.prog) 149 _ _ .u32 7 Try.underlying149 Try.underlying22 HF.out))
      all_goals
        clear lk Z0 Z1 HSa
        have HS4 := HS3.drop
        clear HS3
        have a0 := HS4.up1.blk_at 0 rfl
        have a1 := HS4.up1.blk_at 1 rfl
        have a2 := HS4.up1.blk_at 2 rfl
        obtain ⟨A5, c5, w5, hcv, HS5, hc5⟩ := HS4.strb (P := Try.prog) 9 23 5 nm Try.underlying9 Try.underlying23 Try.underlying5
        have HS6 := HS5.alloc #[.int .u32 7, .slice A5 nm.size c5] 31
        have b1 := HS6.up3.blk_at 1 rfl
        go_wp2_with fail
        refine (put_ok (l := []) (x := (nm.size : Int)) (s := 4) HS6 Rb.nil (by decide) (by decide) (by decide) q0 q1.out).mono ?_
        rintro e w7 ⟨A7, c7, rfl, HS7⟩
        replace HS7 : Sep w0 w7 O (own 5 1 A7 4 c7 (by8 (be 4 (nm.size : Int))) :: blk w5.heap.size 31 #[.int .u32 7, .slice A5 nm.size c5] :: ro 1 A5 nm.size (by8 (strInts nm)) :: blk (w.heap.size + 1) 31 #[.int .u32 0, .slice none 0 0] :: blk w.heap.size 66 #[.int .u32 7, .string nm, .slice A n c] :: L) := HS7
        clear a0 a1 a2 b1 hcv HS4 HS5 HS6
        have cz1 := HS7.up1.blk_at 1 rfl
        have fz1 := HS7.up1.blk_frozen 1
        have HS8 := (HS7.up1.blk_set 1 (.slice A7 4 c7)).up1
        have d1 := HS8.up1.blk_at 1 rfl
        have d2 := HS8.up4.blk_at 1 rfl
        go_wp2_with ((at_builtin; first
          | (refine wpList_append_sep_str rfl (.tmp 82) (.tmp 84) 23 9 rfl 5 i0 Try.underlying23 Try.underlying9 hi0 hz0 hz1 hz2 rfl HS8 rfl h1 h2 rfl rfl ?_; intro A9 c9 w9 HS9 hsz9; have e1 := HS9.up1.blk_at 1 rfl; have g1 := HS9.up1.blk_frozen 1; have HS10 := HS9.up1.blk_set 1 (.slice A9 (4 + nm.size) c9); have a2s := HS10.up4.blk_at 2 rfl; have HLt := HS10.litB #[.int .u16 n] 71 1 1 rfl (by decide) (B := w9.heap.size) (by simp); have a2t := HLt.up5.blk_at 2 rfl; have hrd := (hr.cons.cons.cons.cons.cons.cons).read HLt)
          | (refine wpList_append_sep rfl (.tmp 91) (.tmp 93) 53 rfl 71 k0 _ 1 2 Try.underlying53 hk0 hy0 hy1 hy2 rfl (by decide) rfl HLt rfl hrd (kv_one .u16 inf) h3 h4 rfl (kv_append .u16 [(n : Int)] inf) ?_; intro A11 c11 w11 HS11 hsz11)))
        have HS12 : Sep w0 w11 O (own 5 1 A9 (4 + nm.size) c9 (by8 (be 4 (nm.size : Int)) ++ Lib.strCells nm) :: blk w5.heap.size 31 #[.int .u32 7, .slice A9 (4 + nm.size) c9] :: own 71 1 A11 (1 + n) c11 (kv .u16 ((n : Int) :: inf)) :: blk (w.heap.size + 1) 31 #[.int .u32 0, .slice none 0 0] :: blk w.heap.size 66 #[.int .u32 7, .string nm, .slice A n c] :: L) := HS11.sel 6 [2, 1, 0, 4, 5]
        have e9 : by8 (be 4 (nm.size : Int)) ++ Lib.strCells nm = by8 (be 4 (nm.size : Int) ++ strInts nm) := by rw [strInts_cells, by8_append]
        rw [e9] at HS12
        clear e9 hrd HLt HS10 HS9 HS8 HS7 HS11 a2s a2t e1 g1 d1 d2 cz1 fz1 i1 i2 i3 i4 i5 i6 i7
        obtain ⟨g11, rfl⟩ := HS12.up2.own_some (by omega)
        go_loopw [9, 96] (fun _ i wr => ∃ (j cj m : Nat) (B : Option Addr) (bs : List Int), j ≤ 1 + n ∧ i = .int .i64 j ∧ m = 4 + nm.size + 2 * j ∧ Aside (bs = be 4 (nm.size : Int) ++ strInts nm ++ b2s (((n : Int) :: inf).take j)) ∧
          Sep w0 wr O (own 5 1 B m cj (by8 bs) :: blk w5.heap.size 31 #[.int .u32 7, .slice B m cj] :: own 71 1 (some ⟨g11, 0, none⟩) (1 + n) c11 (kv .u16 ((n : Int) :: inf)) :: blk (w.heap.size + 1) 31 #[.int .u32 0, .slice none 0 0] :: blk w.heap.size 66 #[.int .u32 7, .string nm, .slice A n c] :: L)) (fun _ i _ => 1 + n - (intOf i).toNat)
        case atStart => exact ⟨0, c9, 4 + nm.size, A9, _, Nat.zero_le _, rfl, rfl, ⟨by simp [b2s]⟩, HS12⟩
        case round =>
          obtain ⟨j, cj, m, B, bs, hj, rfl, hm, hbs, HSj⟩ := hrel
          clear HS12
          by_cases hlt : j < 1 + n
          · obtain ⟨ad, y, hA, hy, hmem, hcell⟩ := (Rb.i2 (w0 := w0) (O := O)).elemn HSj (j := j) hlt
            injection hA with hA
            subst hA
            rw [add_at] at hcell
            have hyb := HBD.out j y hy
            have HY := hid hy
            have t1 := HSj.up1.blk_at 1 rfl
            have v1 : IntKind.u64.wrap y = y := by rw [IntKind.wrap_u64]; omega
            have v2 : (j : Int) < 1 + n := by omega
            have v3 : (0 : Int) ≤ j := by omega
            have hm9 : m ≤ 140737488355320 := by have := HN.out; omega
            have HM := hid hm
            clear hy hmem hm
            go_wp2_with fail
            refine (put_ok (x := y) (s := 2) HSj Rb.i0 hm9 (by decide) (by decide) hyb.1 (by have := hyb.2; omega)).mono ?_
            rintro e w13 ⟨A13, c13, rfl, HS13⟩
            clear t1 hcell
            have cz1 := HS13.up2.blk_at 1 rfl
            have fz1 := HS13.up2.blk_frozen 1
            have HS14 := HS13.up2.blk_set 1 (.slice A13 (m + 2) c13)
            go_wp2
            go_roundw
            case rel => exact ⟨j + 1, c13, m + 2, A13, bs ++ be 2 y, by omega, by go_num, by have := HM.out; omega, ⟨by rw [b2s_take HY.out, hbs.out, List.append_assoc]⟩, HS14.sel 6 [1, 0, 3, 4, 5]⟩
            case measure => simp [intOf]; omega
          · obtain rfl : j = 1 + n := by omega
            have v2 : ¬ ((1 + n : Nat) : Int) < 1 + n := by omega
            have t0 := HSj.up1.blk_at 0 rfl
            have t1 := HSj.up1.blk_at 1 rfl
            have HB := HSj.up3
            have cz0 := HB.blk_at 0 rfl
            have cz1 := HB.blk_at 1 rfl
            have fz0 := HB.blk_frozen 0
            have fz1 := HB.blk_frozen 1
            have HR := HB.blk_set2 (.int .u32 7) (.slice B m cj)
            have hle := own_le HSj
            have HM := hid hm
            clear hm
            go_wp2
            (try simp only [Exit.inBlock, Exit.then])
            refine bodyPost_ret (results_rowa rfl _ _ _ _ _ _ _ rfl HR.blk_heap Try.underlying31 rfl info_hraw) rfl ?_
            rw [HQ.out]
            have e8 : bs = askD nm inf := by rw [hbs.out, List.take_of_length_le (by rw [HLL.out]; exact Nat.le_refl _), HCN.out]
            have e7 : m = (askD nm inf).length := by rw [HLN.out, HM.out]; omega
            have HZ := own_ro (HR.sel 5 [1])
            rw [e8] at HZ
            subst e7
            exact ⟨B, cj, rfl, hle, HZ⟩

theorem hwrite_calls {op : Int} {nm : ByteArray} {A : Option Addr} {n c : Nat} {inf : List Int} (HS : Sep w0 w O L) (hr : Rb w0 O L 1 A n (kv .u16 inf)) (hb : ∀ x ∈ inf, 0 ≤ x ∧ x < 65536) (hn : n ≤ 70368744177664) :
    Calls Try.prog 44 #[.agg #[.int .u32 op, .string nm, .slice A n c]] w (RoOut w0 O (writeR op nm inf) L) := by
  have hl := hr.klen HS
  have hf := @find_at op
  by_cases h1 : op = 1
  · subst h1
    rw [if_pos rfl] at hf
    by_cases h2 : 0 < n
    · rw [show writeR 1 nm inf = noRo 1 from by unfold writeR; rw [if_pos rfl, if_pos (by omega)]]
      exact hwrite_1a HS hf h2
    · by_cases h3 : 16 < nm.size
      · rw [show writeR 1 nm inf = noRo 3 from by unfold writeR; rw [if_pos rfl, if_neg (by omega), if_pos h3]]
        exact hwrite_1b HS hf h2 h3
      · rw [show writeR 1 nm inf = ⟨0, 1, strInts nm⟩ from by unfold writeR; rw [if_pos rfl, if_neg (by omega), if_neg h3]]
        exact hwrite_1c HS hf h2 h3
  rw [if_neg h1] at hf
  have hnil : ¬ 0 < nm.size → strInts nm = [] := fun h => List.eq_nil_of_length_eq_zero (by rw [strInts_len]; omega)
  by_cases h2 : op = 2
  · subst h2
    rw [if_pos rfl] at hf
    by_cases h3 : 0 < n
    · rw [show writeR 2 nm inf = noRo 1 from by unfold writeR; rw [if_neg (by decide), if_pos (by decide), if_pos (by omega)]]
      exact hwrite_2a HS hf h3
    · by_cases h4 : 0 < nm.size
      · rw [show writeR 2 nm inf = noRo 1 from by unfold writeR; rw [if_neg (by decide), if_pos (by decide), if_pos (by omega)]]
        exact hwrite_2b HS hf h3 h4
      · rw [show writeR 2 nm inf = ⟨0, 2, strInts nm⟩ from by unfold writeR; rw [if_neg (by decide), if_pos (by decide), if_neg (by omega), hnil h4]]
        exact hwrite_2c HS hf h3 h4
  rw [if_neg h2] at hf
  by_cases h3 : op = 3
  · subst h3
    rw [if_pos rfl] at hf
    by_cases h3 : 0 < n
    · rw [show writeR 3 nm inf = noRo 1 from by unfold writeR; rw [if_neg (by decide), if_pos (by decide), if_pos (by omega)]]
      exact hwrite_3a HS hf h3
    · by_cases h4 : 0 < nm.size
      · rw [show writeR 3 nm inf = noRo 1 from by unfold writeR; rw [if_neg (by decide), if_pos (by decide), if_pos (by omega)]]
        exact hwrite_3b HS hf h3 h4
      · rw [show writeR 3 nm inf = ⟨0, 3, strInts nm⟩ from by unfold writeR; rw [if_neg (by decide), if_pos (by decide), if_neg (by omega), hnil h4]]
        exact hwrite_3c HS hf h3 h4
  rw [if_neg h3] at hf
  by_cases h6 : op = 6
  · subst h6
    rw [if_pos rfl] at hf
    by_cases h4 : 16 < nm.size
    · rw [show writeR 6 nm inf = noRo 3 from by unfold writeR; rw [if_neg (by decide), if_neg (by decide), if_pos (by decide), if_pos (by omega)]]
      exact hwrite_6a HS hf h4
    · by_cases h5 : 256 < 6 + nm.size + 2 * n
      · rw [show writeR 6 nm inf = noRo 3 from by unfold writeR; rw [if_neg (by decide), if_neg (by decide), if_pos (by decide), if_pos (by omega)]]
        exact hwrite_6b HS hf h4 hn h5
      · rw [show writeR 6 nm inf = ⟨0, 6, askD nm inf⟩ from by unfold writeR; rw [if_neg (by decide), if_neg (by decide), if_pos (by decide), if_neg (by omega)]]
        exact hwrite_ok (.inl rfl) HS hf hr hb (by omega) (by omega)
  rw [if_neg h6] at hf
  by_cases h7 : op = 7
  · subst h7
    rw [if_pos rfl] at hf
    by_cases h4 : 16 < nm.size
    · rw [show writeR 7 nm inf = noRo 3 from by unfold writeR; rw [if_neg (by decide), if_neg (by decide), if_pos (by decide), if_pos (by omega)]]
      exact hwrite_7a HS hf h4
    · by_cases h5 : 256 < 6 + nm.size + 2 * n
      · rw [show writeR 7 nm inf = noRo 3 from by unfold writeR; rw [if_neg (by decide), if_neg (by decide), if_pos (by decide), if_pos (by omega)]]
        exact hwrite_7b HS hf h4 hn h5
      · rw [show writeR 7 nm inf = ⟨0, 7, askD nm inf⟩ from by unfold writeR; rw [if_neg (by decide), if_neg (by decide), if_pos (by decide), if_neg (by omega)]]
        exact hwrite_ok (.inr rfl) HS hf hr hb (by omega) (by omega)
  rw [if_neg h7] at hf
  rw [show writeR op nm inf = noRo 6 from by unfold writeR; rw [if_neg h1, if_neg (by omega), if_neg (by omega)]]
  exact hwrite_none HS hf
end
end Go.Proofs.Ytgepekailoopeaa
