/-
  Contract of cisternref22.Write: a name and infos; whole.
-/
import Derived.Test.YtgepekailoopeaaRefWr
import Derived.Test.YtgepekailoopeaaHelX
namespace Go.Proofs.Ytgepekailoopeaa
open Go.RowKit
set_option linter.unusedVariables false
set_option linter.unusedSimpArgs false
section
variable {w0 w : World} {O : Nat → Prop} {L : List Asr}
set_option maxHeartbeats 8000000 in
set_option maxRecDepth 100000 in
theorem rwrite_ok {op : Int} {nm : ByteArray} {A : Option Addr} {n c : Nat} {inf : List Int} (ho : op = 6 ∨ op = 7) (HS : Sep w0 w O L)
    (hr : Rb w0 O L 1 A n (kv .u16 inf)) (hb : ∀ x ∈ inf, 0 ≤ x ∧ x < 65536) (h16 : nm.size ≤ 16) (h256 : 6 + nm.size + 2 * n ≤ 256) :
    Calls Try.prog 45 #[.agg #[.int .u32 op, .string nm, .slice A n c]] w (RoOut w0 O ⟨0, op, askD nm inf⟩ L) := by
  obtain ⟨i0, hi0, hz0, hz1, hz2⟩ := info_parts info_u8
  have hn := hr.klen HS
  have HLN : Aside ((askD nm inf).length = 6 + nm.size + 2 * n) := ⟨by rw [askD_len, hn]⟩
  have HCN : Aside (be 4 (nm.size : Int) ++ strInts nm ++ be 2 (n : Int) ++ b2s inf = askD nm inf) := ⟨by rw [← hn]; rfl⟩
  have HBD : Aside (∀ (j : Nat) y, inf[j]? = some y → 0 ≤ y ∧ y < 65536) := ⟨fun j y h => hb y (List.mem_of_getElem? h)⟩
  have HLL := hid hn
  obtain ⟨Q, hQ⟩ : ∃ Q : Ending → World → Prop, Q = RoOut w0 O ⟨0, op, askD nm inf⟩ L := ⟨_, rfl⟩
  have HQ := hid hQ
  rw [← hQ]
  clear hQ
  have h1 : 4 + nm.size ≤ maxLen := by simp only [maxLen]; omega
  have h2 : (4 + nm.size) * 1 ≤ 140737488355328 := by omega
  have h3 : 4 + nm.size + 2 ≤ maxLen := by simp only [maxLen]; omega
  have h4 : (4 + nm.size + 2) * 1 ≤ 140737488355328 := by omega
  have i1 : IntKind.i64.wrap (2 * (n : Int)) = 2 * n := by rw [IntKind.wrap_i64]; omega
  have i2 : IntKind.i64.wrap (256 - 2 * (n : Int)) = 256 - 2 * n := by rw [IntKind.wrap_i64]; omega
  have i3 : IntKind.i64.wrap ((nm.size : Int) + 6) = nm.size + 6 := by rw [IntKind.wrap_i64]; omega
  have i4 : ¬ 256 - 2 * (n : Int) < nm.size + 6 := by omega
  have i5 : ¬ 16 < (nm.size : Int) := by omega
  have i6 : IntKind.u64.wrap (nm.size : Int) = nm.size := by rw [IntKind.wrap_u64]; omega
  have i7 : IntKind.u64.wrap (n : Int) = n := by rw [IntKind.wrap_u64]; omega
  have q0 : (0 : Int) ≤ nm.size := by omega
  have q1 : Aside ((nm.size : Int) < 18446744073709551616 ∧ (n : Int) < 18446744073709551616) := ⟨by omega⟩
  have q2 : (0 : Int) ≤ n := by omega
  have hnb : n ≤ 256 := by omega
  have HN := hid (And.intro hn (And.intro h16 h256))
  have HSa := (HS.alloc #[.int .u32 op, .string nm, .slice A n c] 55).allocB #[.int .u32 0, .slice none 0 0] 25 (B := w.heap.size + 1) (by simp)
  obtain ⟨A5, c5, w5, hcv, HS5, hc5⟩ := HSa.strb (P := Try.prog) 9 23 5 nm Try.underlying9 Try.underlying23 Try.underlying5
  have a0 := HS5.up2.blk_at 0 rfl
  have a2 := HS5.up2.blk_at 2 rfl
  clear hn h16 h256 hb hc5 HSa
  rcases ho with rfl | rfl
  · go_enter Try.func45, Try.ntmps45
    go_wp2_with fail
    refine (rbytes_calls (x := (nm.size : Int)) (s := 4) HS5 (by decide) (by decide) q0 q1.out.1).mono ?_
    rintro e w6 ⟨A6, c6, rfl, HS6⟩
    have hrd := (Rb.r0 (w0 := w0) (O := O) (L := blk (w.heap.size + 1) 25 #[.int .u32 0, .slice none 0 0] :: blk w.heap.size 55 #[.int .u32 6, .string nm, .slice A n c] :: L) (size := 1) (n := nm.size) (A := A5) (xs := by8 (strInts nm))).cons.read HS6
    clear a0 a2 hcv
    go_wp2_with (at_builtin; (refine wpList_append_sep rfl (.tmp 62) (.tmp 63) 23 rfl 5 i0 _ 1 1 Try.underlying23 hi0 hz0 hz1 hz2 rfl (by decide) rfl HS6 rfl hrd (by8_one _) h1 h2 rfl (by8_append _ _) ?_; intro A7 c7 w7 HS7 hsz7; have a2 := HS7.up3.blk_at 2 rfl))
    refine (rbytes_calls (x := (n : Int)) (s := 2) HS7 (by decide) (by decide) q2 q1.out.2).mono ?_
    rintro e w8 ⟨A8, c8, rfl, HS8⟩
    have HT := HS8.up1
    have hrd2 := HT.rd1
    clear hrd a2
    go_wp2_with (at_builtin; (refine wpList_append_sep rfl (.tmp 65) (.tmp 70) 23 rfl 5 i0 _ 1 1 Try.underlying23 hi0 hz0 hz1 hz2 rfl (by decide) rfl HT rfl hrd2 (by8_one _) h3 h4 rfl (by8_append _ _) ?_; intro A9 c9 w9 HS9 hsz9))
    have HS10 : Sep w0 w9 O (own 5 1 A9 (4 + nm.size + 2) c9 (by8 (be 4 (nm.size : Int) ++ strInts nm ++ be 2 (n : Int))) :: blk (w.heap.size + 1) 25 #[.int .u32 0, .slice none 0 0] :: blk w.heap.size 55 #[.int .u32 6, .string nm, .slice A n c] :: L) := HS9.sel 5 [0, 3, 4]
    clear hrd2 HT HS9 HS8 HS7 HS6 HS5 i1 i2 i3 i4 i5 i6 i7
    go_loopw [5, 6] (fun b i wr => ∃ (j cj m : Nat) (B : Option Addr) (bs : List Int), j ≤ n ∧ i = .int .i64 j ∧ b = .slice B m cj ∧ m = 6 + nm.size + 2 * j ∧ Aside (bs = be 4 (nm.size : Int) ++ strInts nm ++ be 2 (n : Int) ++ b2s (inf.take j)) ∧
      Sep w0 wr O (own 5 1 B m cj (by8 bs) :: blk (w.heap.size + 1) 25 #[.int .u32 0, .slice none 0 0] :: blk w.heap.size 55 #[.int .u32 6, .string nm, .slice A n c] :: L)) (fun _ i _ => n - (intOf i).toNat)
    case atStart => exact ⟨0, c9, 4 + nm.size + 2, A9, _, Nat.zero_le _, rfl, rfl, by omega, ⟨by simp [b2s]⟩, HS10⟩
    case round =>
      obtain ⟨j, cj, m, B, bs, hj, rfl, rfl, hm, hbs, HSj⟩ := hrel
      clear HS10
      have t0 := HSj.up2.blk_at 0 rfl
      have t2 := HSj.up2.blk_at 2 rfl
      by_cases hlt : j < n
      · obtain ⟨ad, y, rfl, hy, hmem, hcell⟩ := hr.cons.cons.cons.elemn HSj (j := j) hlt
        have hyb := HBD.out j y hy
        have HY := hid hy
        have v1 : IntKind.u64.wrap y = y := by rw [IntKind.wrap_u64]; omega
        have v2 : (j : Int) < n := by omega
        have v3 : (0 : Int) ≤ j := by omega
        have hm9 : (m + 2) * 1 ≤ 140737488355328 := by have := HN.out; omega
        have hm8 : m + 2 ≤ maxLen := by have := HN.out; simp only [maxLen]; omega
        have HM := hid hm
        clear hy hmem hm
        go_wp2_with fail
        refine (rbytes_calls (x := y) (s := 2) HSj (by decide) (by decide) hyb.1 (by have := hyb.2; omega)).mono ?_
        rintro e w12 ⟨A12, c12, rfl, HS12⟩
        clear t0 t2 hcell
        have HT := HS12.up1
        have hrd2 := HT.rd1
        go_wp2_with (at_builtin; (refine wpList_append_sep rfl (.tmp 79) (.tmp 86) 23 rfl 5 i0 _ 1 1 Try.underlying23 hi0 hz0 hz1 hz2 rfl (by decide) rfl HT rfl hrd2 (by8_one _) hm8 hm9 rfl (by8_append _ _) ?_; intro A13 c13 w13 HS13 hsz13))
        go_roundw
        case rel => exact ⟨j + 1, c13, m + 2, A13, bs ++ be 2 y, by omega, by go_num, rfl, by have := HM.out; omega, ⟨by rw [b2s_take HY.out, hbs.out, List.append_assoc]⟩, HS13.sel 4 [0, 2, 3]⟩
        case measure => simp [intOf]; omega
      · obtain rfl : j = n := by omega
        have v2 : ¬ (j : Int) < j := by omega
        have HB := HSj.up1
        have cz0 := HB.blk_at 0 rfl
        have cz1 := HB.blk_at 1 rfl
        have fz0 := HB.blk_frozen 0
        have fz1 := HB.blk_frozen 1
        have HR := HB.blk_set2 (.int .u32 6) (.slice B m cj)
        have hle := own_le HSj
        have HM := hid hm
        clear hm
        go_wp2
        (try simp only [Exit.inBlock, Exit.then])
        refine bodyPost_ret (results_rowa rfl _ _ _ _ _ _ _ rfl HR.blk_heap Try.underlying25 rfl info_rraw) rfl ?_
        rw [HQ.out]
        have e8 : bs = askD nm inf := by rw [hbs.out, List.take_of_length_le (by rw [HLL.out]; exact Nat.le_refl _), HCN.out]
        have e7 : m = (askD nm inf).length := by rw [HLN.out, HM.out]
        have HZ := own_ro (HR.sel 3 [1])
        rw [e8] at HZ
        subst e7
        exact ⟨B, cj, rfl, hle, HZ⟩
  · go_enter Try.func45, Try.ntmps45
    go_wp2_with fail
    refine (rbytes_calls (x := (nm.size : Int)) (s := 4) HS5 (by decide) (by decide) q0 q1.out.1).mono ?_
    rintro e w6 ⟨A6, c6, rfl, HS6⟩
    have hrd := (Rb.r0 (w0 := w0) (O := O) (L := blk (w.heap.size + 1) 25 #[.int .u32 0, .slice none 0 0] :: blk w.heap.size 55 #[.int .u32 7, .string nm, .slice A n c] :: L) (size := 1) (n := nm.size) (A := A5) (xs := by8 (strInts nm))).cons.read HS6
    clear a0 a2 hcv
    go_wp2_with (at_builtin; (refine wpList_append_sep rfl (.tmp 62) (.tmp 63) 23 rfl 5 i0 _ 1 1 Try.underlying23 hi0 hz0 hz1 hz2 rfl (by decide) rfl HS6 rfl hrd (by8_one _) h1 h2 rfl (by8_append _ _) ?_; intro A7 c7 w7 HS7 hsz7; have a2 := HS7.up3.blk_at 2 rfl))
    refine (rbytes_calls (x := (n : Int)) (s := 2) HS7 (by decide) (by decide) q2 q1.out.2).mono ?_
    rintro e w8 ⟨A8, c8, rfl, HS8⟩
    have HT := HS8.up1
    have hrd2 := HT.rd1
    clear hrd a2
    go_wp2_with (at_builtin; (refine wpList_append_sep rfl (.tmp 65) (.tmp 70) 23 rfl 5 i0 _ 1 1 Try.underlying23 hi0 hz0 hz1 hz2 rfl (by decide) rfl HT rfl hrd2 (by8_one _) h3 h4 rfl (by8_append _ _) ?_; intro A9 c9 w9 HS9 hsz9))
    have HS10 : Sep w0 w9 O (own 5 1 A9 (4 + nm.size + 2) c9 (by8 (be 4 (nm.size : Int) ++ strInts nm ++ be 2 (n : Int))) :: blk (w.heap.size + 1) 25 #[.int .u32 0, .slice none 0 0] :: blk w.heap.size 55 #[.int .u32 7, .string nm, .slice A n c] :: L) := HS9.sel 5 [0, 3, 4]
    clear hrd2 HT HS9 HS8 HS7 HS6 HS5 i1 i2 i3 i4 i5 i6 i7
    go_loopw [5, 6] (fun b i wr => ∃ (j cj m : Nat) (B : Option Addr) (bs : List Int), j ≤ n ∧ i = .int .i64 j ∧ b = .slice B m cj ∧ m = 6 + nm.size + 2 * j ∧ Aside (bs = be 4 (nm.size : Int) ++ strInts nm ++ be 2 (n : Int) ++ b2s (inf.take j)) ∧
      Sep w0 wr O (own 5 1 B m cj (by8 bs) :: blk (w.heap.size + 1) 25 #[.int .u32 0, .slice none 0 0] :: blk w.heap.size 55 #[.int .u32 7, .string nm, .slice A n c] :: L)) (fun _ i _ => n - (intOf i).toNat)
    case atStart => exact ⟨0, c9, 4 + nm.size + 2, A9, _, Nat.zero_le _, rfl, rfl, by omega, ⟨by simp [b2s]⟩, HS10⟩
    case round =>
      obtain ⟨j, cj, m, B, bs, hj, rfl, rfl, hm, hbs, HSj⟩ := hrel
      clear HS10
      have t0 := HSj.up2.blk_at 0 rfl
      have t2 := HSj.up2.blk_at 2 rfl
      by_cases hlt : j < n
      · obtain ⟨ad, y, rfl, hy, hmem, hcell⟩ := hr.cons.cons.cons.elemn HSj (j := j) hlt
        have hyb := HBD.out j y hy
        have HY := hid hy
        have v1 : IntKind.u64.wrap y = y := by rw [IntKind.wrap_u64]; omega
        have v2 : (j : Int) < n := by omega
        have v3 : (0 : Int) ≤ j := by omega
        have hm9 : (m + 2) * 1 ≤ 140737488355328 := by have := HN.out; omega
        have hm8 : m + 2 ≤ maxLen := by have := HN.out; simp only [maxLen]; omega
        have HM := hid hm
        clear hy hmem hm
        go_wp2_with fail
        refine (rbytes_calls (x := y) (s := 2) HSj (by decide) (by decide) hyb.1 (by have := hyb.2; omega)).mono ?_
        rintro e w12 ⟨A12, c12, rfl, HS12⟩
        clear t0 t2 hcell
        have HT := HS12.up1
        have hrd2 := HT.rd1
        go_wp2_with (at_builtin; (refine wpList_append_sep rfl (.tmp 79) (.tmp 86) 23 rfl 5 i0 _ 1 1 Try.underlying23 hi0 hz0 hz1 hz2 rfl (by decide) rfl HT rfl hrd2 (by8_one _) hm8 hm9 rfl (by8_append _ _) ?_; intro A13 c13 w13 HS13 hsz13))
        go_roundw
        case rel => exact ⟨j + 1, c13, m + 2, A13, bs ++ be 2 y, by omega, by go_num, rfl, by have := HM.out; omega, ⟨by rw [b2s_take HY.out, hbs.out, List.append_assoc]⟩, HS13.sel 4 [0, 2, 3]⟩
        case measure => simp [intOf]; omega
      · obtain rfl : j = n := by omega
        have v2 : ¬ (j : Int) < j := by omega
        have HB := HSj.up1
        have cz0 := HB.blk_at 0 rfl
        have cz1 := HB.blk_at 1 rfl
        have fz0 := HB.blk_frozen 0
        have fz1 := HB.blk_frozen 1
        have HR := HB.blk_set2 (.int .u32 7) (.slice B m cj)
        have hle := own_le HSj
        have HM := hid hm
        clear hm
        go_wp2
        (try simp only [Exit.inBlock, Exit.then])
        refine bodyPost_ret (results_rowa rfl _ _ _ _ _ _ _ rfl HR.blk_heap Try.underlying25 rfl info_rraw) rfl ?_
        rw [HQ.out]
        have e8 : bs = askD nm inf := by rw [hbs.out, List.take_of_length_le (by rw [HLL.out]; exact Nat.le_refl _), HCN.out]
        have e7 : m = (askD nm inf).length := by rw [HLN.out, HM.out]
        have HZ := own_ro (HR.sel 3 [1])
        rw [e8] at HZ
        subst e7
        exact ⟨B, cj, rfl, hle, HZ⟩

theorem rwrite_calls {op : Int} {nm : ByteArray} {A : Option Addr} {n c : Nat} {inf : List Int} (HS : Sep w0 w O L) (hr : Rb w0 O L 1 A n (kv .u16 inf)) (hb : ∀ x ∈ inf, 0 ≤ x ∧ x < 65536) (hn : n ≤ 70368744177664) :
    Calls Try.prog 45 #[.agg #[.int .u32 op, .string nm, .slice A n c]] w (RoOut w0 O (writeR op nm inf) L) := by
  have hl := hr.klen HS
  unfold writeR
  rw [hl]
  by_cases h1 : op = 1
  · rw [if_pos h1]
    by_cases h2 : 0 < n
    · rw [if_pos h2]; exact rwrite_err HS hn (by omega)
    · rw [if_neg h2]
      by_cases h3 : 16 < nm.size
      · rw [if_pos h3]; exact rwrite_err HS hn (by omega)
      · rw [if_neg h3]; subst h1; exact rwrite_1 HS h2 h3
  rw [if_neg h1]
  by_cases h23 : op = 2 ∨ op = 3
  · rw [if_pos h23]
    by_cases h4 : 0 < n ∨ 0 < nm.size
    · rw [if_pos h4]; exact rwrite_err HS hn (by omega)
    · rw [if_neg h4]; exact rwrite_23 h23 HS (by omega) (by omega)
  rw [if_neg h23]
  by_cases h67 : op = 6 ∨ op = 7
  · rw [if_pos h67]
    by_cases h4 : 16 < nm.size ∨ 256 < 6 + nm.size + 2 * n
    · rw [if_pos h4]; exact rwrite_err HS hn (by omega)
    · rw [if_neg h4]; exact rwrite_ok h67 HS hr hb (by omega) (by omega)
  rw [if_neg h67]
  exact rwrite_err HS hn (by omega)
end
end Go.Proofs.Ytgepekailoopeaa
