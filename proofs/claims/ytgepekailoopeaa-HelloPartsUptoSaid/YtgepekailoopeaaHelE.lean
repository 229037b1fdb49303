/-
  Contracts of hello.PutInfo (a name that is too long), hello.exports.
-/
import Derived.Test.YtgepekailoopeaaHelD
namespace Go.Proofs.Ytgepekailoopeaa
open Go.RowKit
set_option linter.unusedVariables false
set_option linter.unusedSimpArgs false
section
variable {w0 w : World} {O : Nat → Prop} {L : List Asr}

set_option maxHeartbeats 4000000 in
set_option maxRecDepth 100000 in
theorem putinfo1_long {nm : ByteArray} (HS : Sep w0 w O L) (hn : 16 < nm.size) (hb : nm.size ≤ 140737488351232) :
    Calls Try.prog 49 #[.agg #[.int .u16 1, .int .u64 0, .int .u16 0, .string nm, .int .u32 0, .int .u32 0, .int .u32 0]] w fun e w' => e = .returned (.tuple #[.slice none 0 0, .int .i64 3]) ∧ Sep w0 w' O L := by
  obtain ⟨i0, hi0, hz0, hz1, hz2⟩ := info_parts info_u8
  have HSa := HS.alloc #[.int .u16 1, .int .u64 0, .int .u16 0, .string nm, .int .u32 0, .int .u32 0, .int .u32 0] 104
  go_enter Try.func49, Try.ntmps49
  go_wp2_with fail
  refine (put_ok (l := []) (x := 1) (s := 2) HSa Rb.nil (by decide) (by decide) (by decide) (by decide) (by decide)).mono ?_
  rintro e w1 ⟨A1, c1, rfl, HS1⟩
  have HS2 := HS1.alloc #[.int .u16 0, .int .u64 0, .int .u16 0, .string eStr, .int .u32 0, .int .u32 0, .int .u32 0] 104
  have HS2' := HS1.alloc #[.int .u16 0, .int .u64 0, .int .u16 0, .string nm, .int .u32 0, .int .u32 0, .int .u32 0] 104
  have q0 := HS1.up1.blk_at 0 rfl
  have q1 := HS1.up1.blk_at 1 rfl
  have q2 := HS1.up1.blk_at 2 rfl
  have q3 := HS1.up1.blk_at 3 rfl
  have q4 := HS1.up1.blk_at 4 rfl
  have q5 := HS1.up1.blk_at 5 rfl
  have q6 := HS1.up1.blk_at 6 rfl
  have z0 := HS2.up2.blk_at 0 rfl
  have z0' := HS2'.up2.blk_at 0 rfl
  have z1 := HS2.up2.blk_at 1 rfl
  have z1' := HS2'.up2.blk_at 1 rfl
  have z2 := HS2.up2.blk_at 2 rfl
  have z2' := HS2'.up2.blk_at 2 rfl
  have z3 := HS2.up2.blk_at 3 rfl
  have z3' := HS2'.up2.blk_at 3 rfl
  have z4 := HS2.up2.blk_at 4 rfl
  have z4' := HS2'.up2.blk_at 4 rfl
  have z5 := HS2.up2.blk_at 5 rfl
  have z5' := HS2'.up2.blk_at 5 rfl
  have z6 := HS2.up2.blk_at 6 rfl
  have z6' := HS2'.up2.blk_at 6 rfl
  have HA : Sep w0 _ O (own 5 1 A1 2 c1 (by8 (be 2 1)) :: blk w1.heap.size 104 #[.int .u16 0, .int .u64 0, .int .u16 0, .string eStr, .int .u32 0, .int .u32 0, .int .u32 0] :: blk w.heap.size 104 #[.int .u16 1, .int .u64 0, .int .u16 0, .string nm, .int .u32 0, .int .u32 0, .int .u32 0] :: L) := HS2.sel 3 [1, 0, 2]
  have h1 : 2 + nm.size ≤ maxLen := by simp only [maxLen]; omega
  have h2 : 2 + nm.size ≤ 140737488355328 := by omega
  have hq := fun w => eqArr3 0 0 0 0 0 0 w
  have i16 : 16 < (nm.size : Int) := by omega
  go_wp2_with (at_builtin; go_loud (refine wpList_append_sep_str rfl (.tmp 31) (.tmp 33) 23 9 rfl 5 i0 Try.underlying23 Try.underlying9 hi0 hz0 hz1 hz2 rfl HA rfl h1 h2 rfl rfl ?_); intro A5 c5 w5 HS5 hsz5; have p0 := HS5.up1.blk_at 0 rfl; have p1 := HS5.up1.blk_at 1 rfl; have p2 := HS5.up1.blk_at 2 rfl; have p3 := HS5.up1.blk_at 3 rfl; have p4 := HS5.up1.blk_at 4 rfl; have p5 := HS5.up1.blk_at 5 rfl; have p6 := HS5.up1.blk_at 6 rfl; have r3 := HS5.up2.blk_at 3 rfl)
  go_ret2
  exact ⟨rfl, HS5.drop.drop.drop⟩
end
abbrev volC (id : Int) (nm : ByteArray) (size root : Int) (fx : Bool) (orig : Int) : Array Value := #[.int .u64 id, .string nm, .int .u64 size, .int .u64 root, .bool fx, .int .u64 orig]
/-- what is told of a volume -/
def expR (op : Int) (nm : ByteArray) (size : Int) (fx : Bool) (inf : List Int) : List (Int × Int × List Int) :=
  [(op, 3, be 2 0 ++ be 8 size ++ be 2 (if fx then 111 else 109))] ++ (if nm.size ≤ 16 ∧ 1 ∈ inf then [(op, 3, be 2 1 ++ strInts nm)] else []) ++ (if 3 ∈ inf then [(op, 3, be 2 3 ++ be 4 1 ++ be 4 256 ++ be 4 4096)] else [])
def RpOut (w0 : World) (O : Nat → Prop) (R : List (Int × Int × List Int)) (L : List Asr) : Ending → World → Prop := fun e w' =>
  ∃ (rs : List Rp) (A' : Option Addr) (c' : Nat), rs.map Rp.out = R ∧ e = .returned (.slice A' rs.length c') ∧ Sep w0 w' O (own 35 3 A' rs.length c' (rrow rs) :: dataA 5 rs :: L)
section
variable {w0 w : World} {O : Nat → Prop} {L : List Asr}

set_option maxHeartbeats 8000000 in
set_option maxRecDepth 100000 in
theorem exports_calls {op id size root orig : Int} {wn nm : ByteArray} {fx : Bool} {Ai : Option Addr} {ni ci : Nat} {inf : List Int} (HS : Sep w0 w O L) (hri : Rb w0 O L 1 Ai ni (kv .u16 inf)) (hni : ni ≤ 70368744177664)
    (z0 : 0 ≤ size) (z1 : size < 18446744073709551616) (hnm : nm.size ≤ 140737488351232) :
    Calls Try.prog 71 #[.agg #[.int .u32 op, .string wn, .slice Ai ni ci], .agg (volC id nm size root fx orig)] w (RpOut w0 O (expR op nm size fx inf) L) := by
  have HSa := HS.alloc #[.int .u32 op, .string wn, .slice Ai ni ci] 66
  have HSb := HSa.allocB (volC id nm size root fx orig) 60 (B := w.heap.size + 1) (by simp)
  have Z0 : Aside (((w.alloc (.cells #[.int .u32 op, .string wn, .slice Ai ni ci] 66)).alloc (.cells (volC id nm size root fx orig) 60)).drew.cell? ⟨w.heap.size + 1, 0, none⟩ = some (.int .u64 id) ∧ ((w.alloc (.cells #[.int .u32 op, .string wn, .slice Ai ni ci] 66)).alloc (.cells (volC id nm size root fx orig) 60)).drew.cell? ⟨w.heap.size + 1, 1, none⟩ = some (.string nm) ∧ ((w.alloc (.cells #[.int .u32 op, .string wn, .slice Ai ni ci] 66)).alloc (.cells (volC id nm size root fx orig) 60)).drew.cell? ⟨w.heap.size + 1, 2, none⟩ = some (.int .u64 size) ∧ ((w.alloc (.cells #[.int .u32 op, .string wn, .slice Ai ni ci] 66)).alloc (.cells (volC id nm size root fx orig) 60)).drew.cell? ⟨w.heap.size + 1, 3, none⟩ = some (.int .u64 root) ∧ ((w.alloc (.cells #[.int .u32 op, .string wn, .slice Ai ni ci] 66)).alloc (.cells (volC id nm size root fx orig) 60)).drew.cell? ⟨w.heap.size + 1, 4, none⟩ = some (.bool fx) ∧ ((w.alloc (.cells #[.int .u32 op, .string wn, .slice Ai ni ci] 66)).alloc (.cells (volC id nm size root fx orig) 60)).drew.cell? ⟨w.heap.size + 1, 5, none⟩ = some (.int .u64 orig)) := ⟨⟨HSb.drew.blk_at 0 rfl, HSb.drew.blk_at 1 rfl, HSb.drew.blk_at 2 rfl, HSb.drew.blk_at 3 rfl, HSb.drew.blk_at 4 rfl, HSb.drew.blk_at 5 rfl⟩⟩
  obtain ⟨F, hF⟩ : ∃ F : Int, F = (if fx then 111 else 109) := ⟨_, rfl⟩
  have hF0 : 0 ≤ F ∧ F < 65536 := by rw [hF]; cases fx <;> decide
  have hexp : expR op nm size fx inf = [(op, 3, be 2 0 ++ be 8 size ++ be 2 F)] ++ (if nm.size ≤ 16 ∧ 1 ∈ inf then [(op, 3, be 2 1 ++ strInts nm)] else []) ++ (if 3 ∈ inf then [(op, 3, be 2 3 ++ be 4 1 ++ be 4 256 ++ be 4 4096)] else []) := by rw [hF]; rfl
  rw [hexp]
  have hexc : ∀ {w : World} {L : List Asr}, Sep w0 w O L → Calls Try.prog 83 #[.agg (volC id nm size root fx orig)] w fun e w' => e = .returned (.int .u16 F) ∧ Sep w0 w' O L := by
    intro w L H; rw [hF]; exact export_calls H
  have HEX := hid @hexc
  obtain ⟨Q, hQ⟩ : ∃ Q : Ending → World → Prop, Q = RpOut w0 O ([(op, 3, be 2 0 ++ be 8 size ++ be 2 F)] ++ (if nm.size ≤ 16 ∧ 1 ∈ inf then [(op, 3, be 2 1 ++ strInts nm)] else []) ++ (if 3 ∈ inf then [(op, 3, be 2 3 ++ be 4 1 ++ be 4 256 ++ be 4 4096)] else [])) L := ⟨_, rfl⟩
  have HQ := hid hQ
  rw [← hQ]
  clear hF hexp hexc hQ
  go_enter Try.func71, Try.ntmps71
  go_upto_region 1 with (fail)
  go_region_held_law (fun w' => w'.cell? ⟨w.heap.size + 1, 0, none⟩ = some (.int .u64 id) ∧ w'.cell? ⟨w.heap.size + 1, 1, none⟩ = some (.string nm) ∧ w'.cell? ⟨w.heap.size + 1, 2, none⟩ = some (.int .u64 size) ∧ w'.cell? ⟨w.heap.size + 1, 3, none⟩ = some (.int .u64 root) ∧ w'.cell? ⟨w.heap.size + 1, 4, none⟩ = some (.bool fx) ∧ w'.cell? ⟨w.heap.size + 1, 5, none⟩ = some (.int .u64 orig)) (first | with_reducible exact Z2.out | with_reducible exact Z1.out | with_reducible exact Z0.out)
    (first
      | (go_at_call 83; refine (HEX.out HSb.drew).mono ?_; rintro e w1 ⟨rfl, HS1⟩; have Z1 : Aside (w1.cell? ⟨w.heap.size + 1, 0, none⟩ = some (.int .u64 id) ∧ w1.cell? ⟨w.heap.size + 1, 1, none⟩ = some (.string nm) ∧ w1.cell? ⟨w.heap.size + 1, 2, none⟩ = some (.int .u64 size) ∧ w1.cell? ⟨w.heap.size + 1, 3, none⟩ = some (.int .u64 root) ∧ w1.cell? ⟨w.heap.size + 1, 4, none⟩ = some (.bool fx) ∧ w1.cell? ⟨w.heap.size + 1, 5, none⟩ = some (.int .u64 orig)) := ⟨⟨HS1.blk_at 0 rfl, HS1.blk_at 1 rfl, HS1.blk_at 2 rfl, HS1.blk_at 3 rfl, HS1.blk_at 4 rfl, HS1.blk_at 5 rfl⟩⟩)
      | (go_at_call 49; refine (putinfo0_ok HS1 z0 z1 hF0.1 hF0.2).mono ?_; rintro e w2 ⟨A2, c2, rfl, HS2⟩; have Z2 : Aside (w2.cell? ⟨w.heap.size + 1, 0, none⟩ = some (.int .u64 id) ∧ w2.cell? ⟨w.heap.size + 1, 1, none⟩ = some (.string nm) ∧ w2.cell? ⟨w.heap.size + 1, 2, none⟩ = some (.int .u64 size) ∧ w2.cell? ⟨w.heap.size + 1, 3, none⟩ = some (.int .u64 root) ∧ w2.cell? ⟨w.heap.size + 1, 4, none⟩ = some (.bool fx) ∧ w2.cell? ⟨w.heap.size + 1, 5, none⟩ = some (.int .u64 orig)) := ⟨⟨HS2.up1.blk_at 0 rfl, HS2.up1.blk_at 1 rfl, HS2.up1.blk_at 2 rfl, HS2.up1.blk_at 3 rfl, HS2.up1.blk_at 4 rfl, HS2.up1.blk_at 5 rfl⟩⟩))
  all_goals
    clear Z0 Z1 Z2 HSa HSb HS1
    have o0 := HS2.up2.blk_at 0 rfl
    have HG1 := ((HS2.emp.nil 35 3).lit #[.slice A2 12 c2] 23 1 1 rfl (by decide))
    replace HG1 : Sep w0 _ O (own 23 1 (some ⟨w2.heap.size, 0, none⟩) 1 1 [.slice A2 (be 2 0 ++ be 8 size ++ be 2 F).length c2] :: own 35 3 none 0 0 (rrow []) :: dataA 5 [] :: own 5 1 A2 (be 2 0 ++ be 8 size ++ be 2 F).length c2 (by8 (be 2 0 ++ be 8 size ++ be 2 F)) :: blk (w.heap.size + 1) 60 (volC id nm size root fx orig) :: blk w.heap.size 66 #[.int .u32 op, .string wn, .slice Ai ni ci] :: L) := HG1
    go_wp2_with fail
    refine (gather_calls (op := op) (kd := 3) HG1 (by decide)).mono ?_
    rintro e w3 ⟨A3, c3, rfl, HS3⟩
    clear o0 HG1 HS2
    have v1 := HS3.up2.blk_at 1 rfl
    obtain ⟨r1, hr1⟩ : ∃ r1 : Rp, r1 = ⟨op, 3, A2, c2, be 2 0 ++ be 8 size ++ be 2 F⟩ := ⟨_, rfl⟩
    replace HS3 : Sep w0 w3 O (own 35 3 A3 1 c3 (rrow [r1]) :: dataA 5 [r1] :: blk (w.heap.size + 1) 60 (volC id nm size root fx orig) :: blk w.heap.size 66 #[.int .u32 op, .string wn, .slice Ai ni ci] :: L) := by rw [hr1]; exact HS3
    have HR1 : Aside ([r1].map Rp.out = [(op, 3, be 2 0 ++ be 8 size ++ be 2 F)]) := ⟨by rw [hr1]; rfl⟩
    clear hr1
    go_wp2_with fail
    by_cases h16 : 16 < nm.size
    · have H16 := hid h16
      refine (putinfo1_long HS3 h16 hnm).mono ?_
      rintro e w4 ⟨rfl, HS4⟩
      clear v1 h16
      have oi := HS4.up3.blk_at 2 rfl
      have o0 := HS4.up3.blk_at 0 rfl
      by_cases h3 : 3 ∈ inf
      · have hd3 : decide ((3 : Int) ∈ inf) = true := decide_eq_true h3
        have HC3 := hid (contains_calls (c := ci) (x := 3) HS4 (hri.cons.cons.cons.cons) hni)
        rw [hd3] at HC3
        have H3 := hid h3
        clear hd3 h3
        go_wp2_with fail
        refine HC3.out.mono ?_
        rintro e w7 ⟨rfl, rfl⟩
        go_wp2_with fail
        refine (putinfo3_ok (a := 1) (b := 256) (d := 4096) HS4 (by decide) (by decide) (by decide) (by decide) (by decide) (by decide)).mono ?_
        rintro e w8 ⟨A8, c8, rfl, HS8⟩
        clear o0 oi
        have o0 := HS8.up4.blk_at 0 rfl
        have HG8 : Sep w0 _ O (own 23 1 (some ⟨w8.heap.size, 0, none⟩) 1 1 [.slice A8 (be 2 3 ++ be 4 1 ++ be 4 256 ++ be 4 4096).length c8] :: own 35 3 A3 1 c3 (rrow [r1]) :: dataA 5 [r1] :: own 5 1 A8 (be 2 3 ++ be 4 1 ++ be 4 256 ++ be 4 4096).length c8 (by8 (be 2 3 ++ be 4 1 ++ be 4 256 ++ be 4 4096)) :: blk (w.heap.size + 1) 60 (volC id nm size root fx orig) :: blk w.heap.size 66 #[.int .u32 op, .string wn, .slice Ai ni ci] :: L) := (HS8.lit #[.slice A8 14 c8] 23 1 1 rfl (by decide)).sel 6 [0, 2, 3, 1, 4, 5]
        go_wp2_with fail
        refine (gather_calls (op := op) (kd := 3) HG8 (by decide)).mono ?_
        rintro e w9 ⟨A9, c9, rfl, HS9⟩
        go_wp2
        rw [HQ.out]
        refine ⟨_, A9, c9, ?_, rfl, HS9.sel 4 [0, 1]⟩
        rw [List.map_append, HR1.out, if_pos H3.out]
        rw [if_neg (fun h => by have := H16.out; omega)]; first | rfl | simp [Rp.out]
      · have hd3 : decide ((3 : Int) ∈ inf) = false := decide_eq_false h3
        have HC3 := hid (contains_calls (c := ci) (x := 3) HS4 (hri.cons.cons.cons.cons) hni)
        rw [hd3] at HC3
        have H3 := hid h3
        clear hd3 h3
        go_wp2_with fail
        refine HC3.out.mono ?_
        rintro e w7 ⟨rfl, rfl⟩
        go_wp2
        rw [HQ.out]
        refine ⟨_, A3, c3, ?_, rfl, HS4.sel 4 [0, 1]⟩
        rw [HR1.out, if_neg H3.out]
        rw [if_neg (fun h => by have := H16.out; omega)]; first | rfl | simp [Rp.out]
    · have H16 := hid h16
      refine (putinfo1_ok HS3 (by omega)).mono ?_
      rintro e w4 ⟨A4, c4, rfl, HS4⟩
      have hbl : (be 2 1 ++ strInts nm).length = 2 + nm.size := by rw [List.length_append, be_len, strInts_len]
      clear v1 h16
      have oi := HS4.up4.blk_at 2 rfl
      by_cases h1 : 1 ∈ inf
      · have hd1 : decide ((1 : Int) ∈ inf) = true := decide_eq_true h1
        have HC1 := hid (contains_calls (c := ci) (x := 1) HS4 (hri.cons.cons.cons.cons.cons) hni)
        rw [hd1] at HC1
        have H1 := hid h1
        have o0 := HS4.up4.blk_at 0 rfl
        have HG4 : Sep w0 (w4.alloc (.cells #[.slice A4 (2 + nm.size) c4] 23)) O (own 23 1 (some ⟨w4.heap.size, 0, none⟩) 1 1 [.slice A4 (be 2 1 ++ strInts nm).length c4] :: own 35 3 A3 1 c3 (rrow [r1]) :: dataA 5 [r1] :: own 5 1 A4 (be 2 1 ++ strInts nm).length c4 (by8 (be 2 1 ++ strInts nm)) :: blk (w.heap.size + 1) 60 (volC id nm size root fx orig) :: blk w.heap.size 66 #[.int .u32 op, .string wn, .slice Ai ni ci] :: L) := by
          rw [hbl]; exact (HS4.lit #[.slice A4 (2 + nm.size) c4] 23 1 1 rfl (by decide)).sel 6 [0, 2, 3, 1, 4, 5]
        have HBL := hid hbl
        clear hd1 h1 hbl
        go_wp2_with fail
        refine HC1.out.mono ?_
        rintro e w5 ⟨rfl, rfl⟩
        go_wp2_with fail
        refine (gather_calls (op := op) (kd := 3) HG4 (by decide)).mono ?_
        rintro e w6 ⟨A6, c6, rfl, HS6⟩
        clear oi o0 HG4 HS4 HS3
        obtain ⟨r2, hr2⟩ : ∃ r2 : Rp, r2 = ⟨op, 3, A4, c4, be 2 1 ++ strInts nm⟩ := ⟨_, rfl⟩
        rw [← hr2] at HS6
        replace HS6 : Sep w0 w6 O (own 35 3 A6 2 c6 (rrow [r1, r2]) :: dataA 5 [r1, r2] :: blk (w.heap.size + 1) 60 (volC id nm size root fx orig) :: blk w.heap.size 66 #[.int .u32 op, .string wn, .slice Ai ni ci] :: L) := HS6
        have HR2 : Aside ([r1, r2].map Rp.out = [(op, 3, be 2 0 ++ be 8 size ++ be 2 F), (op, 3, be 2 1 ++ strInts nm)]) := ⟨by
          have := HR1.out
          simp only [List.map_cons, List.map_nil, List.cons.injEq, and_true] at this ⊢
          exact ⟨this, by rw [hr2]; rfl⟩⟩
        clear hr2 HR1
        have oi := HS6.up3.blk_at 2 rfl
        have o0 := HS6.up3.blk_at 0 rfl
        by_cases h3 : 3 ∈ inf
        · have hd3 : decide ((3 : Int) ∈ inf) = true := decide_eq_true h3
          have HC3 := hid (contains_calls (c := ci) (x := 3) HS6 (hri.cons.cons.cons.cons) hni)
          rw [hd3] at HC3
          have H3 := hid h3
          clear hd3 h3
          go_wp2_with fail
          refine HC3.out.mono ?_
          rintro e w7 ⟨rfl, rfl⟩
          go_wp2_with fail
          refine (putinfo3_ok (a := 1) (b := 256) (d := 4096) HS6 (by decide) (by decide) (by decide) (by decide) (by decide) (by decide)).mono ?_
          rintro e w8 ⟨A8, c8, rfl, HS8⟩
          clear o0 oi
          have o0 := HS8.up4.blk_at 0 rfl
          have HG8 : Sep w0 _ O (own 23 1 (some ⟨w8.heap.size, 0, none⟩) 1 1 [.slice A8 (be 2 3 ++ be 4 1 ++ be 4 256 ++ be 4 4096).length c8] :: own 35 3 A6 2 c6 (rrow [r1, r2]) :: dataA 5 [r1, r2] :: own 5 1 A8 (be 2 3 ++ be 4 1 ++ be 4 256 ++ be 4 4096).length c8 (by8 (be 2 3 ++ be 4 1 ++ be 4 256 ++ be 4 4096)) :: blk (w.heap.size + 1) 60 (volC id nm size root fx orig) :: blk w.heap.size 66 #[.int .u32 op, .string wn, .slice Ai ni ci] :: L) := (HS8.lit #[.slice A8 14 c8] 23 1 1 rfl (by decide)).sel 6 [0, 2, 3, 1, 4, 5]
          go_wp2_with fail
          refine (gather_calls (op := op) (kd := 3) HG8 (by decide)).mono ?_
          rintro e w9 ⟨A9, c9, rfl, HS9⟩
          go_wp2
          rw [HQ.out]
          refine ⟨_, A9, c9, ?_, rfl, HS9.sel 4 [0, 1]⟩
          rw [List.map_append, HR2.out, if_pos H3.out]
          rw [if_pos ⟨by have := H16.out; omega, H1.out⟩]; first | rfl | simp [Rp.out]
        · have hd3 : decide ((3 : Int) ∈ inf) = false := decide_eq_false h3
          have HC3 := hid (contains_calls (c := ci) (x := 3) HS6 (hri.cons.cons.cons.cons) hni)
          rw [hd3] at HC3
          have H3 := hid h3
          clear hd3 h3
          go_wp2_with fail
          refine HC3.out.mono ?_
          rintro e w7 ⟨rfl, rfl⟩
          go_wp2
          rw [HQ.out]
          refine ⟨_, A6, c6, ?_, rfl, HS6.sel 4 [0, 1]⟩
          rw [HR2.out, if_neg H3.out]
          rw [if_pos ⟨by have := H16.out; omega, H1.out⟩]; first | rfl | simp [Rp.out]
      · have hd1 : decide ((1 : Int) ∈ inf) = false := decide_eq_false h1
        have HC1 := hid (contains_calls (c := ci) (x := 1) HS4 (hri.cons.cons.cons.cons.cons) hni)
        rw [hd1] at HC1
        have H1 := hid h1
        clear hd1 h1 hbl
        go_wp2_with fail
        refine HC1.out.mono ?_
        rintro e w5 ⟨rfl, rfl⟩
        have HS6 := HS4.drop
        clear oi HS4 HS3
        have oi := HS6.up3.blk_at 2 rfl
        have o0 := HS6.up3.blk_at 0 rfl
        by_cases h3 : 3 ∈ inf
        · have hd3 : decide ((3 : Int) ∈ inf) = true := decide_eq_true h3
          have HC3 := hid (contains_calls (c := ci) (x := 3) HS6 (hri.cons.cons.cons.cons) hni)
          rw [hd3] at HC3
          have H3 := hid h3
          clear hd3 h3
          go_wp2_with fail
          refine HC3.out.mono ?_
          rintro e w7 ⟨rfl, rfl⟩
          go_wp2_with fail
          refine (putinfo3_ok (a := 1) (b := 256) (d := 4096) HS6 (by decide) (by decide) (by decide) (by decide) (by decide) (by decide)).mono ?_
          rintro e w8 ⟨A8, c8, rfl, HS8⟩
          clear o0 oi
          have o0 := HS8.up4.blk_at 0 rfl
          have HG8 : Sep w0 _ O (own 23 1 (some ⟨w8.heap.size, 0, none⟩) 1 1 [.slice A8 (be 2 3 ++ be 4 1 ++ be 4 256 ++ be 4 4096).length c8] :: own 35 3 A3 1 c3 (rrow [r1]) :: dataA 5 [r1] :: own 5 1 A8 (be 2 3 ++ be 4 1 ++ be 4 256 ++ be 4 4096).length c8 (by8 (be 2 3 ++ be 4 1 ++ be 4 256 ++ be 4 4096)) :: blk (w.heap.size + 1) 60 (volC id nm size root fx orig) :: blk w.heap.size 66 #[.int .u32 op, .string wn, .slice Ai ni ci] :: L) := (HS8.lit #[.slice A8 14 c8] 23 1 1 rfl (by decide)).sel 6 [0, 2, 3, 1, 4, 5]
          go_wp2_with fail
          refine (gather_calls (op := op) (kd := 3) HG8 (by decide)).mono ?_
          rintro e w9 ⟨A9, c9, rfl, HS9⟩
          go_wp2
          rw [HQ.out]
          refine ⟨_, A9, c9, ?_, rfl, HS9.sel 4 [0, 1]⟩
          rw [List.map_append, HR1.out, if_pos H3.out]
          rw [if_neg (fun h => H1.out h.2)]; first | rfl | simp [Rp.out]
        · have hd3 : decide ((3 : Int) ∈ inf) = false := decide_eq_false h3
          have HC3 := hid (contains_calls (c := ci) (x := 3) HS6 (hri.cons.cons.cons.cons) hni)
          rw [hd3] at HC3
          have H3 := hid h3
          clear hd3 h3
          go_wp2_with fail
          refine HC3.out.mono ?_
          rintro e w7 ⟨rfl, rfl⟩
          go_wp2
          rw [HQ.out]
          refine ⟨_, A3, c3, ?_, rfl, HS6.sel 4 [0, 1]⟩
          rw [HR1.out, if_neg H3.out]
          rw [if_neg (fun h => H1.out h.2)]; first | rfl | simp [Rp.out]
end
end Go.Proofs.Ytgepekailoopeaa
