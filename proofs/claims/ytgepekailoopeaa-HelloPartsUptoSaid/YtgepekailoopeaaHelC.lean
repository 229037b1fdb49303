/-
  Contracts of hello.PutInfo (kinds 1 and 3, where it goes well), PutName.
-/
import Derived.Test.YtgepekailoopeaaHelB
namespace Go.Proofs.Ytgepekailoopeaa
open Go.RowKit
set_option linter.unusedVariables false
set_option linter.unusedSimpArgs false
theorem info_u32s : (Try.prog.info? 22).map (·.size) = some 1 := by kernel_rfl
theorem run_index_arr {P : Program} (t e : TypeId) (n : Nat) (d : TypeDesc) (cs : Array Value) (k : IntKind) (i : Int) (v : Value) (h : P.underlying t = some (.array n e)) (he : P.underlying e = some d)
    (hd : (match d with | .struct _ | .array _ _ => true | _ => false) = false) (hi : (P.info? e).map (·.size) = some 1) (hb : 0 ≤ i ∧ i < n) (hv : cs[i.toNat]? = some v) (w : World) : (Instr.index t (.agg cs) (.int k i)).run P w = .ok v w := by
  have hagg : (isAgg e).run P w = .ok false w := by
    unfold isAgg
    rw [Sem.run_bind, run_underlying he w]
    cases d <;> simp_all
  cases hq : P.info? e with
  | none => simp [hq] at hi
  | some j =>
    have hs : j.size = 1 := by simpa [hq] using hi
    simp [Instr.index, asIntOf, Sem.run_bind, run_underlying h, hb, part, hagg, sizeOf, typeInfo, hq, hs, hv]
section
variable {w0 w : World} {O : Nat → Prop} {L : List Asr}

set_option maxHeartbeats 4000000 in
set_option maxRecDepth 100000 in
theorem putinfo1_ok {nm : ByteArray} (HS : Sep w0 w O L) (hn : nm.size ≤ 16) :
    Calls Try.prog 49 #[.agg #[.int .u16 1, .int .u64 0, .int .u16 0, .string nm, .int .u32 0, .int .u32 0, .int .u32 0]] w fun e w' => ∃ A c, e = .returned (.tuple #[.slice A (2 + nm.size) c, .int .i64 0]) ∧ Sep w0 w' O (own 5 1 A (2 + nm.size) c (by8 (be 2 1 ++ strInts nm)) :: L) := by
  obtain ⟨i0, hi0, hz0, hz1, hz2⟩ := info_parts info_u8
  have HSa := HS.alloc #[.int .u16 1, .int .u64 0, .int .u16 0, .string nm, .int .u32 0, .int .u32 0, .int .u32 0] 104
  go_enter Try.func49, Try.ntmps49
  go_wp2_with fail
  refine (put_ok (l := []) (x := 1) (s := 2) HSa Rb.nil (by decide) (by decide) (by decide) (by decide) (by decide)).mono ?_
  rintro e w1 ⟨A1, c1, rfl, HS1⟩
  have HS2 := HS1.alloc #[.int .u16 0, .int .u64 0, .int .u16 0, .string eStr, .int .u32 0, .int .u32 0, .int .u32 0] 104
  have HS2' := HS1.alloc #[.int .u16 0, .int .u64 0, .int .u16 0, .string nm, .int .u32 0, .int .u32 0, .int .u32 0] 104
  have q0 := HS1.up1.blk_at 0 rfl
  have q1 := HS1.up1.blk_at 1 rfl
  have q2 := HS1.up1.blk_at 2 rfl
  have q3 := HS1.up1.blk_at 3 rfl
  have q4 := HS1.up1.blk_at 4 rfl
  have q5 := HS1.up1.blk_at 5 rfl
  have q6 := HS1.up1.blk_at 6 rfl
  have z0 := HS2.up2.blk_at 0 rfl
  have z0' := HS2'.up2.blk_at 0 rfl
  have z1 := HS2.up2.blk_at 1 rfl
  have z1' := HS2'.up2.blk_at 1 rfl
  have z2 := HS2.up2.blk_at 2 rfl
  have z2' := HS2'.up2.blk_at 2 rfl
  have z3 := HS2.up2.blk_at 3 rfl
  have z3' := HS2'.up2.blk_at 3 rfl
  have z4 := HS2.up2.blk_at 4 rfl
  have z4' := HS2'.up2.blk_at 4 rfl
  have z5 := HS2.up2.blk_at 5 rfl
  have z5' := HS2'.up2.blk_at 5 rfl
  have z6 := HS2.up2.blk_at 6 rfl
  have z6' := HS2'.up2.blk_at 6 rfl
  have HA : Sep w0 _ O (own 5 1 A1 2 c1 (by8 (be 2 1)) :: blk w1.heap.size 104 #[.int .u16 0, .int .u64 0, .int .u16 0, .string eStr, .int .u32 0, .int .u32 0, .int .u32 0] :: blk w.heap.size 104 #[.int .u16 1, .int .u64 0, .int .u16 0, .string nm, .int .u32 0, .int .u32 0, .int .u32 0] :: L) := HS2.sel 3 [1, 0, 2]
  have h1 : 2 + nm.size ≤ maxLen := by simp only [maxLen]; omega
  have h2 : 2 + nm.size ≤ 140737488355328 := by omega
  have hq := fun w => eqArr3 0 0 0 0 0 0 w
  have i16 : ¬ 16 < (nm.size : Int) := by omega
  go_wp2_with (at_builtin; go_loud (refine wpList_append_sep_str rfl (.tmp 31) (.tmp 33) 23 9 rfl 5 i0 Try.underlying23 Try.underlying9 hi0 hz0 hz1 hz2 rfl HA rfl h1 h2 rfl rfl ?_); intro A5 c5 w5 HS5 hsz5; have p0 := HS5.up1.blk_at 0 rfl; have p1 := HS5.up1.blk_at 1 rfl; have p2 := HS5.up1.blk_at 2 rfl; have p3 := HS5.up1.blk_at 3 rfl; have p4 := HS5.up1.blk_at 4 rfl; have p5 := HS5.up1.blk_at 5 rfl; have p6 := HS5.up1.blk_at 6 rfl; have r3 := HS5.up2.blk_at 3 rfl)
  go_ret2
  refine ⟨A5, c5, rfl, ?_⟩
  have e9 : by8 (be 2 1 ++ strInts nm) = by8 (be 2 1) ++ Lib.strCells nm := by rw [strInts_cells, by8_append]
  rw [e9]
  exact HS5.sel 3 [0]

set_option maxHeartbeats 4000000 in
set_option maxRecDepth 100000 in
theorem putinfo3_ok {a b d : Int} (HS : Sep w0 w O L) (a0 : 0 ≤ a) (a1 : a < 4294967296) (b0 : 0 ≤ b) (b1 : b < 4294967296) (d0 : 0 ≤ d) (d1 : d < 4294967296) :
    Calls Try.prog 49 #[.agg #[.int .u16 3, .int .u64 0, .int .u16 0, .string eStr, .int .u32 a, .int .u32 b, .int .u32 d]] w fun e w' => ∃ A c, e = .returned (.tuple #[.slice A 14 c, .int .i64 0]) ∧ Sep w0 w' O (own 5 1 A 14 c (by8 (be 2 3 ++ be 4 a ++ be 4 b ++ be 4 d)) :: L) := by
  obtain ⟨i0, hi0, hz0, hz1, hz2⟩ := info_parts info_u8
  have HSa := HS.alloc #[.int .u16 3, .int .u64 0, .int .u16 0, .string eStr, .int .u32 a, .int .u32 b, .int .u32 d] 104
  go_enter Try.func49, Try.ntmps49
  go_wp2_with fail
  refine (put_ok (l := []) (x := 3) (s := 2) HSa Rb.nil (by decide) (by decide) (by decide) (by decide) (by decide)).mono ?_
  rintro e w1 ⟨A1, c1, rfl, HS1⟩
  have HS2 := HS1.alloc #[.int .u16 0, .int .u64 0, .int .u16 0, .string eStr, .int .u32 0, .int .u32 0, .int .u32 0] 104
  have HS2' := HS1.alloc #[.int .u16 0, .int .u64 0, .int .u16 0, .string eStr, .int .u32 a, .int .u32 b, .int .u32 d] 104
  have q0 := HS1.up1.blk_at 0 rfl
  have q1 := HS1.up1.blk_at 1 rfl
  have q2 := HS1.up1.blk_at 2 rfl
  have q3 := HS1.up1.blk_at 3 rfl
  have q4 := HS1.up1.blk_at 4 rfl
  have q5 := HS1.up1.blk_at 5 rfl
  have q6 := HS1.up1.blk_at 6 rfl
  have z0 := HS2.up2.blk_at 0 rfl
  have z0' := HS2'.up2.blk_at 0 rfl
  have z1 := HS2.up2.blk_at 1 rfl
  have z1' := HS2'.up2.blk_at 1 rfl
  have z2 := HS2.up2.blk_at 2 rfl
  have z2' := HS2'.up2.blk_at 2 rfl
  have z3 := HS2.up2.blk_at 3 rfl
  have z3' := HS2'.up2.blk_at 3 rfl
  have z4 := HS2.up2.blk_at 4 rfl
  have z4' := HS2'.up2.blk_at 4 rfl
  have z5 := HS2.up2.blk_at 5 rfl
  have z5' := HS2'.up2.blk_at 5 rfl
  have z6 := HS2.up2.blk_at 6 rfl
  have z6' := HS2'.up2.blk_at 6 rfl
  have y1 : IntKind.u64.wrap a = a := by rw [IntKind.wrap_u64]; omega
  have y2 : IntKind.u64.wrap b = b := by rw [IntKind.wrap_u64]; omega
  have y3 : IntKind.u64.wrap d = d := by rw [IntKind.wrap_u64]; omega
  have HA : Sep w0 _ O (own 5 1 A1 2 c1 (by8 (be 2 3)) :: blk w1.heap.size 104 #[.int .u16 0, .int .u64 0, .int .u16 0, .string eStr, .int .u32 0, .int .u32 0, .int .u32 0] :: blk w.heap.size 104 #[.int .u16 3, .int .u64 0, .int .u16 0, .string eStr, .int .u32 a, .int .u32 b, .int .u32 d] :: L) := HS2.sel 3 [1, 0, 2]
  have hq := fun w => eqArr3 0 0 0 0 0 0 w
  go_wp2_with fail
  go_loopw [4, 41] (fun v i wr => ∃ (j cj : Nat) (B : Option Addr) (m : Nat) (bs : List Int), j ≤ 3 ∧ i = .int .i64 j ∧ v = .slice B m cj ∧ m = 2 + 4 * j ∧ Aside (bs = be 2 3 ++ [be 4 a, be 4 b, be 4 d].flatten.take (4 * j)) ∧
    Sep w0 wr O (own 5 1 B m cj (by8 bs) :: blk w1.heap.size 104 #[.int .u16 0, .int .u64 0, .int .u16 0, .string eStr, .int .u32 0, .int .u32 0, .int .u32 0] :: blk w.heap.size 104 #[.int .u16 3, .int .u64 0, .int .u16 0, .string eStr, .int .u32 a, .int .u32 b, .int .u32 d] :: L)) (fun _ i _ => 3 - (intOf i).toNat)
  case atStart => exact ⟨0, c1, A1, 2, be 2 3, by omega, rfl, rfl, rfl, ⟨by simp⟩, HA⟩
  case round =>
    obtain ⟨j, cj, B, m, bs, hj, rfl, rfl, hm, hbs, HS6⟩ := hrel
    clear q0 q1 q2 q3 q4 q5 q6 z0 z0' z1 z1' z2 z2' z3 z3' z4 z4' z5 z5' z6 z6'
    have key : j = 0 ∨ j = 1 ∨ j = 2 ∨ j = 3 := by omega
    rcases key with rfl | rfl | rfl | rfl
    · have hix := fun w => run_index_arr (P := Try.prog) 100 22 3 _ #[.int .u32 a, .int .u32 b, .int .u32 d] .i64 0 (.int .u32 a) Try.underlying100 Try.underlying22 rfl info_u32s (by decide) rfl w
      obtain rfl : m = 2 := by omega
      clear hm
      go_wp2_with fail
      refine (put_ok (x := a) (s := 4) HS6 Rb.i0 (by omega) (by decide) (by decide) a0 (by omega)).mono ?_
      rintro e w7 ⟨A7, c7, rfl, HS7⟩
      have HS8 := HS7.sel 4 [0, 2, 3]
      go_wp2
      go_roundw
      case rel => exact ⟨1, c7, A7, 2 + 4, bs ++ be 4 a, by omega, by go_num, rfl, by omega, ⟨by rw [hbs.out]; simp [List.take_append, be_len, List.take_of_length_le]⟩, HS8⟩
      case measure => simp [intOf]
    · have hix := fun w => run_index_arr (P := Try.prog) 100 22 3 _ #[.int .u32 a, .int .u32 b, .int .u32 d] .i64 1 (.int .u32 b) Try.underlying100 Try.underlying22 rfl info_u32s (by decide) rfl w
      obtain rfl : m = 6 := by omega
      clear hm
      go_wp2_with fail
      refine (put_ok (x := b) (s := 4) HS6 Rb.i0 (by omega) (by decide) (by decide) b0 (by omega)).mono ?_
      rintro e w7 ⟨A7, c7, rfl, HS7⟩
      have HS8 := HS7.sel 4 [0, 2, 3]
      go_wp2
      go_roundw
      case rel => exact ⟨2, c7, A7, 6 + 4, bs ++ be 4 b, by omega, by go_num, rfl, by omega, ⟨by rw [hbs.out]; simp [List.take_append, be_len, List.take_of_length_le]⟩, HS8⟩
      case measure => simp [intOf]
    · have hix := fun w => run_index_arr (P := Try.prog) 100 22 3 _ #[.int .u32 a, .int .u32 b, .int .u32 d] .i64 2 (.int .u32 d) Try.underlying100 Try.underlying22 rfl info_u32s (by decide) rfl w
      obtain rfl : m = 10 := by omega
      clear hm
      go_wp2_with fail
      refine (put_ok (x := d) (s := 4) HS6 Rb.i0 (by omega) (by decide) (by decide) d0 (by omega)).mono ?_
      rintro e w7 ⟨A7, c7, rfl, HS7⟩
      have HS8 := HS7.sel 4 [0, 2, 3]
      go_wp2
      go_roundw
      case rel => exact ⟨3, c7, A7, 10 + 4, bs ++ be 4 d, by omega, by go_num, rfl, by omega, ⟨by rw [hbs.out]; simp [List.take_append, be_len, List.take_of_length_le]⟩, HS8⟩
      case measure => simp [intOf]
    · obtain rfl : m = 14 := by omega
      clear hm
      have hb3 : bs = be 2 3 ++ be 4 a ++ be 4 b ++ be 4 d := by
        rw [hbs.out, List.take_of_length_le (by simp [be_len])]
        simp
      subst hb3
      have p0 := HS6.up1.blk_at 0 rfl
      have p1 := HS6.up1.blk_at 1 rfl
      have p2 := HS6.up1.blk_at 2 rfl
      have p3 := HS6.up1.blk_at 3 rfl
      have p4 := HS6.up1.blk_at 4 rfl
      have p5 := HS6.up1.blk_at 5 rfl
      have p6 := HS6.up1.blk_at 6 rfl
      have r3 := HS6.up2.blk_at 3 rfl
      go_wp2
      go_ret2
      exact ⟨B, cj, rfl, HS6.sel 3 [0]⟩

def nameE (nm : ByteArray) : Int := if 16 < nm.size then 3 else 0
def nameB (nm : ByteArray) : List Int := if 16 < nm.size then [] else be 4 (nm.size : Int) ++ strInts nm
set_option maxHeartbeats 2000000 in
set_option maxRecDepth 100000 in
theorem putname_calls {nm : ByteArray} (HS : Sep w0 w O L) :
    Calls Try.prog 53 #[.string nm] w fun e w' => ∃ A c, e = .returned (.tuple #[.slice A (nameB nm).length c, .int .i64 (nameE nm)]) ∧ Sep w0 w' O (own 5 1 A (nameB nm).length c (by8 (nameB nm)) :: L) := by
  obtain ⟨i0, hi0, hz0, hz1, hz2⟩ := info_parts info_u8
  by_cases h : 16 < nm.size
  · have e1 : nameB nm = [] := by unfold nameB; rw [if_pos h]
    have e2 : nameE nm = 3 := by unfold nameE; rw [if_pos h]
    rw [e1, e2]
    have i16 : 16 < (nm.size : Int) := by omega
    clear e1 e2 h
    go_enter Try.func53, Try.ntmps53
    go_wp2
    go_ret2
    exact ⟨none, 0, rfl, HS.nil _ _⟩
  · have e1 : nameB nm = be 4 (nm.size : Int) ++ strInts nm := by unfold nameB; rw [if_neg h]
    have e2 : nameE nm = 0 := by unfold nameE; rw [if_neg h]
    have e3 : (be 4 (nm.size : Int) ++ strInts nm).length = 4 + nm.size := by rw [List.length_append, be_len, strInts_len]
    rw [e1, e2, e3]
    have i16 : ¬ 16 < (nm.size : Int) := by omega
    have y1 : IntKind.u64.wrap (nm.size : Int) = nm.size := by rw [IntKind.wrap_u64]; omega
    have h1 : 4 + nm.size ≤ maxLen := by simp only [maxLen]; omega
    have h2 : 4 + nm.size ≤ 140737488355328 := by omega
    clear e1 e2 e3
    go_enter Try.func53, Try.ntmps53
    go_wp2_with fail
    refine (put_ok (l := []) (x := (nm.size : Int)) (s := 4) HS Rb.nil (by decide) (by decide) (by decide) (by omega) (by omega)).mono ?_
    rintro e w1 ⟨A1, c1, rfl, HS1⟩
    replace HS1 : Sep w0 w1 O (own 5 1 A1 4 c1 (by8 (be 4 (nm.size : Int))) :: L) := HS1
    go_wp2_with (at_builtin; go_loud (refine wpList_append_sep_str rfl (.tmp 10) (.tmp 11) 23 9 rfl 5 i0 Try.underlying23 Try.underlying9 hi0 hz0 hz1 hz2 rfl HS1 rfl h1 h2 rfl rfl ?_); intro A5 c5 w5 HS5 hsz5)
    go_ret2
    refine ⟨A5, c5, rfl, ?_⟩
    have e9 : by8 (be 4 (nm.size : Int) ++ strInts nm) = by8 (be 4 (nm.size : Int)) ++ Lib.strCells nm := by rw [strInts_cells, by8_append]
    rw [e9]
    exact HS5
end
end Go.Proofs.Ytgepekailoopeaa
