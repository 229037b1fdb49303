/-
  Contract of hello.PutInfo, whole.
-/
import Derived.Test.YtgepekailoopeaaHelE
import Derived.Laws.Closers25
namespace Go.Proofs.Ytgepekailoopeaa
open Go.RowKit
set_option linter.unusedVariables false
set_option linter.unusedSimpArgs false
structure If where
  kd : Int
  size : Int
  fl : Int
  nm : ByteArray
  p : Int
  q : Int
  r : Int
abbrev If.cells (i : If) : Array Value := #[.int .u16 i.kd, .int .u64 i.size, .int .u16 i.fl, .string i.nm, .int .u32 i.p, .int .u32 i.q, .int .u32 i.r]
structure If.Ok (i : If) : Prop where
  kd : 0 ≤ i.kd ∧ i.kd < 65536
  size : 0 ≤ i.size ∧ i.size < 18446744073709551616
  fl : 0 ≤ i.fl ∧ i.fl < 65536
  nm : i.nm.size ≤ 140737488351232
  p : 0 ≤ i.p ∧ i.p < 4294967296
  q : 0 ≤ i.q ∧ i.q < 4294967296
  r : 0 ≤ i.r ∧ i.r < 4294967296
def arr0 (p q r : Int) : Bool := p == 0 && q == 0 && r == 0
def putE (i : If) : Int :=
  if i.kd = 0 then (if 0 < i.nm.size ∨ arr0 i.p i.q i.r = false then 1 else 0)
  else if i.kd = 1 then (if i.size ≠ 0 ∨ i.fl ≠ 0 ∨ arr0 i.p i.q i.r = false then 1 else if 16 < i.nm.size then 3 else 0)
  else if i.kd = 3 then (if i.size ≠ 0 ∨ i.fl ≠ 0 ∨ 0 < i.nm.size then 1 else 0)
  else 6
def putB (i : If) : List Int :=
  if putE i = 0 then be 2 i.kd ++ (if i.kd = 0 then be 8 i.size ++ be 2 i.fl else if i.kd = 1 then strInts i.nm else be 4 i.p ++ be 4 i.q ++ be 4 i.r) else []
theorem arr0_eq {p q r : Int} (h : arr0 p q r = true) : p = 0 ∧ q = 0 ∧ r = 0 := by
  unfold arr0 at h
  simp only [Bool.and_eq_true, beq_iff_eq] at h
  exact ⟨h.1.1, h.1.2, h.2⟩
theorem info_isE (nm : ByteArray) : nm.toList.isEmpty = decide (nm.size = 0) := by
  rw [← decide_eq_emptyBytes]
  refine decide_eq_decide.2 ⟨fun e => by subst e; rfl, fun h => ?_⟩
  exact ByteArray.ext (Array.eq_empty_of_size_eq_zero h)
theorem info_full {nm : ByteArray} (h : 0 < nm.size) : nm.toList.isEmpty = false := by rw [info_isE]; exact decide_eq_false (by omega)
theorem info_void {nm : ByteArray} (h : ¬ 0 < nm.size) : nm = eStr := ByteArray.ext (Array.eq_empty_of_size_eq_zero (by have : nm.size = nm.data.size := rfl; omega))
section
variable {w0 w : World} {O : Nat → Prop} {L : List Asr}
def InfOut (w0 : World) (O : Nat → Prop) (E : Int) (d : List Int) (L : List Asr) : Ending → World → Prop := fun e w' =>
  ∃ A c, e = .returned (.tuple #[.slice A d.length c, .int .i64 E]) ∧ Sep w0 w' O (own 5 1 A d.length c (by8 d) :: L)

set_option maxHeartbeats 8000000 in
set_option maxRecDepth 100000 in
theorem putinfo0_err {size flags p q r : Int} {nm : ByteArray} (HS : Sep w0 w O L) (s0 : 0 ≤ size) (s1 : size < 18446744073709551616) (f0 : 0 ≤ flags) (f1 : flags < 65536) (h : 0 < nm.size ∨ nm = eStr ∧ arr0 p q r = false) :
    Calls Try.prog 49 #[.agg #[.int .u16 0, .int .u64 size, .int .u16 flags, .string nm, .int .u32 p, .int .u32 q, .int .u32 r]] w (InfOut w0 O 1 [] L) := by
  obtain ⟨Q, hQ⟩ : ∃ Q : Ending → World → Prop, Q = InfOut w0 O 1 [] L := ⟨_, rfl⟩
  have HQ := hid hQ
  rw [← hQ]
  clear hQ
  obtain ⟨B, hB⟩ : ∃ B, arr0 p q r = B := ⟨_, rfl⟩
  have hq : ∀ w, (Op.equalIn 9999 100 (.agg #[.int .u32 p, .int .u32 q, .int .u32 r]) (.agg #[.int .u32 0, .int .u32 0, .int .u32 0])).run Try.prog w = .ok B w := fun w => by rw [eqArr3, ← hB]; rfl
  have y1 : IntKind.u64.wrap flags = flags := by rw [IntKind.wrap_u64]; omega
  have HSa := HS.alloc #[.int .u16 0, .int .u64 size, .int .u16 flags, .string nm, .int .u32 p, .int .u32 q, .int .u32 r] 104
  have H64 := hid s1
  clear s1
  have key : ∃ E : Bool, nm.toList.isEmpty = E ∧ (E = false ∨ B = false) := by
    rcases h with h | ⟨rfl, h⟩
    · exact ⟨false, info_full h, .inl rfl⟩
    · exact ⟨_, rfl, .inr (hB.symm.trans h)⟩
  obtain ⟨E, he, hE⟩ := key
  clear h hB
  rcases hE with rfl | rfl
  all_goals
    go_enter Try.func49, Try.ntmps49
    go_wp2_with fail
    refine (put_ok (l := []) (x := 0) (s := 2) HSa Rb.nil (by decide) (by decide) (by decide) (by decide) (by decide)).mono ?_
    rintro e w1 ⟨A1, c1, rfl, HS1⟩
    have HS2 := HS1.alloc #[.int .u16 0, .int .u64 0, .int .u16 0, .string nm, .int .u32 p, .int .u32 q, .int .u32 r] 104
    have q0 := HS1.up1.blk_at 0 rfl
    have q1 := HS1.up1.blk_at 1 rfl
    have q2 := HS1.up1.blk_at 2 rfl
    have q3 := HS1.up1.blk_at 3 rfl
    have q4 := HS1.up1.blk_at 4 rfl
    have q5 := HS1.up1.blk_at 5 rfl
    have q6 := HS1.up1.blk_at 6 rfl
    have HS2' := HS1.alloc #[.int .u16 0, .int .u64 size, .int .u16 flags, .string nm, .int .u32 p, .int .u32 q, .int .u32 r] 104
    have z0 := HS2.up2.blk_at 0 rfl
    have z0' := HS2'.up2.blk_at 0 rfl
    go_upto_region 8 with (fail)
    have Z0 : Aside ((w1.alloc (.cells #[.int .u16 0, .int .u64 0, .int .u16 0, .string nm, .int .u32 p, .int .u32 q, .int .u32 r] 104)).drew.cell? ⟨w.heap.size, 1, none⟩ = some (.int .u64 size) ∧ (w1.alloc (.cells #[.int .u16 0, .int .u64 0, .int .u16 0, .string nm, .int .u32 p, .int .u32 q, .int .u32 r] 104)).drew.cell? ⟨w.heap.size, 2, none⟩ = some (.int .u16 flags)) := ⟨HS2.drew.up2.blk_at 1 rfl, HS2.drew.up2.blk_at 2 rfl⟩
    go_region_held_law (fun w' => w'.cell? ⟨w.heap.size, 1, none⟩ = some (.int .u64 size) ∧ w'.cell? ⟨w.heap.size, 2, none⟩ = some (.int .u16 flags)) (first | with_reducible exact Z2.out | with_reducible exact Z1.out | with_reducible exact Z0.out)
      (first
        | (go_at_call 75; refine (put_ok (x := flags) (s := 2) HS3 Rb.i0 (by decide) (by decide) (by decide) f0 (by omega)).mono ?_; rintro e w4 ⟨A4, c4, rfl, HS4⟩; have Z2 : Aside (w4.cell? ⟨w.heap.size, 1, none⟩ = some (.int .u64 size) ∧ w4.cell? ⟨w.heap.size, 2, none⟩ = some (.int .u16 flags)) := ⟨HS4.up4.blk_at 1 rfl, HS4.up4.blk_at 2 rfl⟩)
        | (go_at_call 75; refine (put_ok (x := size) (s := 8) HS2.drew Rb.i1 (by decide) (by decide) (by decide) s0 H64.out).mono ?_; rintro e w3 ⟨A3, c3, rfl, HS3⟩; have Z1 : Aside (w3.cell? ⟨w.heap.size, 1, none⟩ = some (.int .u64 size) ∧ w3.cell? ⟨w.heap.size, 2, none⟩ = some (.int .u16 flags)) := ⟨HS3.up3.blk_at 1 rfl, HS3.up3.blk_at 2 rfl⟩))
    all_goals
      clear q0 q1 q2 q3 q4 q5 q6 z0 z0'
      have p0 := HS4.up2.blk_at 0 rfl
      have p1 := HS4.up2.blk_at 1 rfl
      have p2 := HS4.up2.blk_at 2 rfl
      have p3 := HS4.up2.blk_at 3 rfl
      have p4 := HS4.up2.blk_at 4 rfl
      have p5 := HS4.up2.blk_at 5 rfl
      have p6 := HS4.up2.blk_at 6 rfl
      go_wp2
      rw [HQ.out]
      exact ⟨none, 0, rfl, (HS4.sel 5 []).nil _ _⟩

set_option maxHeartbeats 8000000 in
set_option maxRecDepth 100000 in
theorem putinfo1_err {size flags p q r : Int} {nm : ByteArray} (HS : Sep w0 w O L) (hb : nm.size ≤ 140737488351232) (h : size ≠ 0 ∨ size = 0 ∧ flags ≠ 0 ∨ size = 0 ∧ flags = 0 ∧ arr0 p q r = false) :
    Calls Try.prog 49 #[.agg #[.int .u16 1, .int .u64 size, .int .u16 flags, .string nm, .int .u32 p, .int .u32 q, .int .u32 r]] w (InfOut w0 O 1 [] L) := by
  obtain ⟨Q, hQ⟩ : ∃ Q : Ending → World → Prop, Q = InfOut w0 O 1 [] L := ⟨_, rfl⟩
  have HQ := hid hQ
  rw [← hQ]
  clear hQ
  obtain ⟨B, hB⟩ : ∃ B, arr0 p q r = B := ⟨_, rfl⟩
  have hq : ∀ w, (Op.equalIn 9999 100 (.agg #[.int .u32 p, .int .u32 q, .int .u32 r]) (.agg #[.int .u32 0, .int .u32 0, .int .u32 0])).run Try.prog w = .ok B w := fun w => by rw [eqArr3, ← hB]; rfl
  obtain ⟨i0, hi0, hz0, hz1, hz2⟩ := info_parts info_u8
  have h1 : 2 + nm.size ≤ maxLen := by simp only [maxLen]; omega
  have h2 : 2 + nm.size ≤ 140737488355328 := by omega
  have key : ∃ X Y : Bool, (size == 0) = X ∧ (flags == 0) = Y ∧ (X = false ∨ Y = false ∨ B = false) := by
    refine ⟨_, _, rfl, rfl, ?_⟩
    rcases h with h | ⟨_, h⟩ | ⟨_, _, h⟩
    · exact .inl (by simpa using h)
    · exact .inr (.inl (by simpa using h))
    · exact .inr (.inr (hB.symm.trans h))
  obtain ⟨X, Y, hX, hY, hXY⟩ := key
  clear h hB
  have HSa := HS.alloc #[.int .u16 1, .int .u64 size, .int .u16 flags, .string nm, .int .u32 p, .int .u32 q, .int .u32 r] 104
  rcases hXY with rfl | rfl | rfl
  all_goals
    go_enter Try.func49, Try.ntmps49
    go_wp2_with fail
    refine (put_ok (l := []) (x := 1) (s := 2) HSa Rb.nil (by decide) (by decide) (by decide) (by decide) (by decide)).mono ?_
    rintro e w1 ⟨A1, c1, rfl, HS1⟩
    have HS2 := HS1.alloc #[.int .u16 0, .int .u64 size, .int .u16 flags, .string eStr, .int .u32 p, .int .u32 q, .int .u32 r] 104
    have HS2' := HS1.alloc #[.int .u16 0, .int .u64 size, .int .u16 flags, .string nm, .int .u32 p, .int .u32 q, .int .u32 r] 104
    have q0 := HS1.up1.blk_at 0 rfl
    have q1 := HS1.up1.blk_at 1 rfl
    have q2 := HS1.up1.blk_at 2 rfl
    have q3 := HS1.up1.blk_at 3 rfl
    have q4 := HS1.up1.blk_at 4 rfl
    have q5 := HS1.up1.blk_at 5 rfl
    have q6 := HS1.up1.blk_at 6 rfl
    have z0 := HS2.up2.blk_at 0 rfl
    have z0' := HS2'.up2.blk_at 0 rfl
    have z1 := HS2.up2.blk_at 1 rfl
    have z1' := HS2'.up2.blk_at 1 rfl
    have z2 := HS2.up2.blk_at 2 rfl
    have z2' := HS2'.up2.blk_at 2 rfl
    have z3 := HS2.up2.blk_at 3 rfl
    have z3' := HS2'.up2.blk_at 3 rfl
    have z4 := HS2.up2.blk_at 4 rfl
    have z4' := HS2'.up2.blk_at 4 rfl
    have z5 := HS2.up2.blk_at 5 rfl
    have z5' := HS2'.up2.blk_at 5 rfl
    have z6 := HS2.up2.blk_at 6 rfl
    have z6' := HS2'.up2.blk_at 6 rfl
    have HA : Sep w0 _ O (own 5 1 A1 2 c1 (by8 (be 2 1)) :: blk w1.heap.size 104 #[.int .u16 0, .int .u64 size, .int .u16 flags, .string eStr, .int .u32 p, .int .u32 q, .int .u32 r] :: blk w.heap.size 104 #[.int .u16 1, .int .u64 size, .int .u16 flags, .string nm, .int .u32 p, .int .u32 q, .int .u32 r] :: L) := HS2.sel 3 [1, 0, 2]
    go_wp2_with (at_builtin; go_loud (refine wpList_append_sep_str rfl (.tmp 31) (.tmp 33) 23 9 rfl 5 i0 Try.underlying23 Try.underlying9 hi0 hz0 hz1 hz2 rfl HA rfl h1 h2 rfl rfl ?_); intro A5 c5 w5 HS5 hsz5; have p0 := HS5.up1.blk_at 0 rfl; have p1 := HS5.up1.blk_at 1 rfl; have p2 := HS5.up1.blk_at 2 rfl; have p3 := HS5.up1.blk_at 3 rfl; have p4 := HS5.up1.blk_at 4 rfl; have p5 := HS5.up1.blk_at 5 rfl; have p6 := HS5.up1.blk_at 6 rfl)
    rw [HQ.out]
    exact ⟨none, 0, rfl, (HS5.sel 3 []).nil _ _⟩

set_option maxHeartbeats 8000000 in
set_option maxRecDepth 100000 in
theorem putinfo3_err {size flags p q r : Int} {nm : ByteArray} (HS : Sep w0 w O L) (a0 : 0 ≤ p) (a1 : p < 4294967296) (b0 : 0 ≤ q) (b1 : q < 4294967296) (d0 : 0 ≤ r) (d1 : r < 4294967296) (h : size ≠ 0 ∨ size = 0 ∧ flags ≠ 0 ∨ size = 0 ∧ flags = 0 ∧ 0 < nm.size) :
    Calls Try.prog 49 #[.agg #[.int .u16 3, .int .u64 size, .int .u16 flags, .string nm, .int .u32 p, .int .u32 q, .int .u32 r]] w (InfOut w0 O 1 [] L) := by
  obtain ⟨Q, hQ⟩ : ∃ Q : Ending → World → Prop, Q = InfOut w0 O 1 [] L := ⟨_, rfl⟩
  have HQ := hid hQ
  rw [← hQ]
  clear hQ
  have hq : ∀ w, (Op.equalIn 9999 100 (.agg #[.int .u32 0, .int .u32 0, .int .u32 0]) (.agg #[.int .u32 0, .int .u32 0, .int .u32 0])).run Try.prog w = .ok true w := fun w => eqArr3 0 0 0 0 0 0 w
  have key : ∃ X Y E : Bool, (size == 0) = X ∧ (flags == 0) = Y ∧ nm.toList.isEmpty = E ∧ (X = false ∨ Y = false ∨ E = false) := by
    refine ⟨_, _, _, rfl, rfl, rfl, ?_⟩
    rcases h with h | ⟨_, h⟩ | ⟨_, _, h⟩
    · exact .inl (by simpa using h)
    · exact .inr (.inl (by simpa using h))
    · exact .inr (.inr (info_full h))
  obtain ⟨X, Y, E, hX, hY, he, hXY⟩ := key
  clear h
  have y1 : IntKind.u64.wrap p = p := by rw [IntKind.wrap_u64]; omega
  have y2 : IntKind.u64.wrap q = q := by rw [IntKind.wrap_u64]; omega
  have y3 : IntKind.u64.wrap r = r := by rw [IntKind.wrap_u64]; omega
  have HSa := HS.alloc #[.int .u16 3, .int .u64 size, .int .u16 flags, .string nm, .int .u32 p, .int .u32 q, .int .u32 r] 104
  rcases hXY with rfl | rfl | rfl
  all_goals
    go_enter Try.func49, Try.ntmps49
    go_wp2_with fail
    refine (put_ok (l := []) (x := 3) (s := 2) HSa Rb.nil (by decide) (by decide) (by decide) (by decide) (by decide)).mono ?_
    rintro e w1 ⟨A1, c1, rfl, HS1⟩
    have HS2 := HS1.alloc #[.int .u16 0, .int .u64 size, .int .u16 flags, .string nm, .int .u32 0, .int .u32 0, .int .u32 0] 104
    have HS2' := HS1.alloc #[.int .u16 0, .int .u64 size, .int .u16 flags, .string nm, .int .u32 p, .int .u32 q, .int .u32 r] 104
    have q0 := HS1.up1.blk_at 0 rfl
    have q1 := HS1.up1.blk_at 1 rfl
    have q2 := HS1.up1.blk_at 2 rfl
    have q3 := HS1.up1.blk_at 3 rfl
    have q4 := HS1.up1.blk_at 4 rfl
    have q5 := HS1.up1.blk_at 5 rfl
    have q6 := HS1.up1.blk_at 6 rfl
    have z0 := HS2.up2.blk_at 0 rfl
    have z0' := HS2'.up2.blk_at 0 rfl
    have z1 := HS2.up2.blk_at 1 rfl
    have z1' := HS2'.up2.blk_at 1 rfl
    have z2 := HS2.up2.blk_at 2 rfl
    have z2' := HS2'.up2.blk_at 2 rfl
    have z3 := HS2.up2.blk_at 3 rfl
    have z3' := HS2'.up2.blk_at 3 rfl
    have z4 := HS2.up2.blk_at 4 rfl
    have z4' := HS2'.up2.blk_at 4 rfl
    have z5 := HS2.up2.blk_at 5 rfl
    have z5' := HS2'.up2.blk_at 5 rfl
    have z6 := HS2.up2.blk_at 6 rfl
    have z6' := HS2'.up2.blk_at 6 rfl
    have HA : Sep w0 _ O (own 5 1 A1 2 c1 (by8 (be 2 3)) :: blk w1.heap.size 104 #[.int .u16 0, .int .u64 size, .int .u16 flags, .string nm, .int .u32 0, .int .u32 0, .int .u32 0] :: blk w.heap.size 104 #[.int .u16 3, .int .u64 size, .int .u16 flags, .string nm, .int .u32 p, .int .u32 q, .int .u32 r] :: L) := HS2.sel 3 [1, 0, 2]
    go_wp2_with fail
    go_loopw [4, 41] (fun v i wr => ∃ (j cj : Nat) (B : Option Addr) (m : Nat) (bs : List Int), j ≤ 3 ∧ i = .int .i64 j ∧ v = .slice B m cj ∧ m = 2 + 4 * j ∧
      Sep w0 wr O (own 5 1 B m cj (by8 bs) :: blk w1.heap.size 104 #[.int .u16 0, .int .u64 size, .int .u16 flags, .string nm, .int .u32 0, .int .u32 0, .int .u32 0] :: blk w.heap.size 104 #[.int .u16 3, .int .u64 size, .int .u16 flags, .string nm, .int .u32 p, .int .u32 q, .int .u32 r] :: L)) (fun _ i _ => 3 - (intOf i).toNat)
    case atStart => exact ⟨0, c1, A1, 2, be 2 3, by omega, rfl, rfl, rfl, HA⟩
    case round =>
      obtain ⟨j, cj, B, m, bs, hj, rfl, rfl, hm, HS6⟩ := hrel
      clear q0 q1 q2 q3 q4 q5 q6 z0 z0' z1 z1' z2 z2' z3 z3' z4 z4' z5 z5' z6 z6'
      have key : j = 0 ∨ j = 1 ∨ j = 2 ∨ j = 3 := by omega
      rcases key with rfl | rfl | rfl | rfl
      · have hix := fun w => run_index_arr (P := Try.prog) 100 22 3 _ #[.int .u32 p, .int .u32 q, .int .u32 r] .i64 0 (.int .u32 p) Try.underlying100 Try.underlying22 rfl info_u32s (by decide) rfl w
        obtain rfl : m = 2 := by omega
        clear hm
        go_wp2_with fail
        refine (put_ok (x := p) (s := 4) HS6 Rb.i0 (by omega) (by decide) (by decide) a0 (by omega)).mono ?_
        rintro e w7 ⟨A7, c7, rfl, HS7⟩
        have HS8 := HS7.sel 4 [0, 2, 3]
        go_wp2
        go_roundw
        case rel => exact ⟨1, c7, A7, 2 + 4, bs ++ be 4 p, by omega, by go_num, rfl, by omega, HS8⟩
        case measure => simp [intOf]
      · have hix := fun w => run_index_arr (P := Try.prog) 100 22 3 _ #[.int .u32 p, .int .u32 q, .int .u32 r] .i64 1 (.int .u32 q) Try.underlying100 Try.underlying22 rfl info_u32s (by decide) rfl w
        obtain rfl : m = 6 := by omega
        clear hm
        go_wp2_with fail
        refine (put_ok (x := q) (s := 4) HS6 Rb.i0 (by omega) (by decide) (by decide) b0 (by omega)).mono ?_
        rintro e w7 ⟨A7, c7, rfl, HS7⟩
        have HS8 := HS7.sel 4 [0, 2, 3]
        go_wp2
        go_roundw
        case rel => exact ⟨2, c7, A7, 6 + 4, bs ++ be 4 q, by omega, by go_num, rfl, by omega, HS8⟩
        case measure => simp [intOf]
      · have hix := fun w => run_index_arr (P := Try.prog) 100 22 3 _ #[.int .u32 p, .int .u32 q, .int .u32 r] .i64 2 (.int .u32 r) Try.underlying100 Try.underlying22 rfl info_u32s (by decide) rfl w
        obtain rfl : m = 10 := by omega
        clear hm
        go_wp2_with fail
        refine (put_ok (x := r) (s := 4) HS6 Rb.i0 (by omega) (by decide) (by decide) d0 (by omega)).mono ?_
        rintro e w7 ⟨A7, c7, rfl, HS7⟩
        have HS8 := HS7.sel 4 [0, 2, 3]
        go_wp2
        go_roundw
        case rel => exact ⟨3, c7, A7, 10 + 4, bs ++ be 4 r, by omega, by go_num, rfl, by omega, HS8⟩
        case measure => simp [intOf]
      · obtain rfl : m = 14 := by omega
        clear hm
        have p0 := HS6.up1.blk_at 0 rfl
        have p1 := HS6.up1.blk_at 1 rfl
        have p2 := HS6.up1.blk_at 2 rfl
        have p3 := HS6.up1.blk_at 3 rfl
        have p4 := HS6.up1.blk_at 4 rfl
        have p5 := HS6.up1.blk_at 5 rfl
        have p6 := HS6.up1.blk_at 6 rfl
        go_wp2
        rw [HQ.out]
        exact ⟨none, 0, rfl, (HS6.sel 3 []).nil _ _⟩

set_option maxHeartbeats 8000000 in
set_option maxRecDepth 100000 in
theorem putinfo_none {kd : Int} {size flags p q r : Int} {nm : ByteArray} (HS : Sep w0 w O L) (g0 : 0 ≤ kd) (g1 : kd < 65536) (h0 : kd ≠ 0) (h1 : kd ≠ 1) (h3 : kd ≠ 3) :
    Calls Try.prog 49 #[.agg #[.int .u16 kd, .int .u64 size, .int .u16 flags, .string nm, .int .u32 p, .int .u32 q, .int .u32 r]] w (InfOut w0 O 6 [] L) := by
  obtain ⟨Q, hQ⟩ : ∃ Q : Ending → World → Prop, Q = InfOut w0 O 6 [] L := ⟨_, rfl⟩
  have HQ := hid hQ
  rw [← hQ]
  clear hQ
  have b0 : (kd == 0) = false := by simpa using h0
  have b1 : (kd == 1) = false := by simpa using h1
  have b3 : (kd == 3) = false := by simpa using h3
  have y1 : IntKind.u64.wrap kd = kd := by rw [IntKind.wrap_u64]; omega
  have HSa := HS.alloc #[.int .u16 kd, .int .u64 size, .int .u16 flags, .string nm, .int .u32 p, .int .u32 q, .int .u32 r] 104
  have H64 : Aside (kd < 18446744073709551616) := ⟨by omega⟩
  clear h0 h1 h3
  go_enter Try.func49, Try.ntmps49
  go_wp2_with fail
  refine (put_ok (l := []) (x := kd) (s := 2) HSa Rb.nil (by decide) (by decide) (by decide) g0 H64.out).mono ?_
  rintro e w1 ⟨A1, c1, rfl, HS1⟩
  have HS2 := HS1.alloc #[.int .u16 0, .int .u64 size, .int .u16 flags, .string nm, .int .u32 p, .int .u32 q, .int .u32 r] 104
  have q0 := HS1.up1.blk_at 0 rfl
  have q1 := HS1.up1.blk_at 1 rfl
  have q2 := HS1.up1.blk_at 2 rfl
  have q3 := HS1.up1.blk_at 3 rfl
  have q4 := HS1.up1.blk_at 4 rfl
  have q5 := HS1.up1.blk_at 5 rfl
  have q6 := HS1.up1.blk_at 6 rfl
  have z0 := HS2.up2.blk_at 0 rfl
  go_wp2
  rw [HQ.out]
  exact ⟨none, 0, rfl, (HS2.sel 3 []).nil _ _⟩

theorem putinfo_calls {i : If} (HS : Sep w0 w O L) (ok : i.Ok) :
    Calls Try.prog 49 #[.agg i.cells] w (InfOut w0 O (putE i) (putB i) L) := by
  obtain ⟨kd, size, fl, nm, p, q, r⟩ := i
  obtain ⟨⟨k0, k1⟩, ⟨s0, s1⟩, ⟨f0, f1⟩, hn, ⟨p0, p1⟩, ⟨q0, q1⟩, ⟨r0, r1⟩⟩ := ok
  dsimp only [If.cells] at *
  have er : ∀ {E : Int}, putE ⟨kd, size, fl, nm, p, q, r⟩ = E → E ≠ 0 → putB ⟨kd, size, fl, nm, p, q, r⟩ = [] := fun h h' => by unfold putB; rw [h, if_neg h']
  by_cases h0 : kd = 0
  · subst h0
    by_cases h : 0 < nm.size ∨ arr0 p q r = false
    · have e : putE ⟨0, size, fl, nm, p, q, r⟩ = 1 := by unfold putE; rw [if_pos rfl, if_pos h]
      rw [er e (by decide), e]
      refine putinfo0_err HS s0 s1 f0 f1 ?_
      by_cases h2 : 0 < nm.size
      · exact .inl h2
      · exact .inr ⟨info_void h2, h.resolve_left h2⟩
    · have e : putE ⟨0, size, fl, nm, p, q, r⟩ = 0 := by unfold putE; rw [if_pos rfl, if_neg h]
      have eB : putB ⟨0, size, fl, nm, p, q, r⟩ = be 2 0 ++ be 8 size ++ be 2 fl := by unfold putB; rw [e, if_pos rfl, if_pos rfl, List.append_assoc]
      rw [e, eB]
      obtain ⟨rfl, rfl, rfl⟩ := arr0_eq (p := p) (q := q) (r := r) (by simpa using fun hh => h (.inr hh))
      obtain rfl := info_void (nm := nm) fun hh => h (.inl hh)
      exact putinfo0_ok HS s0 s1 f0 f1
  by_cases h1 : kd = 1
  · subst h1
    by_cases h : size ≠ 0 ∨ fl ≠ 0 ∨ arr0 p q r = false
    · have e : putE ⟨1, size, fl, nm, p, q, r⟩ = 1 := by unfold putE; dsimp only; rw [if_neg (by decide), if_pos rfl, if_pos h]
      rw [er e (by decide), e]
      refine putinfo1_err HS hn ?_
      by_cases h2 : size = 0
      · by_cases h3 : fl = 0
        · exact .inr (.inr ⟨h2, h3, by rcases h with h | h | h; exact absurd h2 h; exact absurd h3 h; exact h⟩)
        · exact .inr (.inl ⟨h2, h3⟩)
      · exact .inl h2
    · obtain ⟨rfl, rfl, rfl⟩ := arr0_eq (p := p) (q := q) (r := r) (by simpa using fun hh => h (.inr (.inr hh)))
      obtain rfl : size = 0 := by omega
      obtain rfl : fl = 0 := by omega
      by_cases h16 : 16 < nm.size
      · have e : putE ⟨1, 0, 0, nm, 0, 0, 0⟩ = 3 := by unfold putE; dsimp only; rw [if_neg (by decide), if_pos rfl, if_neg h, if_pos h16]
        rw [er e (by decide), e]
        refine (putinfo1_long HS h16 hn).mono ?_
        rintro e w' ⟨rfl, H⟩
        exact ⟨none, 0, rfl, H.nil _ _⟩
      · have e : putE ⟨1, 0, 0, nm, 0, 0, 0⟩ = 0 := by unfold putE; dsimp only; rw [if_neg (by decide), if_pos rfl, if_neg h, if_neg h16]
        have eB : putB ⟨1, 0, 0, nm, 0, 0, 0⟩ = be 2 1 ++ strInts nm := by unfold putB; rw [e, if_pos rfl]; dsimp only; rw [if_neg (by decide), if_pos rfl]
        rw [e, eB]
        refine (putinfo1_ok HS (nm := nm) (by omega)).mono ?_
        rintro e w' ⟨A, c, rfl, H⟩
        refine ⟨A, c, by rw [List.length_append, be_len, strInts_len], by rw [List.length_append, be_len, strInts_len]; exact H⟩
  by_cases h3 : kd = 3
  · subst h3
    by_cases h : size ≠ 0 ∨ fl ≠ 0 ∨ 0 < nm.size
    · have e : putE ⟨3, size, fl, nm, p, q, r⟩ = 1 := by unfold putE; dsimp only; rw [if_neg (by decide), if_neg (by decide), if_pos rfl, if_pos h]
      rw [er e (by decide), e]
      refine putinfo3_err HS p0 p1 q0 q1 r0 r1 ?_
      omega
    · obtain rfl : size = 0 := by omega
      obtain rfl : fl = 0 := by omega
      obtain rfl := info_void (nm := nm) (by omega)
      have e : putE ⟨3, 0, 0, eStr, p, q, r⟩ = 0 := by unfold putE; dsimp only; rw [if_neg (by decide), if_neg (by decide), if_pos rfl, if_neg h]
      have eB : putB ⟨3, 0, 0, eStr, p, q, r⟩ = be 2 3 ++ be 4 p ++ be 4 q ++ be 4 r := by unfold putB; rw [e, if_pos rfl]; dsimp only; rw [if_neg (by decide), if_neg (by decide)]; simp
      rw [e, eB]
      exact putinfo3_ok HS p0 p1 q0 q1 r0 r1
  · have e : putE ⟨kd, size, fl, nm, p, q, r⟩ = 6 := by unfold putE; rw [if_neg h0, if_neg h1, if_neg h3]
    rw [er e (by decide), e]
    exact putinfo_none HS k0 k1 h0 h1 h3
end
end Go.Proofs.Ytgepekailoopeaa
