/-
  Contract of cisternref22.PutInfo, whole.
-/
import Derived.Test.YtgepekailoopeaaInfP
namespace Go.Proofs.Ytgepekailoopeaa
open Go.RowKit
set_option linter.unusedVariables false
set_option linter.unusedSimpArgs false
section
variable {w0 w : World} {O : Nat → Prop} {L : List Asr}
theorem ne_b {x : Int} (h : x ≠ 0) : (x == 0) = false ∧ (x != 0) = true := by simpa using h
theorem full_b {nm : ByteArray} (h : 0 < nm.size) : nm.toList.isEmpty = false := info_full h

set_option maxHeartbeats 8000000 in
set_option maxRecDepth 100000 in
theorem rputinfo0_err {size flags p q r : Int} {nm : ByteArray} (HS : Sep w0 w O L) (s0 : 0 ≤ size) (s1 : size < 18446744073709551616) (f0 : 0 ≤ flags) (f1 : flags < 65536) (p0 : 0 ≤ p) (p1 : p < 4294967296) (q0 : 0 ≤ q) (q1 : q < 4294967296) (r0 : 0 ≤ r) (r1 : r < 4294967296) (h : 0 < nm.size ∨ arr0 p q r = false) :
    Calls Try.prog 50 #[.agg #[.int .u16 0, .int .u64 size, .int .u16 flags, .string nm, .int .u32 p, .int .u32 q, .int .u32 r]] w (InfOut w0 O 1 ([]) L) := by
  obtain ⟨Q, hQ⟩ : ∃ Q : Ending → World → Prop, Q = InfOut w0 O 1 ([]) L := ⟨_, rfl⟩
  have HQ := hid hQ
  rw [← hQ]
  clear hQ
  have S1 := hid s1
  clear s1
  have HSa := HS.alloc #[.int .u16 0, .int .u64 size, .int .u16 flags, .string nm, .int .u32 p, .int .u32 q, .int .u32 r] 102
  obtain ⟨sa, sb, hsa, hsb, hab⟩ : ∃ a b : Bool, (size == 0) = a ∧ (size != 0) = b ∧ (a = true ∧ b = false ∨ a = false ∧ b = true) := ⟨_, _, rfl, rfl, by cases h : (size == 0) <;> simp [bne, h]⟩
  have hz : p ≠ 0 ∨ p = 0 ∧ q ≠ 0 ∨ p = 0 ∧ q = 0 ∧ r ≠ 0 ∨ p = 0 ∧ q = 0 ∧ r = 0 ∧ 0 < nm.size := by
    by_cases h1 : p = 0 <;> by_cases h2 : q = 0 <;> by_cases h3 : r = 0 <;> simp_all [arr0]
  clear h
  rcases hz with h | ⟨rfl, h⟩ | ⟨rfl, rfl, h⟩ | ⟨rfl, rfl, rfl, h⟩
  · obtain ⟨b1, b2⟩ := ne_b h
    clear h
    rcases hab with ⟨rfl, rfl⟩ | ⟨rfl, rfl⟩
    all_goals
      go_enter Try.func50, Try.ntmps50
      go_wp2_with fail
      refine (rbytes_calls (x := 0) (s := 2) HSa (by decide) (by decide) (by decide) (by decide)).mono ?_
      rintro e w1 ⟨A1, c1, rfl, HS1⟩
      have a0 := HS1.up1.blk_at 0 rfl
      have a1 := HS1.up1.blk_at 1 rfl
      have a2 := HS1.up1.blk_at 2 rfl
      have a3 := HS1.up1.blk_at 3 rfl
      have a4 := HS1.up1.blk_at 4 rfl
      have a5 := HS1.up1.blk_at 5 rfl
      have a6 := HS1.up1.blk_at 6 rfl
      go_wp2
      rw [HQ.out]
      exact ⟨none, 0, rfl, HS1.drop.drop.nil _ _⟩
  · obtain ⟨b1, b2⟩ := ne_b h
    clear h
    rcases hab with ⟨rfl, rfl⟩ | ⟨rfl, rfl⟩
    all_goals
      go_enter Try.func50, Try.ntmps50
      go_wp2_with fail
      refine (rbytes_calls (x := 0) (s := 2) HSa (by decide) (by decide) (by decide) (by decide)).mono ?_
      rintro e w1 ⟨A1, c1, rfl, HS1⟩
      have a0 := HS1.up1.blk_at 0 rfl
      have a1 := HS1.up1.blk_at 1 rfl
      have a2 := HS1.up1.blk_at 2 rfl
      have a3 := HS1.up1.blk_at 3 rfl
      have a4 := HS1.up1.blk_at 4 rfl
      have a5 := HS1.up1.blk_at 5 rfl
      have a6 := HS1.up1.blk_at 6 rfl
      go_wp2
      rw [HQ.out]
      exact ⟨none, 0, rfl, HS1.drop.drop.nil _ _⟩
  · obtain ⟨b1, b2⟩ := ne_b h
    clear h
    rcases hab with ⟨rfl, rfl⟩ | ⟨rfl, rfl⟩
    all_goals
      go_enter Try.func50, Try.ntmps50
      go_wp2_with fail
      refine (rbytes_calls (x := 0) (s := 2) HSa (by decide) (by decide) (by decide) (by decide)).mono ?_
      rintro e w1 ⟨A1, c1, rfl, HS1⟩
      have a0 := HS1.up1.blk_at 0 rfl
      have a1 := HS1.up1.blk_at 1 rfl
      have a2 := HS1.up1.blk_at 2 rfl
      have a3 := HS1.up1.blk_at 3 rfl
      have a4 := HS1.up1.blk_at 4 rfl
      have a5 := HS1.up1.blk_at 5 rfl
      have a6 := HS1.up1.blk_at 6 rfl
      go_wp2
      rw [HQ.out]
      exact ⟨none, 0, rfl, HS1.drop.drop.nil _ _⟩
  · have b1 := info_full h
    clear h
    rcases hab with ⟨rfl, rfl⟩ | ⟨rfl, rfl⟩
    all_goals
      go_enter Try.func50, Try.ntmps50
      go_wp2_with fail
      refine (rbytes_calls (x := 0) (s := 2) HSa (by decide) (by decide) (by decide) (by decide)).mono ?_
      rintro e w1 ⟨A1, c1, rfl, HS1⟩
      have a0 := HS1.up1.blk_at 0 rfl
      have a1 := HS1.up1.blk_at 1 rfl
      have a2 := HS1.up1.blk_at 2 rfl
      have a3 := HS1.up1.blk_at 3 rfl
      have a4 := HS1.up1.blk_at 4 rfl
      have a5 := HS1.up1.blk_at 5 rfl
      have a6 := HS1.up1.blk_at 6 rfl
      go_wp2
      rw [HQ.out]
      exact ⟨none, 0, rfl, HS1.drop.drop.nil _ _⟩

set_option maxHeartbeats 8000000 in
set_option maxRecDepth 100000 in
theorem rputinfo0_ok {size flags p q r : Int} {nm : ByteArray} (HS : Sep w0 w O L) (s0 : 0 ≤ size) (s1 : size < 18446744073709551616) (f0 : 0 ≤ flags) (f1 : flags < 65536) (p0 : 0 ≤ p) (p1 : p < 4294967296) (q0 : 0 ≤ q) (q1 : q < 4294967296) (r0 : 0 ≤ r) (r1 : r < 4294967296) (hn : nm = eStr) (h : p = 0 ∧ q = 0 ∧ r = 0) :
    Calls Try.prog 50 #[.agg #[.int .u16 0, .int .u64 size, .int .u16 flags, .string nm, .int .u32 p, .int .u32 q, .int .u32 r]] w (InfOut w0 O 0 (be 2 0 ++ be 8 size ++ be 2 flags) L) := by
  obtain ⟨Q, hQ⟩ : ∃ Q : Ending → World → Prop, Q = InfOut w0 O 0 (be 2 0 ++ be 8 size ++ be 2 flags) L := ⟨_, rfl⟩
  have HQ := hid hQ
  rw [← hQ]
  clear hQ
  have S1 := hid s1
  clear s1
  have HSa := HS.alloc #[.int .u16 0, .int .u64 size, .int .u16 flags, .string nm, .int .u32 p, .int .u32 q, .int .u32 r] 102
  obtain ⟨rfl, rfl, rfl⟩ := h
  subst hn
  obtain ⟨sa, sb, hsa, hsb, hab⟩ : ∃ a b : Bool, (size == 0) = a ∧ (size != 0) = b ∧ (a = true ∧ b = false ∨ a = false ∧ b = true) := ⟨_, _, rfl, rfl, by cases h : (size == 0) <;> simp [bne, h]⟩
  obtain ⟨i0, hi0, hz0, hz1, hz2⟩ := info_parts info_u8
  have y1 : IntKind.u64.wrap flags = flags := by rw [IntKind.wrap_u64]; omega
  have F1 : Aside (flags < 18446744073709551616) := ⟨by omega⟩
  rcases hab with ⟨rfl, rfl⟩ | ⟨rfl, rfl⟩
  all_goals
    go_enter Try.func50, Try.ntmps50
    go_wp2_with fail
    refine (rbytes_calls (x := 0) (s := 2) HSa (by decide) (by decide) (by decide) (by decide)).mono ?_
    rintro e w1 ⟨A1, c1, rfl, HS1⟩
    have a0 := HS1.up1.blk_at 0 rfl
    have a1 := HS1.up1.blk_at 1 rfl
    have a2 := HS1.up1.blk_at 2 rfl
    have a3 := HS1.up1.blk_at 3 rfl
    have a4 := HS1.up1.blk_at 4 rfl
    have a5 := HS1.up1.blk_at 5 rfl
    have a6 := HS1.up1.blk_at 6 rfl
    go_wp2_with fail
    refine (rbytes_calls (x := size) (s := 8) HS1 (by decide) (by decide) s0 S1.out).mono ?_
    rintro e w2 ⟨A2, c2, rfl, HS2⟩
    clear a0 a1 a2 a3 a4 a5 a6
    have HT := HS2.up1
    have hrd := HT.rd1
    go_wp2_with (at_builtin; (refine wpList_append_sep rfl (.tmp 46) (.tmp 49) 23 rfl 5 i0 _ 1 1 Try.underlying23 hi0 hz0 hz1 hz2 rfl (by decide) rfl HT rfl hrd (by8_one _) (by decide) (by decide) rfl (by8_append _ _) ?_; intro A3 c3 w3 HS3 hsz3; have a2 := HS3.up2.blk_at 2 rfl))
    refine (rbytes_calls (x := flags) (s := 2) HS3 (by decide) (by decide) f0 F1.out).mono ?_
    rintro e w4 ⟨A4, c4, rfl, HS4⟩
    clear a2 hrd
    have HT2 := HS4.up1
    have hrd := HT2.rd1
    go_wp2_with (at_builtin; (refine wpList_append_sep rfl (.tmp 51) (.tmp 55) 23 rfl 5 i0 _ 1 1 Try.underlying23 hi0 hz0 hz1 hz2 rfl (by decide) rfl HT2 rfl hrd (by8_one _) (by decide) (by decide) rfl (by8_append _ _) ?_; intro A5 c5 w5 HS5 hsz5))
    rw [HQ.out]
    exact ⟨A5, c5, rfl, HS5.sel 4 [0]⟩

set_option maxHeartbeats 8000000 in
set_option maxRecDepth 100000 in
theorem rputinfo1_err {size flags p q r : Int} {nm : ByteArray} (HS : Sep w0 w O L) (s0 : 0 ≤ size) (s1 : size < 18446744073709551616) (f0 : 0 ≤ flags) (f1 : flags < 65536) (p0 : 0 ≤ p) (p1 : p < 4294967296) (q0 : 0 ≤ q) (q1 : q < 4294967296) (r0 : 0 ≤ r) (r1 : r < 4294967296) (h : size ≠ 0 ∨ flags ≠ 0 ∨ arr0 p q r = false) :
    Calls Try.prog 50 #[.agg #[.int .u16 1, .int .u64 size, .int .u16 flags, .string nm, .int .u32 p, .int .u32 q, .int .u32 r]] w (InfOut w0 O 1 ([]) L) := by
  obtain ⟨Q, hQ⟩ : ∃ Q : Ending → World → Prop, Q = InfOut w0 O 1 ([]) L := ⟨_, rfl⟩
  have HQ := hid hQ
  rw [← hQ]
  clear hQ
  have S1 := hid s1
  clear s1
  have HSa := HS.alloc #[.int .u16 1, .int .u64 size, .int .u16 flags, .string nm, .int .u32 p, .int .u32 q, .int .u32 r] 102
  have hz : (p ≠ 0 ∨ p = 0 ∧ q ≠ 0 ∨ p = 0 ∧ q = 0 ∧ r ≠ 0) ∨ p = 0 ∧ q = 0 ∧ r = 0 ∧ (size ≠ 0 ∨ size = 0 ∧ flags ≠ 0) := by
    by_cases h1 : p = 0 <;> by_cases h2 : q = 0 <;> by_cases h3 : r = 0 <;> by_cases h4 : size = 0 <;> simp_all [arr0]
  clear h
  obtain ⟨sa, sb, hsa, hsb, hab⟩ : ∃ a b : Bool, (size == 0) = a ∧ (size != 0) = b ∧ (a = true ∧ b = false ∨ a = false ∧ b = true) := ⟨_, _, rfl, rfl, by cases h : (size == 0) <;> simp [bne, h]⟩
  rcases hz with (h | ⟨rfl, h⟩ | ⟨rfl, rfl, h⟩) | ⟨rfl, rfl, rfl, h | ⟨rfl, h⟩⟩
  · obtain ⟨b1, b2⟩ := ne_b h
    clear h
    rcases hab with ⟨rfl, rfl⟩ | ⟨rfl, rfl⟩
    all_goals
      go_enter Try.func50, Try.ntmps50
      go_wp2_with fail
      refine (rbytes_calls (x := 1) (s := 2) HSa (by decide) (by decide) (by decide) (by decide)).mono ?_
      rintro e w1 ⟨A1, c1, rfl, HS1⟩
      have a0 := HS1.up1.blk_at 0 rfl
      have a1 := HS1.up1.blk_at 1 rfl
      have a2 := HS1.up1.blk_at 2 rfl
      have a3 := HS1.up1.blk_at 3 rfl
      have a4 := HS1.up1.blk_at 4 rfl
      have a5 := HS1.up1.blk_at 5 rfl
      have a6 := HS1.up1.blk_at 6 rfl
      go_wp2
      rw [HQ.out]
      exact ⟨none, 0, rfl, HS1.drop.drop.nil _ _⟩
  · obtain ⟨b1, b2⟩ := ne_b h
    clear h
    rcases hab with ⟨rfl, rfl⟩ | ⟨rfl, rfl⟩
    all_goals
      go_enter Try.func50, Try.ntmps50
      go_wp2_with fail
      refine (rbytes_calls (x := 1) (s := 2) HSa (by decide) (by decide) (by decide) (by decide)).mono ?_
      rintro e w1 ⟨A1, c1, rfl, HS1⟩
      have a0 := HS1.up1.blk_at 0 rfl
      have a1 := HS1.up1.blk_at 1 rfl
      have a2 := HS1.up1.blk_at 2 rfl
      have a3 := HS1.up1.blk_at 3 rfl
      have a4 := HS1.up1.blk_at 4 rfl
      have a5 := HS1.up1.blk_at 5 rfl
      have a6 := HS1.up1.blk_at 6 rfl
      go_wp2
      rw [HQ.out]
      exact ⟨none, 0, rfl, HS1.drop.drop.nil _ _⟩
  · obtain ⟨b1, b2⟩ := ne_b h
    clear h
    rcases hab with ⟨rfl, rfl⟩ | ⟨rfl, rfl⟩
    all_goals
      go_enter Try.func50, Try.ntmps50
      go_wp2_with fail
      refine (rbytes_calls (x := 1) (s := 2) HSa (by decide) (by decide) (by decide) (by decide)).mono ?_
      rintro e w1 ⟨A1, c1, rfl, HS1⟩
      have a0 := HS1.up1.blk_at 0 rfl
      have a1 := HS1.up1.blk_at 1 rfl
      have a2 := HS1.up1.blk_at 2 rfl
      have a3 := HS1.up1.blk_at 3 rfl
      have a4 := HS1.up1.blk_at 4 rfl
      have a5 := HS1.up1.blk_at 5 rfl
      have a6 := HS1.up1.blk_at 6 rfl
      go_wp2
      rw [HQ.out]
      exact ⟨none, 0, rfl, HS1.drop.drop.nil _ _⟩
  · obtain ⟨b1, b2⟩ := ne_b h
    clear h
    clear hsa hsb hab
    go_enter Try.func50, Try.ntmps50
    go_wp2_with fail
    refine (rbytes_calls (x := 1) (s := 2) HSa (by decide) (by decide) (by decide) (by decide)).mono ?_
    rintro e w1 ⟨A1, c1, rfl, HS1⟩
    have a0 := HS1.up1.blk_at 0 rfl
    have a1 := HS1.up1.blk_at 1 rfl
    have a2 := HS1.up1.blk_at 2 rfl
    have a3 := HS1.up1.blk_at 3 rfl
    have a4 := HS1.up1.blk_at 4 rfl
    have a5 := HS1.up1.blk_at 5 rfl
    have a6 := HS1.up1.blk_at 6 rfl
    go_wp2
    rw [HQ.out]
    exact ⟨none, 0, rfl, HS1.drop.drop.nil _ _⟩
  · obtain ⟨b1, b2⟩ := ne_b h
    clear h
    clear hsa hsb hab
    go_enter Try.func50, Try.ntmps50
    go_wp2_with fail
    refine (rbytes_calls (x := 1) (s := 2) HSa (by decide) (by decide) (by decide) (by decide)).mono ?_
    rintro e w1 ⟨A1, c1, rfl, HS1⟩
    have a0 := HS1.up1.blk_at 0 rfl
    have a1 := HS1.up1.blk_at 1 rfl
    have a2 := HS1.up1.blk_at 2 rfl
    have a3 := HS1.up1.blk_at 3 rfl
    have a4 := HS1.up1.blk_at 4 rfl
    have a5 := HS1.up1.blk_at 5 rfl
    have a6 := HS1.up1.blk_at 6 rfl
    go_wp2
    rw [HQ.out]
    exact ⟨none, 0, rfl, HS1.drop.drop.nil _ _⟩

set_option maxHeartbeats 8000000 in
set_option maxRecDepth 100000 in
theorem rputinfo1_long {size flags p q r : Int} {nm : ByteArray} (HS : Sep w0 w O L) (s0 : 0 ≤ size) (s1 : size < 18446744073709551616) (f0 : 0 ≤ flags) (f1 : flags < 65536) (p0 : 0 ≤ p) (p1 : p < 4294967296) (q0 : 0 ≤ q) (q1 : q < 4294967296) (r0 : 0 ≤ r) (r1 : r < 4294967296) (h : size = 0 ∧ flags = 0 ∧ p = 0 ∧ q = 0 ∧ r = 0) (hn : 16 < nm.size) :
    Calls Try.prog 50 #[.agg #[.int .u16 1, .int .u64 size, .int .u16 flags, .string nm, .int .u32 p, .int .u32 q, .int .u32 r]] w (InfOut w0 O 3 ([]) L) := by
  obtain ⟨Q, hQ⟩ : ∃ Q : Ending → World → Prop, Q = InfOut w0 O 3 ([]) L := ⟨_, rfl⟩
  have HQ := hid hQ
  rw [← hQ]
  clear hQ
  have S1 := hid s1
  clear s1
  have HSa := HS.alloc #[.int .u16 1, .int .u64 size, .int .u16 flags, .string nm, .int .u32 p, .int .u32 q, .int .u32 r] 102
  obtain ⟨rfl, rfl, rfl, rfl, rfl⟩ := h
  have i1 : 16 < (nm.size : Int) := by omega
  clear hn
  go_enter Try.func50, Try.ntmps50
  go_wp2_with fail
  refine (rbytes_calls (x := 1) (s := 2) HSa (by decide) (by decide) (by decide) (by decide)).mono ?_
  rintro e w1 ⟨A1, c1, rfl, HS1⟩
  have a0 := HS1.up1.blk_at 0 rfl
  have a1 := HS1.up1.blk_at 1 rfl
  have a2 := HS1.up1.blk_at 2 rfl
  have a3 := HS1.up1.blk_at 3 rfl
  have a4 := HS1.up1.blk_at 4 rfl
  have a5 := HS1.up1.blk_at 5 rfl
  have a6 := HS1.up1.blk_at 6 rfl
  go_wp2
  rw [HQ.out]
  exact ⟨none, 0, rfl, HS1.drop.drop.nil _ _⟩

set_option maxHeartbeats 8000000 in
set_option maxRecDepth 100000 in
theorem rputinfo1_ok {size flags p q r : Int} {nm : ByteArray} (HS : Sep w0 w O L) (s0 : 0 ≤ size) (s1 : size < 18446744073709551616) (f0 : 0 ≤ flags) (f1 : flags < 65536) (p0 : 0 ≤ p) (p1 : p < 4294967296) (q0 : 0 ≤ q) (q1 : q < 4294967296) (r0 : 0 ≤ r) (r1 : r < 4294967296) (h : size = 0 ∧ flags = 0 ∧ p = 0 ∧ q = 0 ∧ r = 0) (hn : ¬ 16 < nm.size) :
    Calls Try.prog 50 #[.agg #[.int .u16 1, .int .u64 size, .int .u16 flags, .string nm, .int .u32 p, .int .u32 q, .int .u32 r]] w (InfOut w0 O 0 (be 2 1 ++ strInts nm) L) := by
  obtain ⟨Q, hQ⟩ : ∃ Q : Ending → World → Prop, Q = InfOut w0 O 0 (be 2 1 ++ strInts nm) L := ⟨_, rfl⟩
  have HQ := hid hQ
  rw [← hQ]
  clear hQ
  have S1 := hid s1
  clear s1
  have HSa := HS.alloc #[.int .u16 1, .int .u64 size, .int .u16 flags, .string nm, .int .u32 p, .int .u32 q, .int .u32 r] 102
  obtain ⟨rfl, rfl, rfl, rfl, rfl⟩ := h
  obtain ⟨i0, hi0, hz0, hz1, hz2⟩ := info_parts info_u8
  have i1 : ¬ 16 < (nm.size : Int) := by omega
  have h1 : 2 + nm.size ≤ maxLen := by simp only [maxLen]; omega
  have h2 : 2 + nm.size ≤ 140737488355328 := by omega
  clear hn
  go_enter Try.func50, Try.ntmps50
  go_wp2_with fail
  refine (rbytes_calls (x := 1) (s := 2) HSa (by decide) (by decide) (by decide) (by decide)).mono ?_
  rintro e w1 ⟨A1, c1, rfl, HS1⟩
  have a0 := HS1.up1.blk_at 0 rfl
  have a1 := HS1.up1.blk_at 1 rfl
  have a2 := HS1.up1.blk_at 2 rfl
  have a3 := HS1.up1.blk_at 3 rfl
  have a4 := HS1.up1.blk_at 4 rfl
  have a5 := HS1.up1.blk_at 5 rfl
  have a6 := HS1.up1.blk_at 6 rfl
  go_wp2_with (at_builtin; (refine wpList_append_sep_str rfl (.tmp 67) (.tmp 69) 23 9 rfl 5 i0 Try.underlying23 Try.underlying9 hi0 hz0 hz1 hz2 rfl HS1 rfl h1 h2 rfl rfl ?_; intro A5 c5 w5 HS5 hsz5))
  rw [HQ.out]
  have e9 : by8 (be 2 1) ++ Lib.strCells nm = by8 (be 2 1 ++ strInts nm) := by rw [strInts_cells, by8_append]
  rw [e9] at HS5
  have e8 : (be 2 1 ++ strInts nm).length = 2 + nm.size := by rw [List.length_append, be_len, strInts_len]
  exact ⟨A5, c5, by rw [e8]; rfl, by rw [e8]; exact HS5.sel 2 [0]⟩

set_option maxHeartbeats 8000000 in
set_option maxRecDepth 100000 in
theorem rputinfo3_err {size flags p q r : Int} {nm : ByteArray} (HS : Sep w0 w O L) (s0 : 0 ≤ size) (s1 : size < 18446744073709551616) (f0 : 0 ≤ flags) (f1 : flags < 65536) (p0 : 0 ≤ p) (p1 : p < 4294967296) (q0 : 0 ≤ q) (q1 : q < 4294967296) (r0 : 0 ≤ r) (r1 : r < 4294967296) (h : size ≠ 0 ∨ flags ≠ 0 ∨ 0 < nm.size) :
    Calls Try.prog 50 #[.agg #[.int .u16 3, .int .u64 size, .int .u16 flags, .string nm, .int .u32 p, .int .u32 q, .int .u32 r]] w (InfOut w0 O 1 ([]) L) := by
  obtain ⟨Q, hQ⟩ : ∃ Q : Ending → World → Prop, Q = InfOut w0 O 1 ([]) L := ⟨_, rfl⟩
  have HQ := hid hQ
  rw [← hQ]
  clear hQ
  have S1 := hid s1
  clear s1
  have HSa := HS.alloc #[.int .u16 3, .int .u64 size, .int .u16 flags, .string nm, .int .u32 p, .int .u32 q, .int .u32 r] 102
  have hz : p ≠ 0 ∨ p = 0 ∧ q ≠ 0 ∨ p = 0 ∧ q = 0 := by omega
  have hs : size ≠ 0 ∨ size = 0 ∧ flags ≠ 0 ∨ size = 0 ∧ flags = 0 ∧ 0 < nm.size := by omega
  clear h
  rcases hs with h | ⟨rfl, h⟩ | ⟨rfl, rfl, h⟩
  · obtain ⟨c1', c2'⟩ := ne_b h
    clear h
    rcases hz with h | ⟨rfl, h⟩ | ⟨rfl, rfl⟩
    · obtain ⟨b1, b2⟩ := ne_b h
      clear h
      go_enter Try.func50, Try.ntmps50
      go_wp2_with fail
      refine (rbytes_calls (x := 3) (s := 2) HSa (by decide) (by decide) (by decide) (by decide)).mono ?_
      rintro e w1 ⟨A1, c1, rfl, HS1⟩
      have a0 := HS1.up1.blk_at 0 rfl
      have a1 := HS1.up1.blk_at 1 rfl
      have a2 := HS1.up1.blk_at 2 rfl
      have a3 := HS1.up1.blk_at 3 rfl
      have a4 := HS1.up1.blk_at 4 rfl
      have a5 := HS1.up1.blk_at 5 rfl
      have a6 := HS1.up1.blk_at 6 rfl
      go_wp2
      rw [HQ.out]
      exact ⟨none, 0, rfl, HS1.drop.drop.nil _ _⟩
    · obtain ⟨b1, b2⟩ := ne_b h
      clear h
      go_enter Try.func50, Try.ntmps50
      go_wp2_with fail
      refine (rbytes_calls (x := 3) (s := 2) HSa (by decide) (by decide) (by decide) (by decide)).mono ?_
      rintro e w1 ⟨A1, c1, rfl, HS1⟩
      have a0 := HS1.up1.blk_at 0 rfl
      have a1 := HS1.up1.blk_at 1 rfl
      have a2 := HS1.up1.blk_at 2 rfl
      have a3 := HS1.up1.blk_at 3 rfl
      have a4 := HS1.up1.blk_at 4 rfl
      have a5 := HS1.up1.blk_at 5 rfl
      have a6 := HS1.up1.blk_at 6 rfl
      go_wp2
      rw [HQ.out]
      exact ⟨none, 0, rfl, HS1.drop.drop.nil _ _⟩
    · skip
      go_enter Try.func50, Try.ntmps50
      go_wp2_with fail
      refine (rbytes_calls (x := 3) (s := 2) HSa (by decide) (by decide) (by decide) (by decide)).mono ?_
      rintro e w1 ⟨A1, c1, rfl, HS1⟩
      have a0 := HS1.up1.blk_at 0 rfl
      have a1 := HS1.up1.blk_at 1 rfl
      have a2 := HS1.up1.blk_at 2 rfl
      have a3 := HS1.up1.blk_at 3 rfl
      have a4 := HS1.up1.blk_at 4 rfl
      have a5 := HS1.up1.blk_at 5 rfl
      have a6 := HS1.up1.blk_at 6 rfl
      go_wp2
      rw [HQ.out]
      exact ⟨none, 0, rfl, HS1.drop.drop.nil _ _⟩
  · obtain ⟨c1', c2'⟩ := ne_b h
    clear h
    rcases hz with h | ⟨rfl, h⟩ | ⟨rfl, rfl⟩
    · obtain ⟨b1, b2⟩ := ne_b h
      clear h
      go_enter Try.func50, Try.ntmps50
      go_wp2_with fail
      refine (rbytes_calls (x := 3) (s := 2) HSa (by decide) (by decide) (by decide) (by decide)).mono ?_
      rintro e w1 ⟨A1, c1, rfl, HS1⟩
      have a0 := HS1.up1.blk_at 0 rfl
      have a1 := HS1.up1.blk_at 1 rfl
      have a2 := HS1.up1.blk_at 2 rfl
      have a3 := HS1.up1.blk_at 3 rfl
      have a4 := HS1.up1.blk_at 4 rfl
      have a5 := HS1.up1.blk_at 5 rfl
      have a6 := HS1.up1.blk_at 6 rfl
      go_wp2
      rw [HQ.out]
      exact ⟨none, 0, rfl, HS1.drop.drop.nil _ _⟩
    · obtain ⟨b1, b2⟩ := ne_b h
      clear h
      go_enter Try.func50, Try.ntmps50
      go_wp2_with fail
      refine (rbytes_calls (x := 3) (s := 2) HSa (by decide) (by decide) (by decide) (by decide)).mono ?_
      rintro e w1 ⟨A1, c1, rfl, HS1⟩
      have a0 := HS1.up1.blk_at 0 rfl
      have a1 := HS1.up1.blk_at 1 rfl
      have a2 := HS1.up1.blk_at 2 rfl
      have a3 := HS1.up1.blk_at 3 rfl
      have a4 := HS1.up1.blk_at 4 rfl
      have a5 := HS1.up1.blk_at 5 rfl
      have a6 := HS1.up1.blk_at 6 rfl
      go_wp2
      rw [HQ.out]
      exact ⟨none, 0, rfl, HS1.drop.drop.nil _ _⟩
    · skip
      go_enter Try.func50, Try.ntmps50
      go_wp2_with fail
      refine (rbytes_calls (x := 3) (s := 2) HSa (by decide) (by decide) (by decide) (by decide)).mono ?_
      rintro e w1 ⟨A1, c1, rfl, HS1⟩
      have a0 := HS1.up1.blk_at 0 rfl
      have a1 := HS1.up1.blk_at 1 rfl
      have a2 := HS1.up1.blk_at 2 rfl
      have a3 := HS1.up1.blk_at 3 rfl
      have a4 := HS1.up1.blk_at 4 rfl
      have a5 := HS1.up1.blk_at 5 rfl
      have a6 := HS1.up1.blk_at 6 rfl
      go_wp2
      rw [HQ.out]
      exact ⟨none, 0, rfl, HS1.drop.drop.nil _ _⟩
  · have c1' := info_full h
    clear h
    rcases hz with h | ⟨rfl, h⟩ | ⟨rfl, rfl⟩
    · obtain ⟨b1, b2⟩ := ne_b h
      clear h
      go_enter Try.func50, Try.ntmps50
      go_wp2_with fail
      refine (rbytes_calls (x := 3) (s := 2) HSa (by decide) (by decide) (by decide) (by decide)).mono ?_
      rintro e w1 ⟨A1, c1, rfl, HS1⟩
      have a0 := HS1.up1.blk_at 0 rfl
      have a1 := HS1.up1.blk_at 1 rfl
      have a2 := HS1.up1.blk_at 2 rfl
      have a3 := HS1.up1.blk_at 3 rfl
      have a4 := HS1.up1.blk_at 4 rfl
      have a5 := HS1.up1.blk_at 5 rfl
      have a6 := HS1.up1.blk_at 6 rfl
      go_wp2
      rw [HQ.out]
      exact ⟨none, 0, rfl, HS1.drop.drop.nil _ _⟩
    · obtain ⟨b1, b2⟩ := ne_b h
      clear h
      go_enter Try.func50, Try.ntmps50
      go_wp2_with fail
      refine (rbytes_calls (x := 3) (s := 2) HSa (by decide) (by decide) (by decide) (by decide)).mono ?_
      rintro e w1 ⟨A1, c1, rfl, HS1⟩
      have a0 := HS1.up1.blk_at 0 rfl
      have a1 := HS1.up1.blk_at 1 rfl
      have a2 := HS1.up1.blk_at 2 rfl
      have a3 := HS1.up1.blk_at 3 rfl
      have a4 := HS1.up1.blk_at 4 rfl
      have a5 := HS1.up1.blk_at 5 rfl
      have a6 := HS1.up1.blk_at 6 rfl
      go_wp2
      rw [HQ.out]
      exact ⟨none, 0, rfl, HS1.drop.drop.nil _ _⟩
    · skip
      go_enter Try.func50, Try.ntmps50
      go_wp2_with fail
      refine (rbytes_calls (x := 3) (s := 2) HSa (by decide) (by decide) (by decide) (by decide)).mono ?_
      rintro e w1 ⟨A1, c1, rfl, HS1⟩
      have a0 := HS1.up1.blk_at 0 rfl
      have a1 := HS1.up1.blk_at 1 rfl
      have a2 := HS1.up1.blk_at 2 rfl
      have a3 := HS1.up1.blk_at 3 rfl
      have a4 := HS1.up1.blk_at 4 rfl
      have a5 := HS1.up1.blk_at 5 rfl
      have a6 := HS1.up1.blk_at 6 rfl
      go_wp2
      rw [HQ.out]
      exact ⟨none, 0, rfl, HS1.drop.drop.nil _ _⟩

set_option maxHeartbeats 8000000 in
set_option maxRecDepth 100000 in
theorem rputinfo3_ok {size flags p q r : Int} {nm : ByteArray} (HS : Sep w0 w O L) (s0 : 0 ≤ size) (s1 : size < 18446744073709551616) (f0 : 0 ≤ flags) (f1 : flags < 65536) (p0 : 0 ≤ p) (p1 : p < 4294967296) (q0 : 0 ≤ q) (q1 : q < 4294967296) (r0 : 0 ≤ r) (r1 : r < 4294967296) (hn : nm = eStr) (h : size = 0 ∧ flags = 0) :
    Calls Try.prog 50 #[.agg #[.int .u16 3, .int .u64 size, .int .u16 flags, .string nm, .int .u32 p, .int .u32 q, .int .u32 r]] w (InfOut w0 O 0 (be 2 3 ++ be 4 p ++ be 4 q ++ be 4 r) L) := by
  obtain ⟨Q, hQ⟩ : ∃ Q : Ending → World → Prop, Q = InfOut w0 O 0 (be 2 3 ++ be 4 p ++ be 4 q ++ be 4 r) L := ⟨_, rfl⟩
  have HQ := hid hQ
  rw [← hQ]
  clear hQ
  have S1 := hid s1
  clear s1
  have HSa := HS.alloc #[.int .u16 3, .int .u64 size, .int .u16 flags, .string nm, .int .u32 p, .int .u32 q, .int .u32 r] 102
  obtain ⟨rfl, rfl⟩ := h
  subst hn
  obtain ⟨i0, hi0, hz0, hz1, hz2⟩ := info_parts info_u8
  have y1 : IntKind.u64.wrap p = p := by rw [IntKind.wrap_u64]; omega
  have y2 : IntKind.u64.wrap q = q := by rw [IntKind.wrap_u64]; omega
  have y3 : IntKind.u64.wrap r = r := by rw [IntKind.wrap_u64]; omega
  have P1 : Aside (p < 18446744073709551616 ∧ q < 18446744073709551616 ∧ r < 18446744073709551616) := ⟨by omega⟩
  have P0 : Aside (0 ≤ p ∧ 0 ≤ q ∧ 0 ≤ r) := ⟨by omega⟩
  clear p0 p1 q0 q1 r0 r1
  have hz : p ≠ 0 ∨ p = 0 ∧ q ≠ 0 ∨ p = 0 ∧ q = 0 := by omega
  have key : ∃ a b c d : Bool, (p == 0) = a ∧ (p != 0) = b ∧ (q == 0) = c ∧ (q != 0) = d ∧ (a = false ∧ b = true ∨ a = true ∧ b = false ∧ (c = false ∧ d = true ∨ c = true ∧ d = false)) := ⟨_, _, _, _, rfl, rfl, rfl, rfl, by cases h : (p == 0) <;> cases h' : (q == 0) <;> simp [bne, h, h']⟩
  obtain ⟨ba, bb, bc, bd, e1, e2, e3, e4, hab⟩ := key
  clear hz
  rcases hab with ⟨rfl, rfl⟩ | ⟨rfl, rfl, ⟨rfl, rfl⟩ | ⟨rfl, rfl⟩⟩
  all_goals
    go_enter Try.func50, Try.ntmps50
    go_wp2_with fail
    refine (rbytes_calls (x := 3) (s := 2) HSa (by decide) (by decide) (by decide) (by decide)).mono ?_
    rintro e w1 ⟨A1, c1, rfl, HS1⟩
    have a0 := HS1.up1.blk_at 0 rfl
    have a1 := HS1.up1.blk_at 1 rfl
    have a2 := HS1.up1.blk_at 2 rfl
    have a3 := HS1.up1.blk_at 3 rfl
    have a4 := HS1.up1.blk_at 4 rfl
    have a5 := HS1.up1.blk_at 5 rfl
    have a6 := HS1.up1.blk_at 6 rfl
    go_wp2_with fail
    clear a0 a1 a2 a3 a4 a5 a6
    go_loopw [4, 7] (fun v i wr => ∃ (j cj : Nat) (B : Option Addr) (m : Nat) (bs : List Int), j ≤ 3 ∧ i = .int .i64 j ∧ v = .slice B m cj ∧ m = 2 + 4 * j ∧ Aside (bs = be 2 3 ++ [be 4 p, be 4 q, be 4 r].flatten.take (4 * j)) ∧
      Sep w0 wr O (own 5 1 B m cj (by8 bs) :: blk w.heap.size 102 #[.int .u16 3, .int .u64 0, .int .u16 0, .string eStr, .int .u32 p, .int .u32 q, .int .u32 r] :: L)) (fun _ i _ => 3 - (intOf i).toNat)
    case atStart => exact ⟨0, c1, A1, 2, be 2 3, by omega, rfl, rfl, rfl, ⟨by simp⟩, HS1⟩
    case round =>
      obtain ⟨j, cj, B, m, bs, hj, rfl, rfl, hm, hbs, HS6⟩ := hrel
      have a4 := HS6.up1.blk_at 4 rfl
      have a5 := HS6.up1.blk_at 5 rfl
      have a6 := HS6.up1.blk_at 6 rfl
      have key : j = 0 ∨ j = 1 ∨ j = 2 ∨ j = 3 := by omega
      rcases key with rfl | rfl | rfl | rfl
      · obtain rfl : m = 2 := by omega
        clear hm
        go_wp2_with fail
        refine (rbytes_calls (x := p) (s := 4) HS6 (by decide) (by decide) P0.out.1 P1.out.1).mono ?_
        rintro e w7 ⟨A7, c7, rfl, HS7⟩
        have HT := HS7.up1
        have hrd := HT.rd1
        clear a4 a5 a6
        go_wp2_with (at_builtin; (refine wpList_append_sep rfl (.tmp 83) (.tmp 89) 23 rfl 5 i0 _ 1 1 Try.underlying23 hi0 hz0 hz1 hz2 rfl (by decide) rfl HT rfl hrd (by8_one _) (by decide) (by decide) rfl (by8_append _ _) ?_; intro A8 c8 w8 HS8 hsz8))
        have HS9 := HS8.sel 3 [0, 2]
        go_roundw
        case rel => exact ⟨1, c8, A8, 2 + 4, bs ++ be 4 p, by omega, by go_num, rfl, by omega, ⟨by rw [hbs.out]; simp [List.take_append, be_len, List.take_of_length_le]⟩, HS9⟩
        case measure => simp [intOf]
      · obtain rfl : m = 6 := by omega
        clear hm
        go_wp2_with fail
        refine (rbytes_calls (x := q) (s := 4) HS6 (by decide) (by decide) P0.out.2.1 P1.out.2.1).mono ?_
        rintro e w7 ⟨A7, c7, rfl, HS7⟩
        have HT := HS7.up1
        have hrd := HT.rd1
        clear a4 a5 a6
        go_wp2_with (at_builtin; (refine wpList_append_sep rfl (.tmp 83) (.tmp 89) 23 rfl 5 i0 _ 1 1 Try.underlying23 hi0 hz0 hz1 hz2 rfl (by decide) rfl HT rfl hrd (by8_one _) (by decide) (by decide) rfl (by8_append _ _) ?_; intro A8 c8 w8 HS8 hsz8))
        have HS9 := HS8.sel 3 [0, 2]
        go_roundw
        case rel => exact ⟨2, c8, A8, 6 + 4, bs ++ be 4 q, by omega, by go_num, rfl, by omega, ⟨by rw [hbs.out]; simp [List.take_append, be_len, List.take_of_length_le]⟩, HS9⟩
        case measure => simp [intOf]
      · obtain rfl : m = 10 := by omega
        clear hm
        go_wp2_with fail
        refine (rbytes_calls (x := r) (s := 4) HS6 (by decide) (by decide) P0.out.2.2 P1.out.2.2).mono ?_
        rintro e w7 ⟨A7, c7, rfl, HS7⟩
        have HT := HS7.up1
        have hrd := HT.rd1
        clear a4 a5 a6
        go_wp2_with (at_builtin; (refine wpList_append_sep rfl (.tmp 83) (.tmp 89) 23 rfl 5 i0 _ 1 1 Try.underlying23 hi0 hz0 hz1 hz2 rfl (by decide) rfl HT rfl hrd (by8_one _) (by decide) (by decide) rfl (by8_append _ _) ?_; intro A8 c8 w8 HS8 hsz8))
        have HS9 := HS8.sel 3 [0, 2]
        go_roundw
        case rel => exact ⟨3, c8, A8, 10 + 4, bs ++ be 4 r, by omega, by go_num, rfl, by omega, ⟨by rw [hbs.out]; simp [List.take_append, be_len, List.take_of_length_le]⟩, HS9⟩
        case measure => simp [intOf]
      · obtain rfl : m = 14 := by omega
        have hb3 : bs = be 2 3 ++ be 4 p ++ be 4 q ++ be 4 r := by
          rw [hbs.out, List.take_of_length_le (by simp [be_len])]
          simp
        subst hb3
        go_wp2
        rw [HQ.out]
        exact ⟨B, cj, rfl, HS6.sel 2 [0]⟩

set_option maxHeartbeats 8000000 in
set_option maxRecDepth 100000 in
theorem rputinfo_none {size flags p q r kd : Int} {nm : ByteArray} (HS : Sep w0 w O L) (s0 : 0 ≤ size) (s1 : size < 18446744073709551616) (f0 : 0 ≤ flags) (f1 : flags < 65536) (p0 : 0 ≤ p) (p1 : p < 4294967296) (q0 : 0 ≤ q) (q1 : q < 4294967296) (r0 : 0 ≤ r) (r1 : r < 4294967296) (g0 : 0 ≤ kd) (g1 : kd < 65536) (h0 : kd ≠ 0) (h1 : kd ≠ 1) (h3 : kd ≠ 3) :
    Calls Try.prog 50 #[.agg #[.int .u16 kd, .int .u64 size, .int .u16 flags, .string nm, .int .u32 p, .int .u32 q, .int .u32 r]] w (InfOut w0 O 6 ([]) L) := by
  obtain ⟨Q, hQ⟩ : ∃ Q : Ending → World → Prop, Q = InfOut w0 O 6 ([]) L := ⟨_, rfl⟩
  have HQ := hid hQ
  rw [← hQ]
  clear hQ
  have S1 := hid s1
  clear s1
  have HSa := HS.alloc #[.int .u16 kd, .int .u64 size, .int .u16 flags, .string nm, .int .u32 p, .int .u32 q, .int .u32 r] 102
  have d0 : (kd == 0) = false := by simpa using h0
  have d1 : (kd == 1) = false := by simpa using h1
  have d3 : (kd == 3) = false := by simpa using h3
  have y1 : IntKind.u64.wrap kd = kd := by rw [IntKind.wrap_u64]; omega
  have H64 : Aside (kd < 18446744073709551616) := ⟨by omega⟩
  clear h0 h1 h3 g1
  obtain ⟨sa, sb, hsa, hsb, hab⟩ : ∃ a b : Bool, (size == 0) = a ∧ (size != 0) = b ∧ (a = true ∧ b = false ∨ a = false ∧ b = true) := ⟨_, _, rfl, rfl, by cases h : (size == 0) <;> simp [bne, h]⟩
  have hz : p ≠ 0 ∨ p = 0 ∧ q ≠ 0 ∨ p = 0 ∧ q = 0 := by omega
  rcases hz with h | ⟨rfl, h⟩ | ⟨rfl, rfl⟩
  · obtain ⟨b1, b2⟩ := ne_b h
    clear h
    rcases hab with ⟨rfl, rfl⟩ | ⟨rfl, rfl⟩
    all_goals
      go_enter Try.func50, Try.ntmps50
      go_wp2_with fail
      refine (rbytes_calls (x := kd) (s := 2) HSa (by decide) (by decide) g0 H64.out).mono ?_
      rintro e w1 ⟨A1, c1, rfl, HS1⟩
      have a0 := HS1.up1.blk_at 0 rfl
      have a1 := HS1.up1.blk_at 1 rfl
      have a2 := HS1.up1.blk_at 2 rfl
      have a3 := HS1.up1.blk_at 3 rfl
      have a4 := HS1.up1.blk_at 4 rfl
      have a5 := HS1.up1.blk_at 5 rfl
      have a6 := HS1.up1.blk_at 6 rfl
      go_wp2
      rw [HQ.out]
      exact ⟨none, 0, rfl, HS1.drop.drop.nil _ _⟩
  · obtain ⟨b1, b2⟩ := ne_b h
    clear h
    rcases hab with ⟨rfl, rfl⟩ | ⟨rfl, rfl⟩
    all_goals
      go_enter Try.func50, Try.ntmps50
      go_wp2_with fail
      refine (rbytes_calls (x := kd) (s := 2) HSa (by decide) (by decide) g0 H64.out).mono ?_
      rintro e w1 ⟨A1, c1, rfl, HS1⟩
      have a0 := HS1.up1.blk_at 0 rfl
      have a1 := HS1.up1.blk_at 1 rfl
      have a2 := HS1.up1.blk_at 2 rfl
      have a3 := HS1.up1.blk_at 3 rfl
      have a4 := HS1.up1.blk_at 4 rfl
      have a5 := HS1.up1.blk_at 5 rfl
      have a6 := HS1.up1.blk_at 6 rfl
      go_wp2
      rw [HQ.out]
      exact ⟨none, 0, rfl, HS1.drop.drop.nil _ _⟩
  · skip
    rcases hab with ⟨rfl, rfl⟩ | ⟨rfl, rfl⟩
    all_goals
      go_enter Try.func50, Try.ntmps50
      go_wp2_with fail
      refine (rbytes_calls (x := kd) (s := 2) HSa (by decide) (by decide) g0 H64.out).mono ?_
      rintro e w1 ⟨A1, c1, rfl, HS1⟩
      have a0 := HS1.up1.blk_at 0 rfl
      have a1 := HS1.up1.blk_at 1 rfl
      have a2 := HS1.up1.blk_at 2 rfl
      have a3 := HS1.up1.blk_at 3 rfl
      have a4 := HS1.up1.blk_at 4 rfl
      have a5 := HS1.up1.blk_at 5 rfl
      have a6 := HS1.up1.blk_at 6 rfl
      go_wp2
      rw [HQ.out]
      exact ⟨none, 0, rfl, HS1.drop.drop.nil _ _⟩

theorem rputinfo_calls {i : If} (HS : Sep w0 w O L) (ok : i.Ok) :
    Calls Try.prog 50 #[.agg i.cells] w (InfOut w0 O (putE i) (putB i) L) := by
  obtain ⟨kd, size, fl, nm, p, q, r⟩ := i
  obtain ⟨⟨k0, k1⟩, ⟨s0, s1⟩, ⟨f0, f1⟩, hn, ⟨p0, p1⟩, ⟨q0, q1⟩, ⟨r0, r1⟩⟩ := ok
  dsimp only [If.cells] at *
  have er : ∀ {E : Int}, putE ⟨kd, size, fl, nm, p, q, r⟩ = E → E ≠ 0 → putB ⟨kd, size, fl, nm, p, q, r⟩ = [] := fun h h' => by unfold putB; rw [h, if_neg h']
  by_cases h0 : kd = 0
  · subst h0
    by_cases h : 0 < nm.size ∨ arr0 p q r = false
    · have e : putE ⟨0, size, fl, nm, p, q, r⟩ = 1 := by unfold putE; rw [if_pos rfl, if_pos h]
      rw [er e (by decide), e]
      exact rputinfo0_err HS s0 s1 f0 f1 p0 p1 q0 q1 r0 r1 h
    · have e : putE ⟨0, size, fl, nm, p, q, r⟩ = 0 := by unfold putE; rw [if_pos rfl, if_neg h]
      have eB : putB ⟨0, size, fl, nm, p, q, r⟩ = be 2 0 ++ be 8 size ++ be 2 fl := by unfold putB; rw [e, if_pos rfl, if_pos rfl, List.append_assoc]
      rw [e, eB]
      exact rputinfo0_ok HS s0 s1 f0 f1 p0 p1 q0 q1 r0 r1 (info_void fun hh => h (.inl hh)) (arr0_eq (by simpa using fun hh => h (.inr hh)))
  by_cases h1 : kd = 1
  · subst h1
    by_cases h : size ≠ 0 ∨ fl ≠ 0 ∨ arr0 p q r = false
    · have e : putE ⟨1, size, fl, nm, p, q, r⟩ = 1 := by unfold putE; dsimp only; rw [if_neg (by decide), if_pos rfl, if_pos h]
      rw [er e (by decide), e]
      exact rputinfo1_err HS s0 s1 f0 f1 p0 p1 q0 q1 r0 r1 h
    · have hh : size = 0 ∧ fl = 0 ∧ p = 0 ∧ q = 0 ∧ r = 0 := ⟨by omega, by omega, arr0_eq (by simpa using fun hh => h (.inr (.inr hh)))⟩
      by_cases h16 : 16 < nm.size
      · have e : putE ⟨1, size, fl, nm, p, q, r⟩ = 3 := by unfold putE; dsimp only; rw [if_neg (by decide), if_pos rfl, if_neg h, if_pos h16]
        rw [er e (by decide), e]
        exact rputinfo1_long HS s0 s1 f0 f1 p0 p1 q0 q1 r0 r1 hh h16
      · have e : putE ⟨1, size, fl, nm, p, q, r⟩ = 0 := by unfold putE; dsimp only; rw [if_neg (by decide), if_pos rfl, if_neg h, if_neg h16]
        have eB : putB ⟨1, size, fl, nm, p, q, r⟩ = be 2 1 ++ strInts nm := by unfold putB; rw [e, if_pos rfl]; dsimp only; rw [if_neg (by decide), if_pos rfl]
        rw [e, eB]
        exact rputinfo1_ok HS s0 s1 f0 f1 p0 p1 q0 q1 r0 r1 hh h16
  by_cases h3 : kd = 3
  · subst h3
    by_cases h : size ≠ 0 ∨ fl ≠ 0 ∨ 0 < nm.size
    · have e : putE ⟨3, size, fl, nm, p, q, r⟩ = 1 := by unfold putE; dsimp only; rw [if_neg (by decide), if_neg (by decide), if_pos rfl, if_pos h]
      rw [er e (by decide), e]
      exact rputinfo3_err HS s0 s1 f0 f1 p0 p1 q0 q1 r0 r1 h
    · have e : putE ⟨3, size, fl, nm, p, q, r⟩ = 0 := by unfold putE; dsimp only; rw [if_neg (by decide), if_neg (by decide), if_pos rfl, if_neg h]
      have eB : putB ⟨3, size, fl, nm, p, q, r⟩ = be 2 3 ++ be 4 p ++ be 4 q ++ be 4 r := by unfold putB; rw [e, if_pos rfl]; dsimp only; rw [if_neg (by decide), if_neg (by decide)]; simp
      rw [e, eB]
      exact rputinfo3_ok HS s0 s1 f0 f1 p0 p1 q0 q1 r0 r1 (info_void (by omega)) ⟨by omega, by omega⟩
  · have e : putE ⟨kd, size, fl, nm, p, q, r⟩ = 6 := by unfold putE; rw [if_neg h0, if_neg h1, if_neg h3]
    rw [er e (by decide), e]
    exact rputinfo_none HS s0 s1 f0 f1 p0 p1 q0 q1 r0 r1 k0 k1 h0 h1 h3
end
end Go.Proofs.Ytgepekailoopeaa
