/-
  Options, replies, wishes, infos that come in.
-/
import Derived.Test.YtgepekailoopeaaView
namespace Go.Proofs.Ytgepekailoopeaa
open Go.RowKit
set_option linter.unusedVariables false
set_option linter.unusedSimpArgs false

theorem sees_raw {h : Array Obj} {cs0 : Array Value} {x0 : Sh.V (.agg (.pair (.int .u32) (.pair (.slice (.int .u8) 1) .unit)))}
    (s0 : Sees h (.agg (.pair (.int .u32) (.pair (.slice (.int .u8) 1) .unit))) cs0.toList x0) (y0 : Light (.agg (.pair (.int .u32) (.pair (.slice (.int .u8) 1) .unit))) x0) :
    ∃ (op : Int) (A0 : Option Addr) (c0 : Nat) (d : List Int), cs0 = #[.int .u32 op, .slice A0 d.length c0] ∧ (0 ≤ op ∧ op < 4294967296) ∧
      Rd h (fun b => b < h.size) 1 A0 d.length (kv .u8 d) ∧ d.length ≤ c0 ∧ (∀ x ∈ d, 0 ≤ x ∧ x < 256) ∧ d.length ≤ 140737488351232 := by
  obtain ⟨op, d, _⟩ := x0
  obtain ⟨q1, r1, hcs, hl1, ⟨rfl, hb1⟩, q6, r6, rfl, hl6, hs6, rfl⟩ := s0
  obtain ⟨A0, c0, rfl, _, _, _⟩ := id hs6
  obtain ⟨_, hr0, hc0, _, hw0⟩ := sees_ints hs6
  have h : List.length d * 1 ≤ 140737488351232 := y0.2.1.1
  have g1 := bounds_u32 hb1
  exact ⟨op, A0, c0, d, by apply Array.toList_inj.1; rw [hcs]; rfl, by dsimp only at g1; omega, hr0, hc0, kv_byt hw0, by omega⟩

theorem sees_reply {h : Array Obj} {cs0 : Array Value} {x0 : Sh.V (.agg (.pair (.int .u32) (.pair (.int .u32) (.pair (.slice (.int .u8) 1) .unit))))}
    (s0 : Sees h (.agg (.pair (.int .u32) (.pair (.int .u32) (.pair (.slice (.int .u8) 1) .unit)))) cs0.toList x0) (y0 : Light (.agg (.pair (.int .u32) (.pair (.int .u32) (.pair (.slice (.int .u8) 1) .unit)))) x0) :
    ∃ (op kd : Int) (A0 : Option Addr) (c0 : Nat) (d : List Int), cs0 = #[.int .u32 op, .int .u32 kd, .slice A0 d.length c0] ∧ (0 ≤ op ∧ op < 4294967296) ∧ (0 ≤ kd ∧ kd < 4294967296) ∧
      Rd h (fun b => b < h.size) 1 A0 d.length (kv .u8 d) ∧ d.length ≤ c0 ∧ (∀ x ∈ d, 0 ≤ x ∧ x < 256) ∧ d.length ≤ 140737488351232 := by
  obtain ⟨op, kd, d, _⟩ := x0
  obtain ⟨q1, r1, hcs, hl1, ⟨rfl, hb1⟩, q2, r2, rfl, hl2, ⟨rfl, hb2⟩, q6, r6, rfl, hl6, hs6, rfl⟩ := s0
  obtain ⟨A0, c0, rfl, _, _, _⟩ := id hs6
  obtain ⟨_, hr0, hc0, _, hw0⟩ := sees_ints hs6
  have h : List.length d * 1 ≤ 140737488351232 := y0.2.2.1.1
  have g1 := bounds_u32 hb1
  have g3 := bounds_u32 hb2
  exact ⟨op, kd, A0, c0, d, by apply Array.toList_inj.1; rw [hcs]; rfl, by dsimp only at g1; omega, by dsimp only at g3; omega, hr0, hc0, kv_byt hw0, by omega⟩

theorem kv_u16 {l : List Int} (h : ∀ x ∈ l, (Lit.int .u16 x).wf = true) : ∀ x ∈ l, 0 ≤ x ∧ x < 65536 := fun x hx => by
  have := bounds_u16 (h x hx)
  omega
theorem sees_wish {h : Array Obj} {cs0 : Array Value} {x0 : Sh.V (.agg (.pair (.int .u32) (.pair .str (.pair (.slice (.int .u16) 2) .unit))))}
    (s0 : Sees h (.agg (.pair (.int .u32) (.pair .str (.pair (.slice (.int .u16) 2) .unit)))) cs0.toList x0) (y0 : Light (.agg (.pair (.int .u32) (.pair .str (.pair (.slice (.int .u16) 2) .unit)))) x0) :
    ∃ (op : Int) (nm : ByteArray) (A0 : Option Addr) (c0 : Nat) (d : List Int), cs0 = #[.int .u32 op, .string nm, .slice A0 d.length c0] ∧ (0 ≤ op ∧ op < 4294967296) ∧ nm.size ≤ 140737488351232 ∧
      Rd h (fun b => b < h.size) 1 A0 d.length (kv .u16 d) ∧ d.length ≤ c0 ∧ (∀ x ∈ d, 0 ≤ x ∧ x < 65536) ∧ d.length ≤ 70368744175616 := by
  obtain ⟨op, nm, d, _⟩ := x0
  obtain ⟨q1, r1, hcs, hl1, ⟨rfl, hb1⟩, q2, r2, rfl, hl2, ⟨rfl, hb2⟩, q6, r6, rfl, hl6, hs6, rfl⟩ := s0
  obtain ⟨A0, c0, rfl, _, _, _⟩ := id hs6
  obtain ⟨_, hr0, hc0, _, hw0⟩ := sees_ints hs6
  have h : List.length d * 2 ≤ 140737488351232 := y0.2.2.1.1
  have gn : ByteArray.size nm ≤ 140737488351232 := y0.2.1
  have g1 := bounds_u32 hb1
  exact ⟨op, nm, A0, c0, d, by apply Array.toList_inj.1; rw [hcs]; rfl, by dsimp only at g1; omega, gn, hr0, hc0, kv_u16 hw0, by omega⟩

theorem sees_info {h : Array Obj} {cs0 : Array Value} {x0 : Sh.V (.agg (.pair (.int .u16) (.pair (.int .u64) (.pair (.int .u16) (.pair .str (.pair (.agg (.pair (.int .u32) (.pair (.int .u32) (.pair (.int .u32) .unit)))) .unit))))))}
    (s0 : Sees h (.agg (.pair (.int .u16) (.pair (.int .u64) (.pair (.int .u16) (.pair .str (.pair (.agg (.pair (.int .u32) (.pair (.int .u32) (.pair (.int .u32) .unit)))) .unit)))))) cs0.toList x0)
    (y0 : Light (.agg (.pair (.int .u16) (.pair (.int .u64) (.pair (.int .u16) (.pair .str (.pair (.agg (.pair (.int .u32) (.pair (.int .u32) (.pair (.int .u32) .unit)))) .unit)))))) x0) :
    ∃ (kd size fl : Int) (nm : ByteArray) (p q r : Int), cs0 = #[.int .u16 kd, .int .u64 size, .int .u16 fl, .string nm, .int .u32 p, .int .u32 q, .int .u32 r] ∧ (0 ≤ kd ∧ kd < 65536) ∧ (0 ≤ size ∧ size < 18446744073709551616) ∧ (0 ≤ fl ∧ fl < 65536) ∧ nm.size ≤ 140737488351232 ∧
      (0 ≤ p ∧ p < 4294967296) ∧ (0 ≤ q ∧ q < 4294967296) ∧ (0 ≤ r ∧ r < 4294967296) := by
  obtain ⟨kd, size, fl, nm, ⟨p, q, r, _⟩, _⟩ := x0
  obtain ⟨q1, r1, hcs, hl1, ⟨rfl, hb1⟩, q2, r2, rfl, hl2, ⟨rfl, hb2⟩, q3, r3, rfl, hl3, ⟨rfl, hb3⟩, q4, r4, rfl, hl4, ⟨rfl, hb4⟩, q5, r5, rfl, hl5, hs5, rfl⟩ := s0
  obtain ⟨q6, r6, rfl, hl6, ⟨rfl, hb6⟩, q7, r7, rfl, hl7, ⟨rfl, hb7⟩, q8, r8, rfl, hl8, ⟨rfl, hb8⟩, rfl⟩ := hs5
  have gn : ByteArray.size nm ≤ 140737488351232 := y0.2.2.2.1
  have g1 := bounds_u16 hb1
  have g2 := bounds_u64 hb2
  have g3 := bounds_u16 hb3
  have g6 := bounds_u32 hb6
  have g7 := bounds_u32 hb7
  have g8 := bounds_u32 hb8
  exact ⟨kd, size, fl, nm, p, q, r, by apply Array.toList_inj.1; rw [hcs]; rfl, by dsimp only at g1; omega, by dsimp only at g2; omega, by dsimp only at g3; omega, gn, by dsimp only at g6; omega, by dsimp only at g7; omega, by dsimp only at g8; omega⟩
end Go.Proofs.Ytgepekailoopeaa
