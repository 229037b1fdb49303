/-
  Requests, volumes, replies that come in.
-/
import Derived.Test.YtbfcnbggkcaolaaReqChk
import Derived.Test.YtbfcnbggkcaolaaNum
import Derived.Test.YtbfcnbggkcaolaaView
namespace Go.Proofs.Ytbfcnbggkcaolaa
open Go.RowKit
set_option linter.unusedVariables false
set_option linter.unusedSimpArgs false

theorem sees_req {h : Array Obj} {cs0 : Array Value} {x0 : Sh.V (.agg (.pair (.int .i64) (.pair (.int .i64) (.pair (.int .u64) (.pair (.int .u64) (.pair (.int .u32) (.pair (.slice (.int .u8) 1) .unit)))))))}
    (s0 : Sees h (.agg (.pair (.int .i64) (.pair (.int .i64) (.pair (.int .u64) (.pair (.int .u64) (.pair (.int .u32) (.pair (.slice (.int .u8) 1) .unit))))))) cs0.toList x0)
    (y0 : Light (.agg (.pair (.int .i64) (.pair (.int .i64) (.pair (.int .u64) (.pair (.int .u64) (.pair (.int .u32) (.pair (.slice (.int .u8) 1) .unit))))))) x0) :
    ∃ (fl kd ck off len : Int) (A0 : Option Addr) (c0 : Nat) (d : List Int), cs0 = #[.int .i64 fl, .int .i64 kd, .int .u64 ck, .int .u64 off, .int .u32 len, .slice A0 d.length c0] ∧
      (-9223372036854775808 ≤ fl ∧ fl < 9223372036854775808) ∧ (-9223372036854775808 ≤ kd ∧ kd < 9223372036854775808) ∧ (0 ≤ ck ∧ ck < 18446744073709551616) ∧ (0 ≤ off ∧ off < 18446744073709551616) ∧ (0 ≤ len ∧ len < 4294967296) ∧
      Rd h (fun b => b < h.size) 1 A0 d.length (by8 d) ∧ d.length ≤ c0 ∧ Byt d ∧ d.length ≤ 140737488351232 := by
  obtain ⟨fl, kd, ck, off, len, d, _⟩ := x0
  obtain ⟨q1, r1, hcs, hl1, ⟨rfl, hb1⟩, q2, r2, rfl, hl2, ⟨rfl, hb2⟩, q3, r3, rfl, hl3, ⟨rfl, hb3⟩, q4, r4, rfl, hl4, ⟨rfl, hb4⟩, q5, r5, rfl, hl5, ⟨rfl, hb5⟩, q6, r6, rfl, hl6, hs6, rfl⟩ := s0
  obtain ⟨A0, c0, rfl, _, _, _⟩ := id hs6
  obtain ⟨_, hr0, hc0, _, hw0⟩ := sees_ints hs6
  have h : List.length d * 1 ≤ 140737488351232 := y0.2.2.2.2.2.1.1
  have g1 := bounds_i64 hb1
  have g2 := bounds_i64 hb2
  have g3 := bounds_u64 hb3
  have g4 := bounds_u64 hb4
  have g5 := bounds_u32 hb5
  exact ⟨fl, kd, ck, off, len, A0, c0, d, by apply Array.toList_inj.1; rw [hcs]; rfl, by dsimp only at g1; omega, by dsimp only at g2; omega, by dsimp only at g3; omega, by dsimp only at g4; omega, by dsimp only at g5; omega, hr0, hc0, kv_byt hw0, by omega⟩

theorem sees_vol {h : Array Obj} {cs0 : Array Value} {x0 : Sh.V (.agg (.pair (.int .u64) (.pair .str (.pair (.int .u64) (.pair (.int .u64) (.pair .bool (.pair (.int .u64) .unit)))))))}
    (s0 : Sees h (.agg (.pair (.int .u64) (.pair .str (.pair (.int .u64) (.pair (.int .u64) (.pair .bool (.pair (.int .u64) .unit))))))) cs0.toList x0) :
    ∃ (id : Int) (nm : ByteArray) (size root : Int) (fixed : Bool) (orig : Int), cs0 = #[.int .u64 id, .string nm, .int .u64 size, .int .u64 root, .bool fixed, .int .u64 orig] ∧ 0 ≤ size ∧ size < 18446744073709551616 := by
  obtain ⟨i, nm, size, root, fixed, orig, _⟩ := x0
  obtain ⟨q1, r1, hcs, hl1, ⟨rfl, hb1⟩, q2, r2, rfl, hl2, ⟨rfl, hb2⟩, q3, r3, rfl, hl3, ⟨rfl, hb3⟩, q4, r4, rfl, hl4, ⟨rfl, hb4⟩, q5, r5, rfl, hl5, rfl, q6, r6, rfl, hl6, ⟨rfl, hb6⟩, rfl⟩ := s0
  have g3 := bounds_u64 hb3
  exact ⟨i, nm, size, root, fixed, orig, by apply Array.toList_inj.1; rw [hcs]; rfl, by dsimp only at g3; omega, by dsimp only at g3; omega⟩

theorem sees_rep {h : Array Obj} {cs0 : Array Value} {x0 : Sh.V (.agg (.pair (.int .u32) (.pair (.int .u64) (.pair (.slice (.int .u8) 1) .unit))))}
    (s0 : Sees h (.agg (.pair (.int .u32) (.pair (.int .u64) (.pair (.slice (.int .u8) 1) .unit)))) cs0.toList x0) (y0 : Light (.agg (.pair (.int .u32) (.pair (.int .u64) (.pair (.slice (.int .u8) 1) .unit)))) x0) :
    ∃ (er ck : Int) (A0 : Option Addr) (c0 : Nat) (d : List Int), cs0 = #[.int .u32 er, .int .u64 ck, .slice A0 d.length c0] ∧ (0 ≤ er ∧ er < 4294967296) ∧ (0 ≤ ck ∧ ck < 18446744073709551616) ∧
      Rd h (fun b => b < h.size) 1 A0 d.length (by8 d) ∧ d.length ≤ c0 ∧ Byt d ∧ d.length ≤ 140737488351232 := by
  obtain ⟨er, ck, d, _⟩ := x0
  obtain ⟨q1, r1, hcs, hl1, ⟨rfl, hb1⟩, q2, r2, rfl, hl2, ⟨rfl, hb2⟩, q6, r6, rfl, hl6, hs6, rfl⟩ := s0
  obtain ⟨A0, c0, rfl, _, _, _⟩ := id hs6
  obtain ⟨_, hr0, hc0, _, hw0⟩ := sees_ints hs6
  have h : List.length d * 1 ≤ 140737488351232 := y0.2.2.1.1
  have g1 := bounds_u32 hb1
  have g3 := bounds_u64 hb2
  exact ⟨er, ck, A0, c0, d, by apply Array.toList_inj.1; rw [hcs]; rfl, by dsimp only at g1; omega, by dsimp only at g3; omega, hr0, hc0, kv_byt hw0, by omega⟩
end Go.Proofs.Ytbfcnbggkcaolaa
