/-
  Commands that come in.
-/
import Derived.Test.YtankfmfenbhkgaaNum
import Derived.Test.YtankfmfenbhkgaaView
namespace Go.Proofs.Ytankfmfenbhkgaa
open Go.RowKit
set_option linter.unusedVariables false
set_option linter.unusedSimpArgs false
theorem sees_adm {h : Array Obj} {cs0 : Array Value} {x0 : Sh.V (.agg (.pair (.int .i64) (.pair (.int .u64) (.pair .str (.pair .str (.pair (.int .u64) (.pair .bool .unit)))))))}
    (s0 : Sees h (.agg (.pair (.int .i64) (.pair (.int .u64) (.pair .str (.pair .str (.pair (.int .u64) (.pair .bool .unit))))))) cs0.toList x0)
    (y0 : Light (.agg (.pair (.int .i64) (.pair (.int .u64) (.pair .str (.pair .str (.pair (.int .u64) (.pair .bool .unit))))))) x0) :
    ∃ (kd ck : Int) (nm au : ByteArray) (size : Int) (fixed : Bool), cs0 = #[.int .i64 kd, .int .u64 ck, .string nm, .string au, .int .u64 size, .bool fixed] ∧
      (-9223372036854775808 ≤ kd ∧ kd < 9223372036854775808) ∧ (0 ≤ ck ∧ ck < 18446744073709551616) ∧ (0 ≤ size ∧ size < 18446744073709551616) ∧ nm.size ≤ 140737488351232 ∧ au.size ≤ 140737488351232 := by
  obtain ⟨kd, ck, nm, au, size, fixed, _⟩ := x0
  obtain ⟨q1, r1, hcs, hl1, ⟨rfl, hb1⟩, q2, r2, rfl, hl2, ⟨rfl, hb2⟩, q3, r3, rfl, hl3, ⟨rfl, _⟩, q4, r4, rfl, hl4, ⟨rfl, _⟩, q5, r5, rfl, hl5, ⟨rfl, hb5⟩, q6, r6, rfl, hl6, rfl, rfl⟩ := s0
  have g1 := bounds_i64 hb1
  have g2 := bounds_u64 hb2
  have g5 := bounds_u64 hb5
  exact ⟨kd, ck, nm, au, size, fixed, by apply Array.toList_inj.1; rw [hcs]; rfl, by dsimp only at g1; omega, by dsimp only at g2; omega, by dsimp only at g5; omega, y0.2.2.1, y0.2.2.2.1⟩
end Go.Proofs.Ytankfmfenbhkgaa
