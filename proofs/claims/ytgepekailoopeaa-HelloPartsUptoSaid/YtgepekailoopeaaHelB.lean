/-
  Contracts of hello.PutInfo (where it goes well), PutName, codes.Export.
-/
import Derived.Test.YtgepekailoopeaaHelA
import Derived.Test.YtgepekailoopeaaAppStr
import Derived.Laws.StructEq
namespace Go.Proofs.Ytgepekailoopeaa
open Go.RowKit
set_option linter.unusedVariables false
set_option linter.unusedSimpArgs false
theorem eqArr3 (a b c d e f : Int) (w : World) : (Op.equalIn 9999 100 (.agg #[.int .u32 a, .int .u32 b, .int .u32 c]) (.agg #[.int .u32 d, .int .u32 e, .int .u32 f])).run Try.prog w = .ok (a == d && b == e && c == f) w := by
  have u3 := Try.underlying22
  have a3 := Try.isAgg22
  have z3 := Try.sizeOf22
  rw [show (9999 : Nat) = 9998 + 1 from rfl, Op.equalIn]
  simp only [Sem.run_bind, run_underlying Try.underlying100, Result.andThen_ok]
  simp only [Std.Legacy.Range.forIn_eq_forIn_range', Std.Legacy.Range.size, Nat.sub_zero, Nat.add_sub_cancel, Nat.div_one, List.range'_succ, List.range'_zero, List.forIn_cons, List.forIn_nil]
  go_simp
  by_cases h1 : a = d <;> by_cases h2 : b = e <;> by_cases h3 : c = f <;> simp [h1, h2, h3]
section
variable {w0 w : World} {O : Nat → Prop} {L : List Asr}

theorem export_calls {fl : Bool} {a b d e : Int} {nm : ByteArray} (HS : Sep w0 w O L) :
    Calls Try.prog 83 #[.agg #[.int .u64 a, .string nm, .int .u64 b, .int .u64 d, .bool fl, .int .u64 e]] w fun e w' => e = .returned (.int .u16 (if fl then 111 else 109)) ∧ Sep w0 w' O L := by
  have HSa := HS.alloc #[.int .u64 a, .string nm, .int .u64 b, .int .u64 d, .bool fl, .int .u64 e] 60
  have c4 := HSa.blk_at 4 rfl
  cases fl
  all_goals
    go_enter Try.func83, Try.ntmps83
    go_wp2
    go_ret
    exact ⟨rfl, HSa.drop⟩

set_option maxHeartbeats 4000000 in
set_option maxRecDepth 100000 in
theorem putinfo0_ok {size flags : Int} (HS : Sep w0 w O L) (s0 : 0 ≤ size) (s1 : size < 18446744073709551616) (f0 : 0 ≤ flags) (f1 : flags < 65536) :
    Calls Try.prog 49 #[.agg #[.int .u16 0, .int .u64 size, .int .u16 flags, .string eStr, .int .u32 0, .int .u32 0, .int .u32 0]] w fun e w' => ∃ A c, e = .returned (.tuple #[.slice A 12 c, .int .i64 0]) ∧ Sep w0 w' O (own 5 1 A 12 c (by8 (be 2 0 ++ be 8 size ++ be 2 flags)) :: L) := by
  have y1 : IntKind.u64.wrap flags = flags := by rw [IntKind.wrap_u64]; omega
  have HSa := HS.alloc #[.int .u16 0, .int .u64 size, .int .u16 flags, .string eStr, .int .u32 0, .int .u32 0, .int .u32 0] 104
  go_enter Try.func49, Try.ntmps49
  go_wp2_with fail
  refine (put_ok (l := []) (x := 0) (s := 2) HSa Rb.nil (by decide) (by decide) (by decide) (by decide) (by decide)).mono ?_
  rintro e w1 ⟨A1, c1, rfl, HS1⟩
  have HS2 := HS1.alloc #[.int .u16 0, .int .u64 0, .int .u16 0, .string eStr, .int .u32 0, .int .u32 0, .int .u32 0] 104
  have q0 := HS1.up1.blk_at 0 rfl
  have q1 := HS1.up1.blk_at 1 rfl
  have q2 := HS1.up1.blk_at 2 rfl
  have q3 := HS1.up1.blk_at 3 rfl
  have q4 := HS1.up1.blk_at 4 rfl
  have q5 := HS1.up1.blk_at 5 rfl
  have q6 := HS1.up1.blk_at 6 rfl
  have HS2' := HS1.alloc #[.int .u16 0, .int .u64 size, .int .u16 flags, .string eStr, .int .u32 0, .int .u32 0, .int .u32 0] 104
  have z0 := HS2.up2.blk_at 0 rfl
  have z0' := HS2'.up2.blk_at 0 rfl
  go_upto_region 8 with (fail)
  have Z0 : Aside ((w1.alloc (.cells #[.int .u16 0, .int .u64 0, .int .u16 0, .string eStr, .int .u32 0, .int .u32 0, .int .u32 0] 104)).drew.cell? ⟨w.heap.size, 1, none⟩ = some (.int .u64 size) ∧ (w1.alloc (.cells #[.int .u16 0, .int .u64 0, .int .u16 0, .string eStr, .int .u32 0, .int .u32 0, .int .u32 0] 104)).drew.cell? ⟨w.heap.size, 2, none⟩ = some (.int .u16 flags)) := ⟨HS2.drew.up2.blk_at 1 rfl, HS2.drew.up2.blk_at 2 rfl⟩
  go_region_held_law (fun w' => w'.cell? ⟨w.heap.size, 1, none⟩ = some (.int .u64 size) ∧ w'.cell? ⟨w.heap.size, 2, none⟩ = some (.int .u16 flags)) (first | with_reducible exact Z2.out | with_reducible exact Z1.out | with_reducible exact Z0.out)
    (first
      | (go_at_call 75; refine (put_ok (x := flags) (s := 2) HS3 Rb.i0 (by decide) (by decide) (by decide) f0 (by omega)).mono ?_; rintro e w4 ⟨A4, c4, rfl, HS4⟩; have Z2 : Aside (w4.cell? ⟨w.heap.size, 1, none⟩ = some (.int .u64 size) ∧ w4.cell? ⟨w.heap.size, 2, none⟩ = some (.int .u16 flags)) := ⟨HS4.up4.blk_at 1 rfl, HS4.up4.blk_at 2 rfl⟩)
      | (go_at_call 75; refine (put_ok (x := size) (s := 8) HS2.drew Rb.i1 (by decide) (by decide) (by decide) s0 s1).mono ?_; rintro e w3 ⟨A3, c3, rfl, HS3⟩; have Z1 : Aside (w3.cell? ⟨w.heap.size, 1, none⟩ = some (.int .u64 size) ∧ w3.cell? ⟨w.heap.size, 2, none⟩ = some (.int .u16 flags)) := ⟨HS3.up3.blk_at 1 rfl, HS3.up3.blk_at 2 rfl⟩))
  all_goals
    clear q0 q1 q2 q3 q4 q5 q6 z0 z0'
    have p0 := HS4.up2.blk_at 0 rfl
    have p1 := HS4.up2.blk_at 1 rfl
    have p2 := HS4.up2.blk_at 2 rfl
    have p3 := HS4.up2.blk_at 3 rfl
    have p4 := HS4.up2.blk_at 4 rfl
    have p5 := HS4.up2.blk_at 5 rfl
    have p6 := HS4.up2.blk_at 6 rfl
    have q3 := HS4.up4.blk_at 3 rfl
    have hq := fun w => eqArr3 0 0 0 0 0 0 w
    go_wp2
    go_ret2
    exact ⟨A4, c4, rfl, HS4.sel 5 [0]⟩
end
end Go.Proofs.Ytgepekailoopeaa
