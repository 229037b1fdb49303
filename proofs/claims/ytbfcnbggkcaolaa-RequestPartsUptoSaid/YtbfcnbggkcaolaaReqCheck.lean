/-
  Contract of request.Check.
-/
import Derived.Test.YtbfcnbggkcaolaaReqChk
import Derived.Test.YtbfcnbggkcaolaaTapeAny
namespace Go.Proofs.Ytbfcnbggkcaolaa
open Go.RowKit
set_option linter.unusedVariables false
set_option linter.unusedSimpArgs false

def firstBad : List Int → Int
  | [] => 0
  | x :: l => if x = 0 then firstBad l else x
def reqCheck (fl kd off len size : Int) (fixed : Bool) : Int := firstBad [chk kd fl, rPlain kd off len, rLong kd len, rFixed kd fixed, rWithin kd off len size]

theorem run_index_arr {P : Program} (t e : TypeId) (n : Nat) (d : TypeDesc) (cs : Array Value) (k : IntKind) (i : Int) (v : Value) (h : P.underlying t = some (.array n e)) (he : P.underlying e = some d)
    (hd : (match d with | .struct _ | .array _ _ => true | _ => false) = false) (hi : (P.info? e).map (·.size) = some 1) (hb : 0 ≤ i ∧ i < n) (hv : cs[i.toNat]? = some v) (w : World) : (Instr.index t (.agg cs) (.int k i)).run P w = .ok v w := by
  have hagg : (isAgg e).run P w = .ok false w := by
    unfold isAgg
    rw [Sem.run_bind, run_underlying he w]
    cases d <;> simp_all
  cases hq : P.info? e with
  | none => simp [hq] at hi
  | some j =>
    have hs : j.size = 1 := by simpa [hq] using hi
    simp [Instr.index, asIntOf, Sem.run_bind, run_underlying h, hb, part, hagg, sizeOf, typeInfo, hq, hs, hv]
abbrev rulesA : Array Value := #[.func (.func 27) #[] #[], .func (.func 28) #[] #[], .func (.func 29) #[] #[], .func (.func 30) #[] #[], .func (.func 31) #[] #[]]
theorem info_rule : (Try.prog.info? 67).map (·.size) = some 1 := by kernel_rfl
theorem rule_at (i : Int) (v : Value) (hb : 0 ≤ i ∧ i < 5) (hv : rulesA[i.toNat]? = some v) (w : World) : (Instr.index 71 (.agg rulesA) (.int .i64 i)).run Try.prog w = .ok v w :=
  run_index_arr _ _ 5 _ _ .i64 i v Try.underlying71 Try.underlying67 rfl info_rule hb hv w

section
variable {w0 w : World} {O : Nat → Prop} {L : List Asr}
theorem Sep.allocB (h : Sep w0 w O L) (cs : Array Value) (t : TypeId) {B : Nat} (hB : w.heap.size = B) : Sep w0 (w.alloc (.cells cs t)) O (blk B t cs :: L) := by
  subst hB; exact h.alloc cs t

variable {fl kd ck off len : Int} {D : Value} {id : Int} {nm : ByteArray} {size root : Int} {fixed : Bool} {orig : Int}

set_option maxHeartbeats 2000000 in
theorem check_calls (HS : Sep w0 w O L) (f0 : -9223372036854775808 ≤ fl) (f1 : fl < 9223372036854775808) (l0 : 0 ≤ len) (l1 : len < 4294967296) (h0 : 0 ≤ off) (h1 : off < 18446744073709551616) (h2 : 0 ≤ size) (h3 : size < 18446744073709551616) :
    Calls Try.prog 10 #[reqV fl kd ck off len D, volV id nm size root fixed orig] w fun e w' => e = .returned (.int .i64 (reqCheck fl kd off len size fixed)) ∧ Sep w0 w' O L := by
  have HSb := (HS.alloc #[.int .i64 fl, .int .i64 kd, .int .u64 ck, .int .u64 off, .int .u32 len, D] 26).allocB #[.int .u64 id, .string nm, .int .u64 size, .int .u64 root, .bool fixed, .int .u64 orig] 28 (B := w.heap.size + 1) (by simp)
  have hsz : ∃ B, B = w.heap.size := ⟨_, rfl⟩
  obtain ⟨res, hres⟩ : ∃ r, r = reqCheck fl kd off len size fixed := ⟨_, rfl⟩
  rw [← hres]
  have HB : Aside (res = firstBad [chk kd fl, rPlain kd off len, rLong kd len, rFixed kd fixed, rWithin kd off len size]) := hid hres
  clear hres
  go_enter Try.func10, Try.ntmps10
  go_wp2_with fail
  go_loopw [9] (fun i wr => ∃ k : Nat, k ≤ 5 ∧ i = .int .i64 k ∧ Aside (res = firstBad ([chk kd fl, rPlain kd off len, rLong kd len, rFixed kd fixed, rWithin kd off len size].drop k)) ∧
    Sep w0 wr O (blk (w.heap.size + 1) 28 #[.int .u64 id, .string nm, .int .u64 size, .int .u64 root, .bool fixed, .int .u64 orig] :: blk w.heap.size 26 #[.int .i64 fl, .int .i64 kd, .int .u64 ck, .int .u64 off, .int .u32 len, D] :: L)) (fun i _ => 5 - (intOf i).toNat)
  case atStart => exact ⟨0, Nat.zero_le _, rfl, HB, HSb⟩
  case round =>
    obtain ⟨k, hk, rfl, HR, HS1⟩ := hrel
    have a0 := HS1.blk_at 0 rfl
    have a1 := HS1.blk_at 1 rfl
    have a2 := HS1.blk_at 2 rfl
    have a3 := HS1.blk_at 3 rfl
    have a4 := HS1.blk_at 4 rfl
    have a5 := HS1.blk_at 5 rfl
    have b0 := HS1.up1.blk_at 0 rfl
    have b1 := HS1.up1.blk_at 1 rfl
    have b2 := HS1.up1.blk_at 2 rfl
    have b3 := HS1.up1.blk_at 3 rfl
    have b4 := HS1.up1.blk_at 4 rfl
    have b5 := HS1.up1.blk_at 5 rfl
    have hk' : k = 0 ∨ k = 1 ∨ k = 2 ∨ k = 3 ∨ k = 4 ∨ k = 5 := by omega
    rcases hk' with rfl | rfl | rfl | rfl | rfl | rfl
    case inr.inr.inr.inr.inr =>
      go_wp2
      go_ret
      exact ⟨by rw [HR.out]; rfl, HS1.drop.drop⟩
    case inl =>
      have hix := rule_at 0 _ (by decide) rfl wr
      go_wp2_with fail
      refine (rule_code HS1 f0 f1).mono ?_
      rintro e w1 ⟨rfl, HS2⟩
      have HR' : Aside (res = if chk kd fl = 0 then firstBad [rPlain kd off len, rLong kd len, rFixed kd fixed, rWithin kd off len size] else chk kd fl) := HR
      clear HR HB
      generalize chk kd fl = v at *
      by_cases hv : v = 0
      · have hv' : (v != 0) = false := by simp [hv]
        have HV := hid hv
        clear hv
        go_wp2
        go_roundw
        case rel => exact ⟨1, by decide, rfl, ⟨by rw [HR'.out, if_pos HV.out]; rfl⟩, HS2⟩
        case measure => simp [intOf]
      · have hv' : (v != 0) = true := bne_iff_ne.2 hv
        have HV := hid hv
        clear hv
        go_wp2
        go_ret
        exact ⟨by rw [HR'.out, if_neg HV.out]; rfl, HS2.drop.drop⟩
    case inr.inl =>
      have hix := rule_at 1 _ (by decide) rfl wr
      go_wp2_with fail
      refine (rule_plain HS1).mono ?_
      rintro e w1 ⟨rfl, HS2⟩
      have HR' : Aside (res = if rPlain kd off len = 0 then firstBad [rLong kd len, rFixed kd fixed, rWithin kd off len size] else rPlain kd off len) := HR
      clear HR HB
      generalize rPlain kd off len = v at *
      by_cases hv : v = 0
      · have hv' : (v != 0) = false := by simp [hv]
        have HV := hid hv
        clear hv
        go_wp2
        go_roundw
        case rel => exact ⟨2, by decide, rfl, ⟨by rw [HR'.out, if_pos HV.out]; rfl⟩, HS2⟩
        case measure => simp [intOf]
      · have hv' : (v != 0) = true := bne_iff_ne.2 hv
        have HV := hid hv
        clear hv
        go_wp2
        go_ret
        exact ⟨by rw [HR'.out, if_neg HV.out]; rfl, HS2.drop.drop⟩
    case inr.inr.inl =>
      have hix := rule_at 2 _ (by decide) rfl wr
      go_wp2_with fail
      refine (rule_long HS1).mono ?_
      rintro e w1 ⟨rfl, HS2⟩
      have HR' : Aside (res = if rLong kd len = 0 then firstBad [rFixed kd fixed, rWithin kd off len size] else rLong kd len) := HR
      clear HR HB
      generalize rLong kd len = v at *
      by_cases hv : v = 0
      · have hv' : (v != 0) = false := by simp [hv]
        have HV := hid hv
        clear hv
        go_wp2
        go_roundw
        case rel => exact ⟨3, by decide, rfl, ⟨by rw [HR'.out, if_pos HV.out]; rfl⟩, HS2⟩
        case measure => simp [intOf]
      · have hv' : (v != 0) = true := bne_iff_ne.2 hv
        have HV := hid hv
        clear hv
        go_wp2
        go_ret
        exact ⟨by rw [HR'.out, if_neg HV.out]; rfl, HS2.drop.drop⟩
    case inr.inr.inr.inl =>
      have hix := rule_at 3 _ (by decide) rfl wr
      go_wp2_with fail
      refine (rule_fixed HS1).mono ?_
      rintro e w1 ⟨rfl, HS2⟩
      have HR' : Aside (res = if rFixed kd fixed = 0 then firstBad [rWithin kd off len size] else rFixed kd fixed) := HR
      clear HR HB
      generalize rFixed kd fixed = v at *
      by_cases hv : v = 0
      · have hv' : (v != 0) = false := by simp [hv]
        have HV := hid hv
        clear hv
        go_wp2
        go_roundw
        case rel => exact ⟨4, by decide, rfl, ⟨by rw [HR'.out, if_pos HV.out]; rfl⟩, HS2⟩
        case measure => simp [intOf]
      · have hv' : (v != 0) = true := bne_iff_ne.2 hv
        have HV := hid hv
        clear hv
        go_wp2
        go_ret
        exact ⟨by rw [HR'.out, if_neg HV.out]; rfl, HS2.drop.drop⟩
    case inr.inr.inr.inr.inl =>
      have hix := rule_at 4 _ (by decide) rfl wr
      go_wp2_with fail
      refine (rule_within HS1 l0 l1 h0 h1 h2 h3).mono ?_
      rintro e w1 ⟨rfl, HS2⟩
      have HR' : Aside (res = if rWithin kd off len size = 0 then firstBad [] else rWithin kd off len size) := HR
      clear HR HB
      generalize rWithin kd off len size = v at *
      by_cases hv : v = 0
      · have hv' : (v != 0) = false := by simp [hv]
        have HV := hid hv
        clear hv
        go_wp2
        go_roundw
        case rel => exact ⟨5, by decide, rfl, ⟨by rw [HR'.out, if_pos HV.out]; rfl⟩, HS2⟩
        case measure => simp [intOf]
      · have hv' : (v != 0) = true := bne_iff_ne.2 hv
        have HV := hid hv
        clear hv
        go_wp2
        go_ret
        exact ⟨by rw [HR'.out, if_neg HV.out]; rfl, HS2.drop.drop⟩
end
end Go.Proofs.Ytbfcnbggkcaolaa
