/-
  order.Put and the reference's Put at any size: one contract each.
-/
import Derived.Test.YtkjlhifppjgieaaRefB
import Derived.Test.YtkjlhifppjgieaaByt
namespace Go.Proofs.Ytkjlhifppjgieaa
open Go.RowKit
set_option linter.unusedVariables false
set_option linter.unusedSimpArgs false

/-- what Put answers -/
def putL (l : List Int) (x s : Int) : List Int := if 1 ≤ s ∧ s ≤ 8 then l ++ be s.toNat x else l
theorem putL_byt {l : List Int} {x s : Int} (h : Byt l) : Byt (putL l x s) := by
  unfold putL; split
  · exact h.append (be_byt _ _)
  · exact h
theorem putL_len {l : List Int} {x s : Int} : l.length ≤ (putL l x s).length ∧ (putL l x s).length ≤ l.length + 8 := by
  unfold putL; split
  · rename_i h; simp [be_len]; omega
  · omega
section
variable {w0 w : World} {O : Nat → Prop} {L : List Asr}
theorem put_calls {A : Option Addr} {n c : Nat} {l : List Int} {x s : Int} (HS : Sep w0 w O L) (hr : Rb w0 O L 1 A n (by8 l)) (hn : n ≤ 140737488355320) (hx0 : 0 ≤ x) (hx1 : x < 18446744073709551616) :
    Calls Try.prog 14 #[.slice A n c, .int .u64 x, .int .i64 s] w fun e w' => ∃ A' c', e = .returned (.slice A' (putL l x s).length c') ∧ Sep w0 w' O (own 5 1 A' (putL l x s).length c' (by8 (putL l x s)) :: L) := by
  have hl := hr.klen HS
  by_cases h : 1 ≤ s ∧ s ≤ 8
  · obtain ⟨k, rfl⟩ := Int.eq_ofNat_of_zero_le (show 0 ≤ s by omega)
    have e : putL l x (k : Int) = l ++ be k x := by unfold putL; rw [if_pos h, Int.toNat_natCast]
    have e2 : (l ++ be k x).length = n + k := by simp [be_len, hl]
    rw [e, e2]
    exact put_ok HS hr hn (by omega) (by omega) hx0 hx1
  · have e : putL l x s = l := by unfold putL; rw [if_neg h]
    rw [e, hl]
    exact put_bad (by8_one l) HS hr hn h
theorem rput_calls {A : Option Addr} {n c : Nat} {l : List Int} {x s : Int} (HS : Sep w0 w O L) (hr : Rb w0 O L 1 A n (by8 l)) (hn : n ≤ 140737488355320) (hx0 : 0 ≤ x) (hx1 : x < 18446744073709551616) :
    Calls Try.prog 22 #[.slice A n c, .int .u64 x, .int .i64 s] w fun e w' => ∃ A' c', e = .returned (.slice A' (putL l x s).length c') ∧ Sep w0 w' O (own 5 1 A' (putL l x s).length c' (by8 (putL l x s)) :: L) := by
  have hl := hr.klen HS
  by_cases h : 1 ≤ s ∧ s ≤ 8
  · obtain ⟨k, rfl⟩ := Int.eq_ofNat_of_zero_le (show 0 ≤ s by omega)
    have e : putL l x (k : Int) = l ++ be k x := by unfold putL; rw [if_pos h, Int.toNat_natCast]
    have e2 : (l ++ be k x).length = n + k := by simp [be_len, hl]
    rw [e, e2]
    exact rput_ok HS hr hn (by omega) (by omega) hx0 hx1
  · have e : putL l x s = l := by unfold putL; rw [if_neg h]
    rw [e, hl]
    exact rput_bad (by8_one l) HS hr hn h
end
end Go.Proofs.Ytkjlhifppjgieaa
