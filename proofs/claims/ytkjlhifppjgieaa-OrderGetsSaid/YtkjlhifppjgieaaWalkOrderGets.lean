/-
  The walk of OrderGets.
-/
import Derived.Test.YtkjlhifppjgieaaRefA
import Derived.Test.YtkjlhifppjgieaaLaw01
import Derived.Test.YtkjlhifppjgieaaView
namespace Go.Proofs.Ytkjlhifppjgieaa
open Go.RowKit
set_option linter.unusedVariables false
set_option linter.unusedSimpArgs false

set_option maxHeartbeats 400000 in
theorem orderGets_walk (A0 : Option Addr) (n0 c0 : Nat) (a1 : Int) (x0 : Sh.V (.slice (.int .u8) 1)) (x1 : Sh.V (.int .i64)) (w : World) (s0 : Sees w.heap (.slice (.int .u8) 1) [.slice A0 n0 c0] x0) (s1 : Sees w.heap (.int .i64) [.int .i64 a1] x1) (y0 : Light (.slice (.int .u8) 1) x0) (y1 : Light (.int .i64) x1) :
    Calls Try.prog 3 #[.slice A0 n0 c0, .int .i64 a1] w fun e w' => e = .returned (.bool true) ∧ Below w.heap.size w w' := by
  obtain ⟨hn, hrd, hc, hm, hw⟩ := sees_ints s0
  have hb := kv_byt hw
  have HS := Sep.start w
  have hr : Rb w (fun _ => False) [] 1 A0 n0 (by8 x0) := Rb.came hrd
  have HN := hid hn
  clear hn
  by_cases h18 : 1 ≤ a1 ∧ a1 ≤ 8
  · by_cases hsh : (n0 : Int) < a1
    · go_enter Try.func3, Try.ntmps3
      go_wp2_with fail
      refine (get_short A0 n0 c0 a1 w h18 hsh).mono ?_
      rintro e w1 ⟨rfl, rfl⟩
      go_wp2_with fail
      refine (rget_short A0 n0 c0 a1 w h18 hsh).mono ?_
      rintro e w1 ⟨rfl, rfl⟩
      go_wp2_with fail
      refine (awake_calls HS).mono ?_
      rintro e w2 ⟨rfl, HS2⟩
      go_wp2
      go_ret
      exact ⟨rfl, HS2.below⟩
    · obtain ⟨s, rfl⟩ := Int.eq_ofNat_of_zero_le (show 0 ≤ a1 by omega)
      go_enter Try.func3, Try.ntmps3
      go_wp2_with fail
      refine (get_ok HS hr hb hc (by omega) (by omega) (by omega)).mono ?_
      rintro e w1 ⟨rfl, rfl⟩
      go_wp2_with fail
      refine (rget_ok HS hr hb (by omega) (by omega) (by omega)).mono ?_
      rintro e w1 ⟨rfl, rfl⟩
      go_wp2_with fail
      refine (awake_calls HS).mono ?_
      rintro e w2 ⟨rfl, HS2⟩
      go_wp2
      go_ret
      exact ⟨rfl, HS2.below⟩
  · go_enter Try.func3, Try.ntmps3
    go_wp2_with fail
    refine (get_size A0 n0 c0 a1 w h18).mono ?_
    rintro e w1 ⟨rfl, rfl⟩
    go_wp2_with fail
    refine (rget_size A0 n0 c0 a1 w h18).mono ?_
    rintro e w1 ⟨rfl, rfl⟩
    go_wp2_with fail
    refine (awake_calls HS).mono ?_
    rintro e w2 ⟨rfl, HS2⟩
    go_wp2
    go_ret
    exact ⟨rfl, HS2.below⟩
end Go.Proofs.Ytkjlhifppjgieaa
