/-
  The walk of OrderBack.
-/
import Derived.Test.YtkjlhifppjgieaaPutAny
import Derived.Test.YtkjlhifppjgieaaCmp
import Derived.Test.YtkjlhifppjgieaaLaw01
import Derived.Test.YtkjlhifppjgieaaView
import Derived.Deep.QuietTactic
import Derived.BigQuiet
namespace Go.Proofs.Ytkjlhifppjgieaa
open Go.RowKit
set_option linter.unusedVariables false
set_option linter.unusedSimpArgs false

theorem mask' (x : Int) (s : Nat) (h1 : 1 ≤ s) (h8 : s ≤ 8) (hx : 0 ≤ x) (hx1 : x ≤ 18446744073709551615) : IntKind.u64.wrap (x * 2 ^ (64 - 8 * s)) / 2 ^ (64 - 8 * s) = x % 256 ^ s := by
  rw [IntKind.wrap_u64]
  have h : s = 1 ∨ s = 2 ∨ s = 3 ∨ s = 4 ∨ s = 5 ∨ s = 6 ∨ s = 7 ∨ s = 8 := by omega
  rcases h with rfl | rfl | rfl | rfl | rfl | rfl | rfl | rfl <;> simp <;> omega
theorem emod_self_le {n p : Int} (hn : 0 ≤ n) (hp : 0 < p) : n % p ≤ n := by
  have h1 := Int.mul_ediv_add_emod n p
  have h2 : 0 ≤ p * (n / p) := Int.mul_nonneg (by omega) (Int.ediv_nonneg hn (by omega))
  omega
theorem be_mod (s : Nat) (x : Int) : be s (x % 256 ^ s) = be s x := by
  have h1 := be_num (be s (x % 256 ^ s)) (be_byt _ _)
  have h2 := be_num (be s x) (be_byt _ _)
  rw [be_len, num_be] at h1 h2
  rw [← h1, ← h2, Int.emod_emod_of_dvd _ (Int.dvd_refl _)]
theorem be_inj {s : Nat} {x y : Int} (h : be s x = be s y) : x % 256 ^ s = y % 256 ^ s := by rw [← num_be, ← num_be, h]

theorem sees_two {h : Array Obj} {cs0 : Array Value} {x0 : Sh.V (.agg (.pair (.slice (.int .u8) 1) (.pair (.int .u64) (.pair (.int .u64) (.pair (.int .i64) .unit)))))} (s0 : Sees h (.agg (.pair (.slice (.int .u8) 1) (.pair (.int .u64) (.pair (.int .u64) (.pair (.int .i64) .unit))))) cs0.toList x0) (y0 : Light (.agg (.pair (.slice (.int .u8) 1) (.pair (.int .u64) (.pair (.int .u64) (.pair (.int .i64) .unit))))) x0) :
    ∃ (A0 : Option Addr) (c0 : Nat) (b0 : List Int) (n m z : Int), cs0 = #[.slice A0 b0.length c0, .int .u64 n, .int .u64 m, .int .i64 z] ∧ Rd h (fun b => b < h.size) 1 A0 b0.length (by8 b0) ∧ b0.length ≤ c0 ∧ Byt b0 ∧
      (0 ≤ n ∧ n ≤ 18446744073709551615) ∧ (0 ≤ m ∧ m ≤ 18446744073709551615) ∧ b0.length ≤ 140737488351232 := by
  obtain ⟨b0, n, m, z, _⟩ := x0
  obtain ⟨q1, r1, hcs, hl1, hs1, q2, r2, rfl, hl2, ⟨rfl, hn⟩, q3, r3, rfl, hl3, ⟨rfl, hm⟩, q4, r4, rfl, hl4, ⟨rfl, hz⟩, rfl⟩ := s0
  obtain ⟨A0, c0, rfl, _, _, _⟩ := id hs1
  obtain ⟨_, hr0, hc0, _, hw0⟩ := sees_ints hs1
  have h : List.length b0 * 1 ≤ 140737488351232 := y0.1.1
  exact ⟨A0, c0, b0, n, m, z, by apply Array.toList_inj.1; rw [hcs]; rfl, hr0, hc0, kv_byt hw0, bounds_u64 hn, bounds_u64 hm, by omega⟩

set_option maxHeartbeats 1000000 in
set_option maxRecDepth 100000 in
theorem orderBack_walk (cs0 : Array Value) (x0 : Sh.V (.agg (.pair (.slice (.int .u8) 1) (.pair (.int .u64) (.pair (.int .u64) (.pair (.int .i64) .unit)))))) (w : World) (s0 : Sees w.heap (.agg (.pair (.slice (.int .u8) 1) (.pair (.int .u64) (.pair (.int .u64) (.pair (.int .i64) .unit))))) cs0.toList x0) (y0 : Light (.agg (.pair (.slice (.int .u8) 1) (.pair (.int .u64) (.pair (.int .u64) (.pair (.int .i64) .unit))))) x0) :
    Calls Try.prog 9 #[.agg cs0] w fun e w' => e = .returned (.bool true) ∧ Below w.heap.size w w' := by
  obtain ⟨A0, c0, b0, n, m, z, rfl, hr0, hc0, hb, ⟨hn0, hn1⟩, ⟨hm0, hm1⟩, ly0⟩ := sees_two s0 y0
  have hb0 := hid hb
  have HR0 := hid (fun L => Rb.came (L := L) hr0)
  clear hr0 hb s0 y0
  generalize hN0 : List.length b0 = N0 at *
  have HN0 := hid hN0
  clear hN0
  have HS := (Sep.start w).alloc #[.slice A0 N0 c0, .int .u64 n, .int .u64 m, .int .i64 z] 57
  have k0 := HS.blk_cell 0
  have k1 := HS.blk_cell 1
  have k2 := HS.blk_cell 2
  have k3 := HS.blk_cell 3
  simp at k0 k1 k2 k3
  go_enter Try.func9, Try.ntmps9
  go_wp2
  go_quiet (fail)
  have HS1 := HS.drewN nq
  go_wp2_with fail
  refine (put_calls HS1 (HR0.out _) (by omega) hn0 (by omega)).mono ?_
  rintro e w2 ⟨A2, c2, rfl, HS2⟩
  by_cases h18 : 1 ≤ z ∧ z ≤ 8
  · obtain ⟨s, rfl⟩ := Int.eq_ofNat_of_zero_le (show 0 ≤ z by omega)
    have hs1 : 1 ≤ s := by omega
    have hs8 : s ≤ 8 := by omega
    have e1 : putL b0 n s = b0 ++ be s n := by unfold putL; rw [if_pos h18, Int.toNat_natCast]
    rw [e1, show (b0 ++ be s n).length = N0 + s by simp [be_len, HN0.out]] at HS2 ⊢
    have hle2 := own_le HS2
    have HX : Aside ((b0 ++ be s n).drop N0 = be s n) := ⟨by rw [List.drop_append, HN0.out, Nat.sub_self, List.drop_zero, List.drop_of_length_le (by have := HN0.out; omega)]; rfl⟩
    have hpos : (0 : Int) < 256 ^ s := Int.pow_pos (by decide)
    have hn2 := Int.emod_nonneg n (show (256 : Int) ^ s ≠ 0 by omega)
    have hm2 := Int.emod_nonneg m (show (256 : Int) ^ s ≠ 0 by omega)
    have hn3 : n % 256 ^ s ≤ n := emod_self_le hn0 hpos
    have hm3 : m % 256 ^ s ≤ m := emod_self_le hm0 hpos
    have hnum : num (((b0 ++ be s n).drop N0).take s) = n % 256 ^ s := by rw [HX.out, List.take_of_length_le (by rw [be_len]; exact Nat.le_refl _), num_be]
    have hbn : num (be s (n % 256 ^ s)) = n % 256 ^ s := by rw [be_mod, num_be]
    have hbm : num (be s (m % 256 ^ s)) = m % 256 ^ s := by rw [be_mod, num_be]
    have hM1 := mask' n s hs1 hs8 hn0 hn1
    have hM2 := mask' m s hs1 hs8 hm0 hm1
    generalize n % 256 ^ s = nn at *
    generalize m % 256 ^ s = mm at *
    have HNUM := hid hnum; have HBN := hid hbn; have HBM := hid hbm
    have hcmp := cmp_num (be_byt s nn) (be_byt s mm) (by rw [be_len, be_len])
    rw [hbn, hbm] at hcmp
    have heq : (be s nn = be s mm) ↔ nn = mm := ⟨fun e => by rw [← hbn, ← hbm, e], fun e => by rw [e]⟩
    have HEQ := hid heq; have HCMP := hid hcmp
    clear h18 e1 HX hpos hnum hbn hbm hcmp heq
    have kk : ((N0 + s : Nat) : Int) = N0 + s := by omega
    have q1 : (((N0 + s : Nat) : Int) == (N0 : Int) + (s : Int)) = true := by rw [kk, beq_self_eq_true]
    have q1' : ((N0 : Int) + (s : Int) == (N0 : Int) + (s : Int)) = true := beq_self_eq_true _
    have a1 : ¬ (s : Int) < 1 := by omega
    have a2 : ¬ 8 < (s : Int) := by omega
    have HC : Aside (Rb w (fun _ => False) [own 5 1 A2 (N0 + s) c2 (by8 (b0 ++ be s n)), blk w.heap.size 57 #[.slice A0 N0 c0, .int .u64 n, .int .u64 m, .int .i64 s]] 1 (A2.map (·.add N0)) s (by8 ((b0 ++ be s n).drop N0))) := ⟨by
      have := (Rb.i0 (w0 := w) (O := fun _ => False) (L := [blk w.heap.size 57 #[.slice A0 N0 c0, .int .u64 n, .int .u64 m, .int .i64 s]]) (e := 5) (size := 1) (A := A2) (n := N0 + s) (k := c2) (xs := by8 (b0 ++ be s n))).ktail (cap := c2) (by simp [be_len, HN0.out]) (show N0 ≤ N0 + s by omega) hle2
      rwa [if_neg (show ¬ c2 = N0 by omega), show N0 + s - N0 = s from by omega] at this⟩
    clear kk
    go_wp2_with fail
    refine (get_ok HS2 HC.out ((hb0.out.append (be_byt _ _)).drop _) (by omega) hs1 hs8 (Nat.le_refl _)).mono ?_
    rintro e w3 ⟨rfl, rfl⟩
    rw [HNUM.out]
    go_wp2_with fail
    refine (put_ok (l := []) HS2 Rb.nil (by decide) hs1 hs8 hn2 (by omega)).mono ?_
    rintro e w3 ⟨A3, c3, rfl, HS3⟩
    go_wp2_with fail
    refine (put_ok (l := []) HS3 Rb.nil (by decide) hs1 hs8 hm2 (by omega)).mono ?_
    rintro e w4 ⟨A4, c4, rfl, HS4⟩
    rw [List.nil_append, Nat.zero_add] at HS4
    rw [List.nil_append] at HS4
    go_wp2_with fail
    refine (awake_calls HS4).mono ?_
    rintro e w5 ⟨rfl, HS5⟩
    clear HS HS1 HS2 HS3 HS4
    have hn5 : (nn == nn) = true := beq_self_eq_true _
    rcases Int.lt_trichotomy nn mm with hlt | rfl | hgt
    · have d1 := HCMP.out.2 hlt
      have d2 : (nn == mm) = false := by rw [beq_eq_false_iff_ne]; omega
      have d3 : decide (be s nn = be s mm) = false := decide_eq_false fun e => by have := HEQ.out.1 e; omega
      have D3 := hid d3
      clear d3
      go_wp2_with fail
      refine (compare_calls HS5 Rb.i1 Rb.i0).mono ?_
      rintro e w6 ⟨rfl, rfl⟩
      generalize Extern.BytealgCompare.cmp (strOfNums (be s nn)) (strOfNums (be s mm)) = cv at *
      go_wp2_with fail
      refine (equal_calls HS5 Rb.i1 Rb.i0 (be_byt _ _) (be_byt _ _)).mono ?_
      rintro e w6 ⟨rfl, rfl⟩
      rw [D3.out]
      go_wp2
      go_ret
      exact ⟨rfl, HS5.below⟩
    · have d1 : ¬ Extern.BytealgCompare.cmp (strOfNums (be s nn)) (strOfNums (be s nn)) < 0 := fun h => by have := HCMP.out.1 h; omega
      have D3 := hid (decide_eq_true (rfl : be s nn = be s nn))
      go_wp2_with fail
      refine (compare_calls HS5 Rb.i1 Rb.i0).mono ?_
      rintro e w6 ⟨rfl, rfl⟩
      generalize Extern.BytealgCompare.cmp (strOfNums (be s nn)) (strOfNums (be s nn)) = cv at *
      go_wp2_with fail
      refine (equal_calls HS5 Rb.i1 Rb.i0 (be_byt _ _) (be_byt _ _)).mono ?_
      rintro e w6 ⟨rfl, rfl⟩
      rw [decide_eq_true (rfl : be s nn = be s nn)]
      go_wp2
      go_ret
      exact ⟨by simp [d1], HS5.below⟩
    · have d1 : ¬ Extern.BytealgCompare.cmp (strOfNums (be s nn)) (strOfNums (be s mm)) < 0 := fun h => by have := HCMP.out.1 h; omega
      have d2 : (nn == mm) = false := by rw [beq_eq_false_iff_ne]; omega
      have hlt' : ¬ nn < mm := by omega
      have d3 : decide (be s nn = be s mm) = false := decide_eq_false fun e => by have := HEQ.out.1 e; omega
      have D3 := hid d3
      clear d3
      go_wp2_with fail
      refine (compare_calls HS5 Rb.i1 Rb.i0).mono ?_
      rintro e w6 ⟨rfl, rfl⟩
      generalize Extern.BytealgCompare.cmp (strOfNums (be s nn)) (strOfNums (be s mm)) = cv at *
      go_wp2_with fail
      refine (equal_calls HS5 Rb.i1 Rb.i0 (be_byt _ _) (be_byt _ _)).mono ?_
      rintro e w6 ⟨rfl, rfl⟩
      rw [D3.out]
      go_wp2
      go_ret
      exact ⟨rfl, HS5.below⟩
  · have e1 : putL b0 n z = b0 := by unfold putL; rw [if_neg h18]
    rw [e1, HN0.out] at HS2 ⊢
    have key : z < 1 ∨ (¬ z < 1 ∧ 8 < z) := by omega
    rcases key with k | ⟨k, k'⟩
    all_goals
      go_wp2_with fail
      refine (awake_calls HS2).mono ?_
      rintro e w3 ⟨rfl, HS3⟩
      go_wp2_with fail
      refine (equal_calls HS3 Rb.i0 (HR0.out _) hb0.out hb0.out).mono ?_
      rintro e w4 ⟨rfl, rfl⟩
      rw [decide_eq_true (rfl : (show List Int from b0) = b0)]
      go_wp2
      go_ret
      exact ⟨rfl, HS3.below⟩
end Go.Proofs.Ytkjlhifppjgieaa
