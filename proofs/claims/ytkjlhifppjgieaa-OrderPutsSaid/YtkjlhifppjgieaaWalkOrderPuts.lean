/-
  The walk of OrderPuts.
-/
import Derived.Test.YtkjlhifppjgieaaPutAny
import Derived.Test.YtkjlhifppjgieaaLaw01
import Derived.Test.YtkjlhifppjgieaaView
namespace Go.Proofs.Ytkjlhifppjgieaa
open Go.RowKit
set_option linter.unusedVariables false
set_option linter.unusedSimpArgs false

set_option maxHeartbeats 2000000 in
set_option maxRecDepth 100000 in
theorem orderPuts_walk (A0 : Option Addr) (n0 c0 : Nat) (a1 a2 : Int) (x0 : Sh.V (.slice (.int .u8) 1)) (x1 : Sh.V (.int .u64)) (x2 : Sh.V (.int .i64)) (w : World) (s0 : Sees w.heap (.slice (.int .u8) 1) [.slice A0 n0 c0] x0) (s1 : Sees w.heap (.int .u64) [.int .u64 a1] x1) (s2 : Sees w.heap (.int .i64) [.int .i64 a2] x2) (y0 : Light (.slice (.int .u8) 1) x0) (y1 : Light (.int .u64) x1) (y2 : Light (.int .i64) x2) :
    Calls Try.prog 6 #[.slice A0 n0 c0, .int .u64 a1, .int .i64 a2] w fun e w' => e = .returned (.bool true) ∧ Below w.heap.size w w' := by
  obtain ⟨i0, hi0, hz0, hz1, hz2⟩ := info_parts info_u8
  obtain ⟨hn0, hr0, hc0, hm0, hw0⟩ := sees_ints s0
  have hb0 := hid (kv_byt hw0)
  have ly0 : n0 ≤ 140737488351232 := by have := y0.1; omega
  obtain ⟨hs1, hs1'⟩ := s1
  have ha1 : a1 = x1 := by injection hs1 with hs1 _; injection hs1
  subst ha1
  have hb1 := bounds_u64 hs1'
  obtain ⟨hb11, hb12⟩ := hb1
  have HR0 := hid (fun L => Rb.came (L := L) hr0)
  have HN0 := hid hn0
  clear hn0 hw0 hr0 y0 y1 y2 s0 hs1 hs1' s2 hm0
  have HS := Sep.start w
  have HL0 := HS.lit #[] 5 1 0 rfl (Nat.zero_le _)
  have hrd0 := (HR0.out _).read HL0
  go_enter Try.func6, Try.ntmps6
  go_wp2_with (first
    | (at_builtin; refine wpList_append_sep rfl (.tmp 12) (.tmp 13) 22 rfl 5 i0 _ 1 1 Try.underlying22 hi0 hz0 hz1 hz2 rfl (by decide) rfl HL0 rfl hrd0 (kv_one _ _) (by simp only [maxLen]; omega) (by omega) (Nat.zero_add n0) rfl ?_; intro A1 c1 w1 HS1 hsz1; have HL1 := (HS1.lit #[.int .u8 7] 5 1 1 rfl (by decide)).up1; have hrd1 : Rd _ _ 1 _ 1 (by8 [7]) := HL1.rd1)
    | (at_builtin; refine wpList_append_sep rfl (.tmp 14) (.tmp 15) 22 rfl 5 i0 _ 1 1 Try.underlying22 hi0 hz0 hz1 hz2 rfl (by decide) rfl HL1 rfl hrd1 (kv_one _ _) (by simp only [maxLen]; omega) (by omega) rfl rfl ?_; intro A2 c2 w2 HS2 hsz2; have hle2 := own_le HS2))
  have hl0 := HN0.out
  have e2 : ([] ++ kv .u8 x0 ++ by8 [7] : List Value) = by8 (x0 ++ [7]) := by rw [List.nil_append, by8_append]
  rw [e2] at HS2
  have ht : (x0 ++ [7]).take n0 = x0 := by rw [hl0]; exact List.take_left
  have HG : ∀ L, Rb w (fun _ => False) (own 5 1 A2 (n0 + 1) c2 (by8 (x0 ++ [7])) :: L) 1 A2 n0 (by8 x0) := fun L => by
    have := (Rb.i0 (w0 := w) (O := fun _ => False) (L := L) (e := 5) (size := 1) (A := A2) (n := n0 + 1) (k := c2) (xs := by8 (x0 ++ [7]))).ktake (show n0 ≤ n0 + 1 by omega)
    rwa [ht] at this
  obtain ⟨g2, rfl⟩ := HS2.own_some (by omega)
  have h7 : (kv .u8 (x0 ++ [7]))[n0]? = some (.int .u8 7) := by rw [kv, List.map_append, List.getElem?_append_right (by simp [hl0])]; simp [hl0]
  have H7 := hid h7
  have HG' := hid HG
  clear e2 ht hl0 HG h7 HL0 HL1 hrd0 hrd1 HS1
  refine (put_calls HS2 (HG'.out _) (by omega) hb11 (by omega)).mono ?_
  rintro e w3 ⟨A3, c3, rfl, HS3⟩
  go_wp2_with fail
  refine (rput_calls HS3 (HR0.out _) (by omega) hb11 (by omega)).mono ?_
  rintro e w4 ⟨A4, c4, rfl, HS4⟩
  go_wp2_with fail
  refine (equal_calls HS4 Rb.i1 Rb.i0 (putL_byt hb0.out) (putL_byt hb0.out)).mono ?_
  rintro e w5 ⟨rfl, rfl⟩
  rw [decide_eq_true (rfl : putL x0 a1 a2 = putL x0 a1 a2)]
  go_wp2_with fail
  refine (equal_calls HS4 ((HG'.out _).cons.cons) (HR0.out _) hb0.out hb0.out).mono ?_
  rintro e w5 ⟨rfl, rfl⟩
  rw [decide_eq_true (rfl : (show List Int from x0) = x0)]
  have hc7 := (HS4.up2.own_cell (j := n0) (by omega)).trans H7.out
  have hzl : (putL x0 a1 a2).length ≤ n0 + 8 := by have := (putL_len (l := x0) (x := a1) (s := a2)).2; have := HN0.out; omega
  have HS5 := HS4.drop
  clear HS4 HS2 HS3 HS
  generalize putL x0 a1 a2 = z at *
  go_wp2
  go_loopw [46] (fun i wr => ∃ (k : Nat) (l' : List Int), k ≤ z.length ∧ i = .int .i64 k ∧ l'.length = z.length ∧ Sep w wr (fun _ => False) (own 5 1 A3 z.length c3 (by8 l') :: own 5 1 (some ⟨g2, 0, none⟩) (n0 + 1) c2 (by8 (x0 ++ [7])) :: own 5 1 (some ⟨w1.heap.size, 0, none⟩) 1 1 [.int .u8 7] :: [])) (fun i _ => z.length - (intOf i).toNat)
  case atStart => exact ⟨0, z, Nat.zero_le _, rfl, rfl, HS5⟩
  case round =>
    obtain ⟨k, l', hk, rfl, hl', HS6⟩ := hrel
    by_cases hlt : k < z.length
    · obtain ⟨g3, rfl⟩ := HS6.own_some (by omega)
      have hcell := HS6.kcell (j := k) (by omega) hl'
      have hfr := HS6.own_frozen k
      generalize l'[k]'(by omega) = y at *
      have HL' := hid hl'
      clear hl'
      go_wp2
      go_roundw
      case rel => exact ⟨k + 1, l'.set k (bits .xor .u8 y 255), by omega, by go_num, by rw [List.length_set]; exact HL'.out, by have := HS6.own_set k (.int .u8 (bits .xor .u8 y 255)); rwa [kv_set] at this⟩
      case measure => simp [intOf]; omega
    · go_wp2_with fail
      refine (awake_calls HS6).mono ?_
      rintro e w6 ⟨rfl, HS7⟩
      go_wp2_with fail
      refine (equal_calls HS7 ((HG'.out _).cons) (HR0.out _) hb0.out hb0.out).mono ?_
      rintro e w7 ⟨rfl, rfl⟩
      rw [decide_eq_true (rfl : (show List Int from x0) = x0)]
      go_wp2
      go_ret
      exact ⟨rfl, HS7.below⟩
end Go.Proofs.Ytkjlhifppjgieaa
