/-
  Contracts of cisternref22.Bytes and Num.
-/
import Derived.Test.YtankfmfenbhkgaaOrdA
import Derived.Test.YtankfmfenbhkgaaNum
import Derived.Laws.MakeOwn
import Derived.Laws.OwnMore
namespace Go.Proofs.Ytankfmfenbhkgaa
open Go.RowKit
set_option linter.unusedVariables false
set_option linter.unusedSimpArgs false

theorem be_top (j : Nat) (x : Int) : be (j + 1) x = (x / 256 ^ j % 256) :: be j x := by
  induction j generalizing x with
  | zero => simp [be]
  | succ j ih =>
    have h1 : be (j + 1 + 1) x = be (j + 1) (x / 256) ++ [x % 256] := rfl
    have h2 : be (j + 1) x = be j (x / 256) ++ [x % 256] := rfl
    rw [h1, ih, h2]
    have h3 : x / 256 / 256 ^ j = x / 256 ^ (j + 1) := by rw [Int.ediv_ediv_of_nonneg (by decide), Int.pow_succ, Int.mul_comm]
    rw [h3]; simp
theorem mk_u8 (s : Nat) (hs : s ≤ 1048576) (w : World) : (Instr.makeSlice 25 (.int .i64 s) (.int .i64 s)).run Try.prog w = .ok (.slice (some ⟨w.heap.size, 0, none⟩) s s) (w.alloc (.cells (by8 (List.replicate s 0)).toArray 5)) := by
  obtain ⟨i0, hi0, hz0, hz1, hz2⟩ := info_parts info_u8
  have h := run_makeSlice (P := Try.prog) w 25 5 i0 (.int .u8 0) Try.underlying25 hi0 hz0 .i64 .i64 s s (by omega) (by omega) (by rw [hz1]; simp; omega) (by rw [hz2]; omega) (by omega)
  rw [h, hz1]
  have e : madeCells (Value.int .u8 0).cells ((s : Int).toNat * 1) = (by8 (List.replicate s 0)).toArray := by
    apply Array.toList_inj.1
    rw [show (Value.int .u8 0).cells = #[Value.int .u8 0] from rfl, toList_madeCells_one]
    simp [kv]
  rw [e, Int.toNat_natCast]

section
variable {w0 w : World} {O : Nat → Prop} {L : List Asr}

set_option maxHeartbeats 1000000 in
theorem rbytes_calls {x : Int} {s : Nat} (HS : Sep w0 w O L) (h1 : 1 ≤ s) (hs : s ≤ 1048576) (hx0 : 0 ≤ x) (hx1 : x < 18446744073709551616) :
    Calls Try.prog 40 #[.int .u64 x, .int .i64 s] w fun e w' => ∃ A' c', e = .returned (.slice A' s c') ∧ Sep w0 w' O (own 5 1 A' s c' (by8 (be s x)) :: L) := by
  have hm := mk_u8 s hs
  have HA := HS.lit (by8 (List.replicate s 0)).toArray 5 1 s (by simp [kv]) (by simp only [maxLen]; omega)
  go_enter Try.func40, Try.ntmps40
  go_wp2_with fail
  obtain ⟨g, hg⟩ : ∃ g, g = w.heap.size := ⟨_, rfl⟩
  rw [← hg] at HA ⊢
  clear hg
  go_loopw [0, 6] (fun u i wr => ∃ (q m : Nat), q + m = s ∧ i = .int .i64 ((q : Int) - 1) ∧ u = .int .u64 (x / 256 ^ m) ∧ Sep w0 wr O (own 5 1 (some ⟨g, 0, none⟩) s s (by8 (List.replicate q 0 ++ be m x)) :: L)) (fun _ i _ => (intOf i + 1).toNat)
  case atStart => exact ⟨s, 0, rfl, rfl, by simp, by simpa [be] using HA⟩
  case round =>
    obtain ⟨q, m, hq, rfl, rfl, HS1⟩ := hrel
    rcases q with _ | q
    · obtain rfl : m = s := by omega
      go_wp2
      go_ret
      exact ⟨_, _, rfl, by simpa using HS1⟩
    · rw [show ((q + 1 : Nat) : Int) - 1 = q from by omega]
      have hy0 : 0 ≤ x / 256 ^ m := Int.ediv_nonneg hx0 (Int.pow_nonneg (by decide))
      have hy1 : x / 256 ^ m < 18446744073709551616 := Int.lt_of_le_of_lt (Int.ediv_le_self _ hx0) hx1
      have HL := hid (be_top m x)
      have HP : Aside (x / 256 ^ (m + 1) = x / 256 ^ m / 256) := ⟨by rw [Int.ediv_ediv_of_nonneg (Int.pow_nonneg (by decide)), Int.pow_succ]⟩
      generalize hyy : x / 256 ^ m = y at *
      clear hyy
      have hq1 : q < s := by omega
      have i1 : (0 : Int) ≤ q := by omega
      have i2 : (q : Int) < s := by omega
      have i3 : (0 : Int) ≤ y % 256 := by omega
      have i4 : y % 256 < 256 := by omega
      have hc0 := HS1.own_cell (j := q) hq1
      have hlen : q < (List.replicate (q + 1) (0 : Int) ++ be m x).length := by simp; omega
      obtain ⟨z0, hc⟩ : ∃ z0 : Int, wr.cell? ⟨g, q, none⟩ = some (.int .u8 z0) := ⟨_, hc0.trans (kv_get _ _ _ hlen)⟩
      clear hc0
      have hf := HS1.own_frozen q
      have HX := HS1.own_set q (.int .u8 (y % 256))
      rw [kv_set] at HX
      have e9 : (List.replicate (q + 1) (0 : Int) ++ be m x).set q (y % 256) = List.replicate q 0 ++ be (m + 1) x := by
        rw [HL.out, List.replicate_succ', List.append_assoc, List.set_append_right _ _ (by simp)]
        simp
      rw [e9] at HX
      clear e9 hlen
      go_wp2_with fail
      go_roundw
      case rel => exact ⟨q, m + 1, by omega, rfl, by rw [HP.out], HX⟩
      case measure => simp only [intOf]; omega

theorem rnum_calls {A : Option Addr} {n c : Nat} {l : List Int} (HS : Sep w0 w O L) (hr : Rb w0 O L 1 A n (by8 l)) (hb : Byt l) (h8 : n ≤ 8) :
    Calls Try.prog 35 #[.slice A n c] w fun e w' => e = .returned (.int .u64 (num l)) ∧ w = w' := by
  have hn := hr.klen HS
  go_enter Try.func35, Try.ntmps35
  go_wp2_with fail
  go_loopw [3, 4] (fun u i wr => ∃ k : Nat, k ≤ n ∧ i = .int .i64 k ∧ u = .int .u64 (num (l.take k)) ∧ wr = w) (fun _ i _ => n - (intOf i).toNat)
  case atStart => exact ⟨0, Nat.zero_le _, rfl, by simp [num], rfl⟩
  case round =>
    obtain ⟨k, hk, rfl, rfl, rfl⟩ := hrel
    by_cases hlt : k < n
    · obtain ⟨ad, y, rfl, hy, hm, hcell⟩ := hr.elemn HS hlt
      have hb1 := hb y hm
      have hb2 := num_bd (l.take k) (hb.take k)
      have hp : (256 : Int) ^ (l.take k).length ≤ 72057594037927936 := by
        have hl : (l.take k).length ≤ 7 := by rw [List.length_take]; omega
        generalize (l.take k).length = z at *
        have : z = 0 ∨ z = 1 ∨ z = 2 ∨ z = 3 ∨ z = 4 ∨ z = 5 ∨ z = 6 ∨ z = 7 := by omega
        rcases this with rfl | rfl | rfl | rfl | rfl | rfl | rfl | rfl <;> decide
      have HT : Aside (num (l.take (k + 1)) = 256 * num (l.take k) + y) := ⟨by
        have : l.take (k + 1) = l.take k ++ [y] := by rw [List.take_add_one, hy]; rfl
        rw [this, num_snoc]⟩
      generalize num (l.take k) = z at *
      have i1 : 0 ≤ y := hb1.1
      have i2 : y < 256 := hb1.2
      have s1 : IntKind.u64.wrap (256 * z) = 256 * z := by rw [IntKind.wrap_u64]; omega
      have s2 : IntKind.u64.wrap (256 * z + y) = 256 * z + y := by rw [IntKind.wrap_u64]; omega
      have j1 : (k : Int) < n := by omega
      clear hp
      go_wp2
      go_roundw
      case rel => exact ⟨k + 1, by omega, by go_num, by rw [HT.out], trivial⟩
      case measure => simp [intOf]; omega
    · obtain rfl : k = n := by omega
      go_wp2
      go_ret
      rw [List.take_of_length_le (by omega)]
      exact ⟨rfl, rfl⟩
theorem rnum_at {A : Option Addr} {n c : Nat} {l : List Int} {x : Int} (HS : Sep w0 w O L) (hr : Rb w0 O L 1 A n (by8 l)) (hb : Byt l) (h8 : n ≤ 8) (hx : num l = x) :
    Calls Try.prog 35 #[.slice A n c] w fun e w' => e = .returned (.int .u64 x) ∧ w = w' := hx ▸ rnum_calls HS hr hb h8
end
end Go.Proofs.Ytankfmfenbhkgaa
