/-
  Rows of replies as assertions; contracts of hello.gather, slices.Contains, PutInfo where a name is too long.
-/
import Derived.Test.YtgepekailoopeaaHelC
namespace Go.Proofs.Ytgepekailoopeaa
open Go.RowKit
set_option linter.unusedVariables false
set_option linter.unusedSimpArgs false
structure Rp where
  op : Int
  kd : Int
  A : Option Addr
  c : Nat
  d : List Int
def Rp.cells (r : Rp) : List Value := [.int .u32 r.op, .int .u32 r.kd, .slice r.A r.d.length r.c]
def Rp.out (r : Rp) : Int × Int × List Int := (r.op, r.kd, r.d)
def rrow (rs : List Rp) : List Value := rs.flatMap Rp.cells
theorem rrow_snoc (rs : List Rp) (r : Rp) : rrow (rs ++ [r]) = rrow rs ++ r.cells := by simp [rrow]
/-- what the replies' data are, apart -/
def dataA (t : TypeId) : List Rp → Asr
  | [] => emp
  | r :: rs => star (own t 1 r.A r.d.length r.c (by8 r.d)) (dataA t rs)
theorem info_rep3 : (Try.prog.info? 35).map (fun i => (i.zero, i.size, i.bytes)) = some (some (.agg #[.int .u32 0, .int .u32 0, .slice none 0 0]), 3, 32) := by kernel_rfl
section
variable {w0 w : World} {O : Nat → Prop} {L : List Asr}
theorem Sep.dataSnoc {t : TypeId} {r : Rp} : ∀ {rs : List Rp} {L : List Asr}, Sep w0 w O (dataA t rs :: own t 1 r.A r.d.length r.c (by8 r.d) :: L) → Sep w0 w O (dataA t (rs ++ [r]) :: L)
  | [], L, h => by
    have h1 : Sep w0 w O (Go.Proofs.Ytgepekailoopeaa.emp :: own t 1 r.A r.d.length r.c (by8 r.d) :: L) := h
    have h2 := h1.up1
    exact h2.star
  | x :: rs, L, h => by
    have h1 : Sep w0 w O (Go.Proofs.Ytgepekailoopeaa.star (own t 1 x.A x.d.length x.c (by8 x.d)) (dataA t rs) :: own t 1 r.A r.d.length r.c (by8 r.d) :: L) := h
    have h2 := h1.unstar
    have h3 : Sep w0 w O (dataA t rs :: own t 1 r.A r.d.length r.c (by8 r.d) :: own t 1 x.A x.d.length x.c (by8 x.d) :: L) := h2.dn2
    have h4 := Sep.dataSnoc (rs := rs) h3
    have h5 := h4.up1
    exact h5.star

set_option maxHeartbeats 4000000 in
set_option maxRecDepth 100000 in
theorem gather_calls {A Al D : Option Addr} {n c dc : Nat} {rs : List Rp} {op kd : Int} {d : List Int}
    (HS : Sep w0 w O (own 23 1 Al 1 1 [.slice D d.length dc] :: own 35 3 A n c (rrow rs) :: dataA 5 rs :: own 5 1 D d.length dc (by8 d) :: L)) (hn : n ≤ 4398046511000) :
    Calls Try.prog 68 #[.slice A n c, .int .u32 op, .int .u32 kd, .slice Al 1 1] w fun e w' => ∃ A' c', e = .returned (.slice A' (n + 1) c') ∧ Sep w0 w' O (own 35 3 A' (n + 1) c' (rrow (rs ++ [⟨op, kd, D, dc, d⟩])) :: dataA 5 (rs ++ [⟨op, kd, D, dc, d⟩]) :: L) := by
  obtain ⟨i0, hi0, hz0, hz1, hz2⟩ := info_parts info_rep3
  obtain ⟨gl, rfl⟩ := HS.own_some (by decide)
  obtain ⟨m, hm⟩ : ∃ m, m = d.length := ⟨_, rfl⟩
  rw [← hm] at HS
  have HM := hid hm
  have hb1 : n + 1 ≤ maxLen := by simp only [maxLen]; omega
  have hb2 : (n + 1) * 32 ≤ 140737488355328 := by omega
  have h1c : ∀ u ∈ (#[.int .u32 op, .int .u32 kd, .slice D m dc] : Array Value).toList, u.oneCell' = true := by
    intro u hu
    simp at hu
    rcases hu with rfl | rfl | rfl <;> rfl
  clear hm
  obtain ⟨Q, hQ⟩ : ∃ Q : Ending → World → Prop, Q = fun e w' => ∃ A' c', e = .returned (.slice A' (n + 1) c') ∧ Sep w0 w' O (own 35 3 A' (n + 1) c' (rrow (rs ++ [⟨op, kd, D, dc, d⟩])) :: dataA 5 (rs ++ [⟨op, kd, D, dc, d⟩]) :: L) := ⟨_, rfl⟩
  have HQ := hid hQ
  rw [← hQ]
  clear hQ
  go_enter Try.func68, Try.ntmps68
  go_wp2_with fail
  go_loopw [0, 13] (fun b i wr => ∃ (k c2 : Nat) (B : Option Addr) (xs : List Value), k ≤ 1 ∧ i = .int .i64 k ∧ b = .slice B (n + k) c2 ∧ Aside (xs = rrow rs ++ (if k = 1 then [.int .u32 op, .int .u32 kd, .slice D m dc] else [])) ∧
    Sep w0 wr O (own 35 3 B (n + k) c2 xs :: own 23 1 (some ⟨gl, 0, none⟩) 1 1 [.slice D m dc] :: dataA 5 rs :: own 5 1 D m dc (by8 d) :: L)) (fun _ i _ => 1 - (intOf i).toNat)
  case atStart => exact ⟨0, c, A, rrow rs, by omega, rfl, rfl, ⟨by simp⟩, HS.up1⟩
  case round =>
    obtain ⟨k, c2, B, xs, hk, rfl, rfl, hxs, HS1⟩ := hrel
    clear HS
    by_cases hk0 : k = 0
    · subst hk0
      have hc0 : wr.cell? ⟨gl, 0, none⟩ = some (.slice D m dc) := HS1.up1.own_cell (j := 0) (by decide)
      have HL := (HS1.lit #[.int .u32 op, .int .u32 kd, .slice D m dc] 35 3 1 rfl (by decide)).up1
      go_wp2_with (at_builtin; go_loud (refine wpList_append_sep rfl (.tmp 17) (.tmp 22) 64 rfl 35 i0 _ 3 32 Try.underlying64 hi0 hz0 hz1 hz2 rfl (by decide) rfl HL rfl HL.rd1 h1c hb1 hb2 rfl rfl ?_); intro B3 c3 w3 HS3 hsz3)
      go_roundw
      case rel =>
        refine ⟨1, c3, B3, _, by omega, by go_num, rfl, ⟨?_⟩, HS3.sel 2 [0]⟩
        rw [hxs.out]
        simp
      case measure => simp [intOf]
    · obtain rfl : k = 1 := by omega
      go_wp2
      rw [HQ.out]
      refine ⟨B, c2, rfl, ?_⟩
      have hx := hxs.out
      simp only [if_true] at hx
      rw [HM.out] at hx
      have HS2 := HS1.sel 4 [0, 2, 3]
      replace HS2 : Sep w0 wr O (own 35 3 B (n + 1) c2 xs :: dataA 5 rs :: own 5 1 D m dc (by8 d) :: L) := HS2
      rw [hx, HM.out] at HS2
      have HS3 := (Sep.dataSnoc (r := ⟨op, kd, D, dc, d⟩) HS2.dn2)
      rw [rrow_snoc]
      exact HS3.up1

set_option maxHeartbeats 2000000 in
theorem index_calls {A : Option Addr} {n c : Nat} {x : Int} {l : List Int} (HS : Sep w0 w O L) (hr : Rb w0 O L 1 A n (kv .u16 l)) (hn : n ≤ 70368744177664) :
    Calls Try.prog 90 #[.slice A n c, .int .u16 x] w fun e w' => ∃ r : Int, e = .returned (.int .i64 r) ∧ decide (0 ≤ r) = decide (x ∈ l) ∧ w = w' := by
  have hl := hr.klen HS
  have HX := hid hl
  obtain ⟨Q, hQ⟩ : ∃ Q : Ending → World → Prop, Q = fun e w' => ∃ r : Int, e = .returned (.int .i64 r) ∧ decide (0 ≤ r) = decide (x ∈ l) ∧ w = w' := ⟨_, rfl⟩
  have HQ := hid hQ
  rw [← hQ]
  clear hQ hl
  go_enter Try.func90, Try.ntmps90
  go_wp2_with fail
  go_loopw [8] (fun i wr => ∃ k : Nat, k ≤ n ∧ i = .int .i64 k ∧ wr = w ∧ Aside (x ∉ l.take k)) (fun i _ => n - (intOf i).toNat)
  case atStart => exact ⟨0, Nat.zero_le _, rfl, rfl, ⟨by simp⟩⟩
  case round =>
    obtain ⟨k, hk, rfl, rfl, hnot⟩ := hrel
    by_cases hlt : k < n
    · obtain ⟨ad, y, rfl, hy, hmem, hcell⟩ := hr.elemn HS hlt
      have hj : (k : Int) < n := by omega
      have j0 : (0 : Int) ≤ k := by omega
      have HY := hid hy
      have HMM := hid hmem
      clear hy hmem
      by_cases hxy : x = y
      · subst hxy
        go_wp2
        rw [HQ.out]
        exact ⟨k, rfl, by rw [decide_eq_true (show (0 : Int) ≤ k by omega), decide_eq_true HMM.out], rfl⟩
      · have hxyB : (x == y) = false := by simpa using hxy
        go_wp2
        go_roundw
        case rel =>
          refine ⟨k + 1, by omega, by go_num, (by first | rfl | trivial), ⟨?_⟩⟩
          rw [List.take_add_one, HY.out]
          intro h
          rcases List.mem_append.1 h with h | h
          · exact hnot.out h
          · simp at h; exact hxy h
        case measure => simp [intOf]; omega
    · obtain rfl : n = k := by omega
      have hj : ¬ (n : Int) < n := by omega
      have h0 := hnot.out
      rw [List.take_of_length_le (by rw [HX.out]; exact Nat.le_refl _)] at h0
      have H0 := hid h0
      clear h0
      go_wp2
      rw [HQ.out]
      exact ⟨-1, rfl, by rw [decide_eq_false H0.out]; rfl, rfl⟩

theorem contains_calls {A : Option Addr} {n c : Nat} {x : Int} {l : List Int} (HS : Sep w0 w O L) (hr : Rb w0 O L 1 A n (kv .u16 l)) (hn : n ≤ 70368744177664) :
    Calls Try.prog 84 #[.slice A n c, .int .u16 x] w fun e w' => e = .returned (.bool (decide (x ∈ l))) ∧ w = w' := by
  have HX := hid (index_calls (c := c) (x := x) HS hr hn)
  generalize decide (x ∈ l) = B at *
  go_enter Try.func84, Try.ntmps84
  go_wp2_with fail
  refine HX.out.mono ?_
  rintro e w1 ⟨r, rfl, hB, rfl⟩
  go_wp2
  go_ret
  first | exact ⟨by rw [← hB]; rfl, rfl⟩ | exact ⟨rfl, rfl⟩
end
end Go.Proofs.Ytgepekailoopeaa
