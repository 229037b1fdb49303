/-
  Contracts of cisternlaw06's own functions; rows of calls that come in.
-/
import Derived.Test.YtdblokglldalnaaFreeR
import Derived.Test.YtdblokglldalnaaView
namespace Go.Proofs.Ytdblokglldalnaa
open Go.RowKit
set_option linter.unusedVariables false
set_option linter.unusedSimpArgs false
def acells (p : Int × Int) : List Value := [.int .i64 p.1, .int .i64 p.2]
def arow (l : List (Int × Int)) : List Value := l.flatMap acells
theorem arow_len (l : List (Int × Int)) : (arow l).length = l.length * 2 := by
  induction l with
  | nil => rfl
  | cons v l ih =>
    have : arow (v :: l) = acells v ++ arow l := by simp [arow]
    rw [this, List.length_append, ih, List.length_cons]
    simp [acells]; omega
theorem arow_get (l : List (Int × Int)) : ∀ (i j : Nat), j < 2 → (arow l)[i * 2 + j]? = (l[i]?).bind fun x => (acells x)[j]? := by
  induction l with
  | nil => intro i j _; simp [arow]
  | cons x l ih =>
    intro i j hj
    have e : arow (x :: l) = acells x ++ arow l := by simp [arow]
    rw [e]
    cases i with
    | zero =>
      rw [Nat.zero_mul, Nat.zero_add, List.getElem?_append_left (by simpa [acells] using hj)]
      simp
    | succ i =>
      rw [List.getElem?_append_right (by simp [acells]; omega), show (i + 1) * 2 + j - (acells x).length = i * 2 + j by simp [acells]; omega, ih i j hj]
      simp
theorem sees_acts {h : Array Obj} {A : Option Addr} {n c : Nat} {x : Sh.V (.slice (.agg (.pair (.int .i64) (.pair (.int .i64) .unit))) 16)}
    (hs : Sees h (.slice (.agg (.pair (.int .i64) (.pair (.int .i64) .unit))) 16) [.slice A n c] x) :
    n ≤ c ∧ ∃ l : List (Int × Int), l.length = n ∧ (∀ p ∈ l, (-9223372036854775808 ≤ p.1 ∧ p.1 < 9223372036854775808) ∧ (-9223372036854775808 ≤ p.2 ∧ p.2 < 9223372036854775808)) ∧ Rd h (fun b => b < h.size) 2 A n (arow l) := by
  obtain ⟨A', c', hc, h1, h2, h3⟩ := hs
  simp only [List.cons.injEq, and_true, Value.slice.injEq] at hc
  obtain ⟨rfl, rfl, rfl⟩ := hc
  have hel : ∀ i, i < List.length x → ∃ r : Int × Int, ((-9223372036854775808 ≤ r.1 ∧ r.1 < 9223372036854775808) ∧ (-9223372036854775808 ≤ r.2 ∧ r.2 < 9223372036854775808)) ∧ ∃ ad, A = some ad ∧ ∀ (j : Nat) u, (acells r)[j]? = some u → cellH h (ad.add (i * 2 + j)) = some u := by
    intro i hi
    obtain ⟨ad, hA, hx⟩ := h3 (by omega)
    have hy : x[i]? = some x[i] := List.getElem?_eq_getElem hi
    generalize x[i] = y at *
    obtain ⟨cs', _, hcell, hse⟩ := hx i y hy
    obtain ⟨a, b, u⟩ := y
    obtain ⟨q1, r1, rfl, _, ⟨rfl, hb1⟩, q2, r2, rfl, _, ⟨rfl, hb2⟩, rfl⟩ := hse
    have g1 := bounds_i64 hb1
    have g2 := bounds_i64 hb2
    dsimp only at g1 g2
    exact ⟨(a, b), ⟨⟨by dsimp only; omega, by dsimp only; omega⟩, ⟨by dsimp only; omega, by dsimp only; omega⟩⟩, ad, hA, fun j v hv => hcell j v hv⟩
  obtain ⟨vs, hlen, hR⟩ := list_of (List.length x) hel
  refine ⟨h1, vs, hlen, fun r hr => ?_, ?_, fun hpos => ?_⟩
  · obtain ⟨i, hi⟩ := List.getElem?_of_mem hr
    exact (hR i r hi).1
  · rw [arow_len, hlen]
  · have h0 : vs[0]? = some vs[0] := List.getElem?_eq_getElem (by omega)
    obtain ⟨_, ad, hA, hc0⟩ := hR 0 _ h0
    refine ⟨ad, hA, ?_, fun j u hu => ?_⟩
    · have := cellH_lt (hc0 0 _ rfl)
      rwa [add_block] at this
    · have hj : j = j / 2 * 2 + j % 2 := by omega
      rw [hj, arow_get _ _ _ (by omega)] at hu
      cases hi : vs[j / 2]? with
      | none => rw [hi] at hu; cases hu
      | some r =>
        rw [hi] at hu
        obtain ⟨_, ad', hA', hc⟩ := hR _ r hi
        rw [hA] at hA'
        injection hA' with hA'
        subst hA'
        rw [hj]
        exact hc _ u hu
section
variable {w0 w : World} {O : Nat → Prop} {L : List Asr}
/-- the call k of a row that came in -/
theorem Rb.actAt {A : Option Addr} {n k : Nat} {l : List (Int × Int)} (hr : Rb w0 O L 2 A n (arow l)) (HS : Sep w0 w O L) (hk : k < n) :
    ∃ ad p, A = some ad ∧ l[k]? = some p ∧ w.cell? (ad.add (k * 2)) = some (.int .i64 p.1) ∧ w.cell? ⟨(ad.add (k * 2)).block, (ad.add (k * 2)).off + 1, none⟩ = some (.int .i64 p.2) := by
  have hl : (arow l).length = n * 2 := hr.len HS
  rw [arow_len] at hl
  have hlt : k < l.length := by omega
  obtain ⟨ad, hA, _, hc⟩ := (hr.read HS).2 (by omega)
  have hv : l[k]? = some l[k] := List.getElem?_eq_getElem hlt
  have hh : ∀ i v, (acells l[k])[i]? = some v → i < 2 → w.cell? ((ad.add (k * 2)).add i) = some v := by
    intro i v hi h6
    rw [add_add]
    exact hc (k * 2 + i) v (by rw [arow_get l k i h6, hv]; exact hi)
  have h0 := hh 0 _ rfl (by decide)
  have h1 := hh 1 _ rfl (by decide)
  rw [show (ad.add (k * 2)).add 0 = ad.add (k * 2) by simp [Addr.add]] at h0
  rw [show (ad.add (k * 2)).add 1 = ⟨(ad.add (k * 2)).block, (ad.add (k * 2)).off + 1, none⟩ by unfold Addr.add; rw [if_neg (show ¬ 1 = 0 by omega)]] at h1
  exact ⟨ad, l[k], hA, hv, h0, h1⟩

theorem same_true {A B : Option Addr} {n c d : Nat} {xs : List Int} (HS : Sep w0 w O L) (hr : Rb w0 O L 1 A n (kv .i64 xs)) (hq : Rb w0 O L 1 B n (kv .i64 xs)) (hn : n ≤ 140737488355328) :
    Calls Try.prog 14 #[.slice A n c, .slice B n d] w fun e w' => e = .returned (.bool true) ∧ Sep w0 w' O L := by
  have hl := hr.klen HS
  go_enter Try.func14, Try.ntmps14
  go_wp2
  go_loopw [13] (fun v wr => ∃ k : Nat, v = .int .i64 k ∧ k ≤ n ∧ Sep w0 wr O L) (fun v _ => n - (intOf v).toNat)
  case atStart => exact ⟨0, rfl, Nat.zero_le _, HS⟩
  case round =>
    obtain ⟨k, rfl, hk, H⟩ := hrel
    clear HS
    by_cases hlt : k < n
    · obtain ⟨ad, y, rfl, hy, _, ck⟩ := hr.elemn H hlt
      obtain ⟨bd, z, rfl, hz, _, dk⟩ := hq.elemn H hlt
      obtain rfl : y = z := by rw [hy] at hz; injection hz
      have hk1 : (k : Int) < n := by omega
      clear hl hy hz
      go_upto_region 6 with (fail)
      go_quiet (fail)
      go_wp2
      go_roundw
      case rel => exact ⟨k + 1, by go_num, by omega, H.drewN nq⟩
      case measure => simp [intOf]; omega
    · obtain rfl : k = n := by omega
      have hk1 : ¬ (k : Int) < k := by omega
      go_wp2
      go_ret
      exact ⟨rfl, H⟩

def within (k : Int) (n : Nat) : Nat := ((k % 18446744073709551616) % n).toNat
theorem within_lt {k : Int} {n : Nat} (h : 0 < n) : within k n < n := by
  have h1 := Int.emod_nonneg (k % 18446744073709551616) (show (n : Int) ≠ 0 by omega)
  have h2 := Int.emod_lt_of_pos (k % 18446744073709551616) (show (0 : Int) < n by omega)
  unfold within; omega
theorem within_calls {k : Int} {n : Nat} (h : 0 < n) (hn : n ≤ 1048576) :
    Calls Try.prog 8 #[.int .i64 k, .int .i64 n] w fun e w' => e = .returned (.int .i64 (within k n)) ∧ w' = w := by
  have h1 := Int.emod_nonneg (k % 18446744073709551616) (show (n : Int) ≠ 0 by omega)
  have h2 := Int.emod_lt_of_pos (k % 18446744073709551616) (show (0 : Int) < n by omega)
  have h3 := Int.emod_nonneg k (show (18446744073709551616 : Int) ≠ 0 by decide)
  have hw : ((within k n : Nat) : Int) = (k % 18446744073709551616) % n := by unfold within; omega
  have u1 : IntKind.u64.wrap k = k % 18446744073709551616 := by rw [IntKind.wrap_u64]
  have u2 : IntKind.u64.wrap (n : Int) = n := by rw [IntKind.wrap_u64]; omega
  have e1 : (k % 18446744073709551616).tmod n = ((within k n : Nat) : Int) := by rw [hw, Int.tmod_eq_emod_of_nonneg h3]
  have hlt := within_lt (k := k) h
  have u3 : IntKind.i64.wrap ((within k n : Nat) : Int) = ((within k n : Nat) : Int) := by rw [IntKind.wrap_i64]; omega
  have n0 : ¬ (n : Int) = 0 := by omega
  clear hw h1 h2
  generalize within k n = r at *
  generalize k % 18446744073709551616 = km at *
  go_enter Try.func8, Try.ntmps8
  go_wp2
  go_ret
  exact ⟨rfl, rfl⟩

theorem awake_calls (HS : Sep w0 w O L) : Calls Try.prog 9 #[] w fun e w' => e = .returned (.bool true) ∧ Sep w0 w' O L := by
  go_enter Try.func9, Try.ntmps9
  go_wp2_with fail
  refine (newf_calls (m := 3) HS (by decide)).mono ?_
  rintro e w1 ⟨g, rfl, H1⟩
  go_wp2_with fail
  refine (take_calls H1).mono ?_
  rintro e w2 ⟨rfl, H2⟩
  rw [show ((takeAt (List.replicate 3 true) : Nat) : Int) = 0 from rfl, show takeErr (List.replicate 3 true) = 0 from rfl]
  replace H2 : Sep w0 w2 O (space g [false, true, true] :: L) := H2
  go_wp2_with fail
  refine (take_calls H2).mono ?_
  rintro e w3 ⟨rfl, H3⟩
  rw [show ((takeAt [false, true, true] : Nat) : Int) = 1 from rfl, show takeErr [false, true, true] = 0 from rfl]
  replace H3 : Sep w0 w3 O (space g [false, false, true] :: L) := H3
  go_wp2_with fail
  refine (give_calls (x := 0) H3).mono ?_
  rintro e w4 ⟨rfl, H4⟩
  rw [show gvErr [false, false, true] 0 = 0 from rfl]
  replace H4 : Sep w0 w4 O (space g [true, false, true] :: L) := H4
  go_wp2_with fail
  refine (take_calls H4).mono ?_
  rintro e w5 ⟨rfl, H5⟩
  rw [show ((takeAt [true, false, true] : Nat) : Int) = 0 from rfl, show takeErr [true, false, true] = 0 from rfl]
  replace H5 : Sep w0 w5 O (space g [false, false, true] :: L) := H5
  go_wp2_with fail
  refine (take_calls H5).mono ?_
  rintro e w6 ⟨rfl, H6⟩
  rw [show ((takeAt [false, false, true] : Nat) : Int) = 2 from rfl, show takeErr [false, false, true] = 0 from rfl]
  replace H6 : Sep w0 w6 O (space g [false, false, false] :: L) := H6
  go_wp2_with fail
  refine (take_calls H6).mono ?_
  rintro e w7 ⟨rfl, H7⟩
  rw [show ((takeAt [false, false, false] : Nat) : Int) = 0 from rfl, show takeErr [false, false, false] = 8 from rfl]
  go_wp2
  go_ret
  exact ⟨rfl, H7.drop⟩
end
end Go.Proofs.Ytdblokglldalnaa
