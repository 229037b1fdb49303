/-
  Rows of calls of two numbers that come in.
-/
import Derived.Test.YtepooiiaijbljaaView
namespace Go.Proofs.Ytepooiiaijbljaa
open Go.RowKit
set_option linter.unusedVariables false
set_option linter.unusedSimpArgs false
def acells (p : Int × Int) : List Value := [.int .i64 p.1, .int .i64 p.2]
def arow (l : List (Int × Int)) : List Value := l.flatMap acells
theorem arow_len (l : List (Int × Int)) : (arow l).length = l.length * 2 := by
  induction l with
  | nil => rfl
  | cons v l ih =>
    have : arow (v :: l) = acells v ++ arow l := by simp [arow]
    rw [this, List.length_append, ih, List.length_cons]
    simp [acells]; omega
theorem arow_get (l : List (Int × Int)) : ∀ (i j : Nat), j < 2 → (arow l)[i * 2 + j]? = (l[i]?).bind fun x => (acells x)[j]? := by
  induction l with
  | nil => intro i j _; simp [arow]
  | cons x l ih =>
    intro i j hj
    have e : arow (x :: l) = acells x ++ arow l := by simp [arow]
    rw [e]
    cases i with
    | zero =>
      rw [Nat.zero_mul, Nat.zero_add, List.getElem?_append_left (by simpa [acells] using hj)]
      simp
    | succ i =>
      rw [List.getElem?_append_right (by simp [acells]; omega), show (i + 1) * 2 + j - (acells x).length = i * 2 + j by simp [acells]; omega, ih i j hj]
      simp
theorem sees_acts {h : Array Obj} {A : Option Addr} {n c : Nat} {x : Sh.V (.slice (.agg (.pair (.int .i64) (.pair (.int .i64) .unit))) 16)}
    (hs : Sees h (.slice (.agg (.pair (.int .i64) (.pair (.int .i64) .unit))) 16) [.slice A n c] x) :
    n ≤ c ∧ ∃ l : List (Int × Int), l.length = n ∧ (∀ p ∈ l, (-9223372036854775808 ≤ p.1 ∧ p.1 < 9223372036854775808) ∧ (-9223372036854775808 ≤ p.2 ∧ p.2 < 9223372036854775808)) ∧ Rd h (fun b => b < h.size) 2 A n (arow l) := by
  obtain ⟨A', c', hc, h1, h2, h3⟩ := hs
  simp only [List.cons.injEq, and_true, Value.slice.injEq] at hc
  obtain ⟨rfl, rfl, rfl⟩ := hc
  have hel : ∀ i, i < List.length x → ∃ r : Int × Int, ((-9223372036854775808 ≤ r.1 ∧ r.1 < 9223372036854775808) ∧ (-9223372036854775808 ≤ r.2 ∧ r.2 < 9223372036854775808)) ∧ ∃ ad, A = some ad ∧ ∀ (j : Nat) u, (acells r)[j]? = some u → cellH h (ad.add (i * 2 + j)) = some u := by
    intro i hi
    obtain ⟨ad, hA, hx⟩ := h3 (by omega)
    have hy : x[i]? = some x[i] := List.getElem?_eq_getElem hi
    generalize x[i] = y at *
    obtain ⟨cs', _, hcell, hse⟩ := hx i y hy
    obtain ⟨a, b, u⟩ := y
    obtain ⟨q1, r1, rfl, _, ⟨rfl, hb1⟩, q2, r2, rfl, _, ⟨rfl, hb2⟩, rfl⟩ := hse
    have g1 := bounds_i64 hb1
    have g2 := bounds_i64 hb2
    dsimp only at g1 g2
    exact ⟨(a, b), ⟨⟨by dsimp only; omega, by dsimp only; omega⟩, ⟨by dsimp only; omega, by dsimp only; omega⟩⟩, ad, hA, fun j v hv => hcell j v hv⟩
  obtain ⟨vs, hlen, hR⟩ := list_of (List.length x) hel
  refine ⟨h1, vs, hlen, fun r hr => ?_, ?_, fun hpos => ?_⟩
  · obtain ⟨i, hi⟩ := List.getElem?_of_mem hr
    exact (hR i r hi).1
  · rw [arow_len, hlen]
  · have h0 : vs[0]? = some vs[0] := List.getElem?_eq_getElem (by omega)
    obtain ⟨_, ad, hA, hc0⟩ := hR 0 _ h0
    refine ⟨ad, hA, ?_, fun j u hu => ?_⟩
    · have := cellH_lt (hc0 0 _ rfl)
      rwa [add_block] at this
    · have hj : j = j / 2 * 2 + j % 2 := by omega
      rw [hj, arow_get _ _ _ (by omega)] at hu
      cases hi : vs[j / 2]? with
      | none => rw [hi] at hu; cases hu
      | some r =>
        rw [hi] at hu
        obtain ⟨_, ad', hA', hc⟩ := hR _ r hi
        rw [hA] at hA'
        injection hA' with hA'
        subst hA'
        rw [hj]
        exact hc _ u hu
section
variable {w0 w : World} {O : Nat → Prop} {L : List Asr}
/-- the call k of a row that came in -/
theorem Rb.actAt {A : Option Addr} {n k : Nat} {l : List (Int × Int)} (hr : Rb w0 O L 2 A n (arow l)) (HS : Sep w0 w O L) (hk : k < n) :
    ∃ ad p, A = some ad ∧ l[k]? = some p ∧ w.cell? (ad.add (k * 2)) = some (.int .i64 p.1) ∧ w.cell? ⟨(ad.add (k * 2)).block, (ad.add (k * 2)).off + 1, none⟩ = some (.int .i64 p.2) := by
  have hl : (arow l).length = n * 2 := hr.len HS
  rw [arow_len] at hl
  have hlt : k < l.length := by omega
  obtain ⟨ad, hA, _, hc⟩ := (hr.read HS).2 (by omega)
  have hv : l[k]? = some l[k] := List.getElem?_eq_getElem hlt
  have hh : ∀ i v, (acells l[k])[i]? = some v → i < 2 → w.cell? ((ad.add (k * 2)).add i) = some v := by
    intro i v hi h6
    rw [add_add]
    exact hc (k * 2 + i) v (by rw [arow_get l k i h6, hv]; exact hi)
  have h0 := hh 0 _ rfl (by decide)
  have h1 := hh 1 _ rfl (by decide)
  rw [show (ad.add (k * 2)).add 0 = ad.add (k * 2) by simp [Addr.add]] at h0
  rw [show (ad.add (k * 2)).add 1 = ⟨(ad.add (k * 2)).block, (ad.add (k * 2)).off + 1, none⟩ by unfold Addr.add; rw [if_neg (show ¬ 1 = 0 by omega)]] at h1
  exact ⟨ad, l[k], hA, hv, h0, h1⟩

end
end Go.Proofs.Ytepooiiaijbljaa
