/-
  Rows of calls {What, Flow, Cost, Id} that come in.
-/
import Derived.Test.YtkdoocgjagpcbaaView
namespace Go.Proofs.Ytkdoocgjagpcbaa
open Go.RowKit
set_option linter.unusedVariables false
set_option linter.unusedSimpArgs false
structure Ac where
  what : Int
  flow : Int
  cost : Int
  id : Int
def acells (p : Ac) : List Value := [.int .i64 p.what, .int .i64 p.flow, .int .i64 p.cost, .int .u64 p.id]
def arow (l : List Ac) : List Value := l.flatMap acells
def AcOk (p : Ac) : Prop := (-9223372036854775808 ≤ p.what ∧ p.what < 9223372036854775808) ∧ (-9223372036854775808 ≤ p.flow ∧ p.flow < 9223372036854775808) ∧ (-9223372036854775808 ≤ p.cost ∧ p.cost < 9223372036854775808)
theorem arow_len (l : List Ac) : (arow l).length = l.length * 4 := by
  induction l with
  | nil => rfl
  | cons v l ih =>
    have : arow (v :: l) = acells v ++ arow l := by simp [arow]
    rw [this, List.length_append, ih, List.length_cons]
    simp [acells]; omega
theorem arow_get (l : List Ac) : ∀ (i j : Nat), j < 4 → (arow l)[i * 4 + j]? = (l[i]?).bind fun x => (acells x)[j]? := by
  induction l with
  | nil => intro i j _; simp [arow]
  | cons x l ih =>
    intro i j hj
    have e : arow (x :: l) = acells x ++ arow l := by simp [arow]
    rw [e]
    cases i with
    | zero =>
      rw [Nat.zero_mul, Nat.zero_add, List.getElem?_append_left (by simpa [acells] using hj)]
      simp
    | succ i =>
      rw [List.getElem?_append_right (by simp [acells]; omega), show (i + 1) * 4 + j - (acells x).length = i * 4 + j by simp [acells]; omega, ih i j hj]
      simp
theorem sees_acts {h : Array Obj} {A : Option Addr} {n c : Nat} {x : Sh.V (.slice (.agg (.pair (.int .i64) (.pair (.int .i64) (.pair (.int .i64) (.pair (.int .u64) .unit))))) 32)}
    (hs : Sees h (.slice (.agg (.pair (.int .i64) (.pair (.int .i64) (.pair (.int .i64) (.pair (.int .u64) .unit))))) 32) [.slice A n c] x) :
    n ≤ c ∧ ∃ l : List Ac, l.length = n ∧ (∀ p ∈ l, AcOk p) ∧ Rd h (fun b => b < h.size) 4 A n (arow l) := by
  obtain ⟨A', c', hc, h1, h2, h3⟩ := hs
  simp only [List.cons.injEq, and_true, Value.slice.injEq] at hc
  obtain ⟨rfl, rfl, rfl⟩ := hc
  have hel : ∀ i, i < List.length x → ∃ r : Ac, AcOk r ∧ ∃ ad, A = some ad ∧ ∀ (j : Nat) u, (acells r)[j]? = some u → cellH h (ad.add (i * 4 + j)) = some u := by
    intro i hi
    obtain ⟨ad, hA, hx⟩ := h3 (by omega)
    have hy : x[i]? = some x[i] := List.getElem?_eq_getElem hi
    generalize x[i] = y at *
    obtain ⟨cs', _, hcell, hse⟩ := hx i y hy
    obtain ⟨a, b, c, d, u⟩ := y
    obtain ⟨q1, r1, rfl, _, ⟨rfl, hb1⟩, q2, r2, rfl, _, ⟨rfl, hb2⟩, q3, r3, rfl, _, ⟨rfl, hb3⟩, q4, r4, rfl, _, ⟨rfl, hb4⟩, rfl⟩ := hse
    have g1 := bounds_i64 hb1
    have g2 := bounds_i64 hb2
    have g3 := bounds_i64 hb3
    dsimp only at g1 g2 g3
    exact ⟨⟨a, b, c, d⟩, ⟨⟨by dsimp only; omega, by dsimp only; omega⟩, ⟨by dsimp only; omega, by dsimp only; omega⟩, ⟨by dsimp only; omega, by dsimp only; omega⟩⟩, ad, hA, fun j v hv => hcell j v hv⟩
  obtain ⟨vs, hlen, hR⟩ := list_of (List.length x) hel
  refine ⟨h1, vs, hlen, fun r hr => ?_, ?_, fun hpos => ?_⟩
  · obtain ⟨i, hi⟩ := List.getElem?_of_mem hr
    exact (hR i r hi).1
  · rw [arow_len, hlen]
  · have h0 : vs[0]? = some vs[0] := List.getElem?_eq_getElem (by omega)
    obtain ⟨_, ad, hA, hc0⟩ := hR 0 _ h0
    refine ⟨ad, hA, ?_, fun j u hu => ?_⟩
    · have := cellH_lt (hc0 0 _ rfl)
      rwa [add_block] at this
    · have hj : j = j / 4 * 4 + j % 4 := by omega
      rw [hj, arow_get _ _ _ (by omega)] at hu
      cases hi : vs[j / 4]? with
      | none => rw [hi] at hu; cases hu
      | some r =>
        rw [hi] at hu
        obtain ⟨_, ad', hA', hc⟩ := hR _ r hi
        rw [hA] at hA'
        injection hA' with hA'
        subst hA'
        rw [hj]
        exact hc _ u hu
section
variable {w0 w : World} {O : Nat → Prop} {L : List Asr}
/-- the call k of a row that came in -/
theorem Rb.actAt {A : Option Addr} {n k : Nat} {l : List Ac} (hr : Rb w0 O L 4 A n (arow l)) (HS : Sep w0 w O L) (hk : k < n) :
    ∃ ad p, A = some ad ∧ l[k]? = some p ∧ w.cell? (ad.add (k * 4)) = some (.int .i64 p.what) ∧ w.cell? ⟨(ad.add (k * 4)).block, (ad.add (k * 4)).off + 1, none⟩ = some (.int .i64 p.flow) ∧
      w.cell? ⟨(ad.add (k * 4)).block, (ad.add (k * 4)).off + 2, none⟩ = some (.int .i64 p.cost) ∧ w.cell? ⟨(ad.add (k * 4)).block, (ad.add (k * 4)).off + 3, none⟩ = some (.int .u64 p.id) := by
  have hl : (arow l).length = n * 4 := hr.len HS
  rw [arow_len] at hl
  have hlt : k < l.length := by omega
  obtain ⟨ad, hA, _, hc⟩ := (hr.read HS).2 (by omega)
  have hv : l[k]? = some l[k] := List.getElem?_eq_getElem hlt
  have hh : ∀ i v, (acells l[k])[i]? = some v → i < 4 → w.cell? ((ad.add (k * 4)).add i) = some v := by
    intro i v hi h6
    rw [add_add]
    exact hc (k * 4 + i) v (by rw [arow_get l k i h6, hv]; exact hi)
  have h0 := hh 0 _ rfl (by decide)
  have h1 := hh 1 _ rfl (by decide)
  have h2 := hh 2 _ rfl (by decide)
  have h3 := hh 3 _ rfl (by decide)
  have e : ∀ i, ¬ i = 0 → (ad.add (k * 4)).add i = ⟨(ad.add (k * 4)).block, (ad.add (k * 4)).off + i, none⟩ := fun i hi => by unfold Addr.add; rw [if_neg hi]
  rw [show (ad.add (k * 4)).add 0 = ad.add (k * 4) by simp [Addr.add]] at h0
  rw [e 1 (by decide)] at h1
  rw [e 2 (by decide)] at h2
  rw [e 3 (by decide)] at h3
  exact ⟨ad, l[k], hA, hv, h0, h1, h2, h3⟩
end
end Go.Proofs.Ytkdoocgjagpcbaa
