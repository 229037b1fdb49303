/-
  Rows of volumes that come in.
-/
import Derived.Test.YtankfmfenbhkgaaVols
import Derived.Test.YtankfmfenbhkgaaView
namespace Go.Proofs.Ytankfmfenbhkgaa
open Go.RowKit
set_option linter.unusedVariables false
set_option linter.unusedSimpArgs false
set_option maxHeartbeats 1000000 in
theorem sees_vols {h : Array Obj} {A : Option Addr} {n c : Nat} {x : Sh.V (.slice (.agg (.pair (.int .u64) (.pair .str (.pair (.int .u64) (.pair (.int .u64) (.pair .bool (.pair (.int .u64) .unit))))))) 56)}
    (hs : Sees h (.slice (.agg (.pair (.int .u64) (.pair .str (.pair (.int .u64) (.pair (.int .u64) (.pair .bool (.pair (.int .u64) .unit))))))) 56) [.slice A n c] x)
    (hl : Light (.slice (.agg (.pair (.int .u64) (.pair .str (.pair (.int .u64) (.pair (.int .u64) (.pair .bool (.pair (.int .u64) .unit))))))) 56) x) :
    n ≤ c ∧ n * 56 ≤ 140737488351232 ∧ ∃ vs : List Vol, vs.length = n ∧ (∀ v ∈ vs, v.Ok) ∧ Rd h (fun b => b < h.size) 6 A n (vrow vs) := by
  obtain ⟨A', c', hc, h1, h2, h3⟩ := hs
  simp only [List.cons.injEq, and_true, Value.slice.injEq] at hc
  obtain ⟨rfl, rfl, rfl⟩ := hc
  obtain ⟨hl1, hl2⟩ := hl
  have hel : ∀ i, i < List.length x → ∃ r : Vol, r.Ok ∧ ∃ ad, A = some ad ∧ ∀ (j : Nat) u, r.cells[j]? = some u → cellH h (ad.add (i * 6 + j)) = some u := by
    intro i hi
    obtain ⟨ad, hA, hx⟩ := h3 (by omega)
    have hy : x[i]? = some x[i] := List.getElem?_eq_getElem hi
    have hmem : Light _ x[i] := hl2 _ (List.getElem_mem hi)
    generalize x[i] = y at *
    obtain ⟨cs', _, hcell, hse⟩ := hx i y hy
    obtain ⟨id, nm, size, root, fixed, orig, u⟩ := y
    obtain ⟨q1, r1, rfl, _, ⟨rfl, hb1⟩, q2, r2, rfl, _, ⟨rfl, hb2⟩, q3, r3, rfl, _, ⟨rfl, hb3⟩, q4, r4, rfl, _, ⟨rfl, hb4⟩, q5, r5, rfl, _, rfl, q6, r6, rfl, _, ⟨rfl, hb6⟩, rfl⟩ := hse
    have g1 := bounds_u64 hb1
    have g3 := bounds_u64 hb3
    have g4 := bounds_u64 hb4
    have g6 := bounds_u64 hb6
    have gn : ByteArray.size nm ≤ 140737488351232 := hmem.2.1
    dsimp only at g1 g3 g4 g6
    refine ⟨⟨id, nm, size, root, fixed, orig⟩, ⟨⟨by dsimp only; omega, by dsimp only; omega⟩, ⟨by dsimp only; omega, by dsimp only; omega⟩, ⟨by dsimp only; omega, by dsimp only; omega⟩, ⟨by dsimp only; omega, by dsimp only; omega⟩, gn⟩, ad, hA, fun j v hv => hcell j v ?_⟩
    exact hv
  obtain ⟨vs, hlen, hR⟩ := list_of (List.length x) hel
  refine ⟨h1, hl1, vs, hlen, fun r hr => ?_, ?_, fun hpos => ?_⟩
  · obtain ⟨i, hi⟩ := List.getElem?_of_mem hr
    exact (hR i r hi).1
  · rw [vrow_len, hlen]
  · have h0 : vs[0]? = some vs[0] := List.getElem?_eq_getElem (by omega)
    obtain ⟨_, ad, hA, hc0⟩ := hR 0 _ h0
    refine ⟨ad, hA, ?_, fun j u hu => ?_⟩
    · have := cellH_lt (hc0 0 _ rfl)
      rwa [add_block] at this
    · have hj : j = j / 6 * 6 + j % 6 := by omega
      rw [hj, vrow_get _ _ _ (by omega)] at hu
      cases hi : vs[j / 6]? with
      | none => rw [hi] at hu; cases hu
      | some r =>
        rw [hi] at hu
        obtain ⟨_, ad', hA', hc⟩ := hR _ r hi
        rw [hA] at hA'
        injection hA' with hA'
        subst hA'
        rw [hj]
        exact hc _ u hu
end Go.Proofs.Ytankfmfenbhkgaa
