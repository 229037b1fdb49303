/-
  Plain laws of what a server replies.
-/
import Derived.Test.YtgepekailoopeaaHelLawI
import Derived.Test.YtgepekailoopeaaHelH
namespace Go.Proofs.Ytgepekailoopeaa
open Go.RowKit
set_option linter.unusedVariables false
set_option linter.unusedSimpArgs false
/-- the place of the first of a name, from q on; -1: none -/
def atI (vs : List Vol) (wn : ByteArray) (q : Nat) : Int := match vPos (vs.drop q) wn with | none => -1 | some k => (q : Int) + k
/-- the names that can be told, from q on -/
def namesL (vs : List Vol) (q : Nat) : List ByteArray := ((vs.drop q).map (·.nm)).filter (fun s => decide (s.size ≤ 16))
theorem vPos_cons (v : Vol) (vs : List Vol) (wn : ByteArray) : vPos (v :: vs) wn = if (v.nm.toList == wn.toList) = true then some 0 else (vPos vs wn).map (· + 1) := by
  unfold vPos
  rw [List.findIdx?_cons]
theorem drop_at {vs : List Vol} {q : Nat} {v : Vol} (h : vs[q]? = some v) : vs.drop q = v :: vs.drop (q + 1) := by
  obtain ⟨hlt, rfl⟩ := List.getElem?_eq_some_iff.1 h
  exact List.drop_eq_getElem_cons hlt
theorem atI_yes {vs : List Vol} {wn : ByteArray} {q : Nat} {v : Vol} (h : vs[q]? = some v) (hb : (v.nm.toList == wn.toList) = true) : atI vs wn q = q := by
  unfold atI
  rw [drop_at h, vPos_cons, if_pos hb]
  simp
theorem atI_no {vs : List Vol} {wn : ByteArray} {q : Nat} {v : Vol} (h : vs[q]? = some v) (hb : (v.nm.toList == wn.toList) = false) : atI vs wn q = atI vs wn (q + 1) := by
  unfold atI
  rw [drop_at h, vPos_cons, if_neg (by rw [hb]; decide)]
  cases vPos (vs.drop (q + 1)) wn with
  | none => rfl
  | some k => simp only [Option.map_some]; omega
theorem atI_end (vs : List Vol) (wn : ByteArray) : atI vs wn vs.length = -1 := by unfold atI; rw [List.drop_length]; rfl
theorem atI_zero (vs : List Vol) (wn : ByteArray) : (vPos vs wn = none ∧ atI vs wn 0 = -1) ∨ ∃ k : Nat, vPos vs wn = some k ∧ atI vs wn 0 = k := by
  unfold atI
  rw [List.drop_zero]
  cases h : vPos vs wn with
  | none => exact .inl ⟨rfl, rfl⟩
  | some k => exact .inr ⟨k, rfl, by simp⟩
theorem namesL_yes {vs : List Vol} {q : Nat} {v : Vol} (h : vs[q]? = some v) (hb : v.nm.size ≤ 16) : namesL vs q = v.nm :: namesL vs (q + 1) := by
  unfold namesL
  rw [drop_at h, List.map_cons, List.filter_cons, if_pos (by simpa using hb)]
theorem namesL_no {vs : List Vol} {q : Nat} {v : Vol} (h : vs[q]? = some v) (hb : ¬ v.nm.size ≤ 16) : namesL vs q = namesL vs (q + 1) := by
  unfold namesL
  rw [drop_at h, List.map_cons, List.filter_cons, if_neg (by simpa using hb)]
theorem namesL_end (vs : List Vol) : namesL vs vs.length = [] := by unfold namesL; rw [List.drop_length]; rfl
theorem namesL_len (vs : List Vol) (q : Nat) : (namesL vs q).length ≤ vs.length - q := by
  unfold namesL
  refine Nat.le_trans (List.length_filter_le _ _) ?_
  rw [List.length_map, List.length_drop]; exact Nat.le_refl _
theorem namesL_16 {vs : List Vol} {q : Nat} : ∀ s ∈ namesL vs q, s.size ≤ 16 := by
  intro s hs
  have := (List.mem_filter.1 hs).2
  simpa using this
theorem namR_names (op : Int) (vs : List Vol) : namR op vs = (namesL vs 0).map fun s => (op, 2, nameB s) := by
  unfold namesL
  rw [List.drop_zero]
  induction vs with
  | nil => rfl
  | cons v vs ih =>
    have e : namR op (v :: vs) = (if v.nm.size ≤ 16 then [(op, 2, nameB v.nm)] else []) ++ namR op vs := by simp [namR]
    rw [e, ih, List.map_cons, List.filter_cons]
    by_cases h : v.nm.size ≤ 16
    · rw [if_pos h, if_pos (by simpa using h)]; rfl
    · rw [if_neg h, if_neg (by simpa using h)]; rfl
theorem nameB_len {s : ByteArray} (h : s.size ≤ 16) : (nameB s).length ≤ 20 := by
  unfold nameB; rw [if_neg (by omega), List.length_append, be_len, strInts_len]; omega
/-- what is told of a volume, row by row -/
theorem expR_at {op size : Int} {nm : ByteArray} {fx : Bool} {inf : List Int} (s0 : 0 ≤ size) (s1 : size < 18446744073709551616) : ∀ (k : Nat) o kd d, (expR op nm size fx inf)[k]? = some (o, kd, d) →
    o = op ∧ kd = 3 ∧ d.length ≤ 20 ∧ Byt d ∧ tiE d = 0 ∧ (k = 0 ∧ (∃ fl, tiI d = ⟨0, size, fl, eStr, 0, 0, 0⟩) ∨ k ≠ 0 ∧ (tiI d = ⟨1, 0, 0, nm, 0, 0, 0⟩ ∨ tiI d = ⟨3, 0, 0, eStr, 1, 256, 4096⟩)) := by
  have a0 : ∀ fl : Int, 0 ≤ fl → fl < 65536 → (be 2 0 ++ be 8 size ++ be 2 fl).length ≤ 20 ∧ Byt (be 2 0 ++ be 8 size ++ be 2 fl) ∧ tiE (be 2 0 ++ be 8 size ++ be 2 fl) = 0 ∧ tiI (be 2 0 ++ be 8 size ++ be 2 fl) = ⟨0, size, fl, eStr, 0, 0, 0⟩ := by
    intro fl f0 f1
    have eE : putE ⟨0, size, fl, eStr, 0, 0, 0⟩ = 0 := by unfold putE; dsimp only; rw [if_pos rfl, if_neg (by decide)]
    have eB : putB ⟨0, size, fl, eStr, 0, 0, 0⟩ = be 2 0 ++ be 8 size ++ be 2 fl := by unfold putB; rw [eE, if_pos rfl]; dsimp only; rw [if_pos rfl, List.append_assoc]
    have := info_back (i := ⟨0, size, fl, eStr, 0, 0, 0⟩) ⟨by show (0 : Int) ≤ 0 ∧ (0 : Int) < 65536; decide, ⟨s0, s1⟩, ⟨f0, f1⟩, by show (0 : Nat) ≤ _; exact Nat.zero_le _, by show (0 : Int) ≤ 0 ∧ (0 : Int) < 4294967296; decide, by show (0 : Int) ≤ 0 ∧ (0 : Int) < 4294967296; decide, by show (0 : Int) ≤ 0 ∧ (0 : Int) < 4294967296; decide⟩ eE
    rw [eB] at this
    exact ⟨by simp [be_len], this.2.2.1, this.1, this.2.1⟩
  have a1 : nm.size ≤ 16 → (be 2 1 ++ strInts nm).length ≤ 20 ∧ Byt (be 2 1 ++ strInts nm) ∧ tiE (be 2 1 ++ strInts nm) = 0 ∧ tiI (be 2 1 ++ strInts nm) = ⟨1, 0, 0, nm, 0, 0, 0⟩ := by
    intro h16
    have eE : putE ⟨1, 0, 0, nm, 0, 0, 0⟩ = 0 := by unfold putE; dsimp only; rw [if_neg (by decide), if_pos rfl, if_neg (by decide), if_neg (by omega)]
    have eB : putB ⟨1, 0, 0, nm, 0, 0, 0⟩ = be 2 1 ++ strInts nm := by unfold putB; rw [eE, if_pos rfl]; dsimp only; rw [if_neg (by decide), if_pos rfl]
    have := info_back (i := ⟨1, 0, 0, nm, 0, 0, 0⟩) ⟨by show (0 : Int) ≤ 1 ∧ (1 : Int) < 65536; decide, by show (0 : Int) ≤ 0 ∧ (0 : Int) < 18446744073709551616; decide, by show (0 : Int) ≤ 0 ∧ (0 : Int) < 65536; decide, by show nm.size ≤ _; omega, by show (0 : Int) ≤ 0 ∧ (0 : Int) < 4294967296; decide, by show (0 : Int) ≤ 0 ∧ (0 : Int) < 4294967296; decide, by show (0 : Int) ≤ 0 ∧ (0 : Int) < 4294967296; decide⟩ eE
    rw [eB] at this
    exact ⟨by rw [List.length_append, be_len, strInts_len]; omega, this.2.2.1, this.1, this.2.1⟩
  have a3 : (be 2 3 ++ be 4 1 ++ be 4 256 ++ be 4 4096).length ≤ 20 ∧ Byt (be 2 3 ++ be 4 1 ++ be 4 256 ++ be 4 4096) ∧ tiE (be 2 3 ++ be 4 1 ++ be 4 256 ++ be 4 4096) = 0 ∧ tiI (be 2 3 ++ be 4 1 ++ be 4 256 ++ be 4 4096) = ⟨3, 0, 0, eStr, 1, 256, 4096⟩ := by
    refine ⟨by decide, by decide, by decide, by kernel_rfl⟩
  obtain ⟨b1, b2, b3, b4⟩ := a0 (if fx then 111 else 109) (by cases fx <;> decide) (by cases fx <;> decide)
  intro k o kd d h
  unfold expR at h
  by_cases g1 : nm.size ≤ 16 ∧ 1 ∈ inf <;> by_cases g3 : 3 ∈ inf
  · obtain ⟨c1, c2, c3, c4⟩ := a1 g1.1
    obtain ⟨d1, d2, d3, d4⟩ := a3
    rw [if_pos g1, if_pos g3] at h
    rcases k with _ | _ | _ | k <;> simp at h
    · obtain ⟨rfl, rfl, rfl⟩ := h
      exact ⟨rfl, rfl, by simpa using b1, by simpa using b2, by simpa using b3, .inl ⟨rfl, _, by simpa using b4⟩⟩
    · obtain ⟨rfl, rfl, rfl⟩ := h
      exact ⟨rfl, rfl, c1, c2, c3, .inr ⟨by omega, .inl c4⟩⟩
    · obtain ⟨rfl, rfl, rfl⟩ := h
      exact ⟨rfl, rfl, by simpa using d1, by simpa using d2, by simpa using d3, .inr ⟨by omega, .inr (by simpa using d4)⟩⟩
  · obtain ⟨c1, c2, c3, c4⟩ := a1 g1.1
    rw [if_pos g1, if_neg g3] at h
    rcases k with _ | _ | k <;> simp at h
    · obtain ⟨rfl, rfl, rfl⟩ := h
      exact ⟨rfl, rfl, by simpa using b1, by simpa using b2, by simpa using b3, .inl ⟨rfl, _, by simpa using b4⟩⟩
    · obtain ⟨rfl, rfl, rfl⟩ := h
      exact ⟨rfl, rfl, c1, c2, c3, .inr ⟨by omega, .inl c4⟩⟩
  · obtain ⟨d1, d2, d3, d4⟩ := a3
    rw [if_neg g1, if_pos g3] at h
    rcases k with _ | _ | k <;> simp at h
    · obtain ⟨rfl, rfl, rfl⟩ := h
      exact ⟨rfl, rfl, by simpa using b1, by simpa using b2, by simpa using b3, .inl ⟨rfl, _, by simpa using b4⟩⟩
    · obtain ⟨rfl, rfl, rfl⟩ := h
      exact ⟨rfl, rfl, by simpa using d1, by simpa using d2, by simpa using d3, .inr ⟨by omega, .inr (by simpa using d4)⟩⟩
  · rw [if_neg g1, if_neg g3] at h
    rcases k with _ | k <;> simp at h
    obtain ⟨rfl, rfl, rfl⟩ := h
    exact ⟨rfl, rfl, by simpa using b1, by simpa using b2, by simpa using b3, .inl ⟨rfl, _, by simpa using b4⟩⟩
theorem expR_len2 (op : Int) (nm : ByteArray) (size : Int) (fx : Bool) (inf : List Int) : 1 ≤ (expR op nm size fx inf).length ∧ (expR op nm size fx inf).length ≤ 3 := by
  unfold expR
  by_cases h1 : nm.size ≤ 16 ∧ 1 ∈ inf <;> by_cases h3 : 3 ∈ inf <;> simp [h1, h3]
/-- each reply is in its form -/
structure Good (R : List (Int × Int × List Int)) (op AT : Int) : Prop where
  row : ∀ (i : Nat) o k d, R[i]? = some (o, k, d) → o = op ∧ d.length ≤ 256 ∧ 0 ≤ k ∧ k < 4294967296 ∧ (k = 1 ↔ (i + 1 = R.length ∧ (0 ≤ AT ∨ op < 6)))
theorem good_snoc {Q : List (Int × Int × List Int)} {op AT : Int} (hq : ∀ (i : Nat) o k d, Q[i]? = some (o, k, d) → o = op ∧ d.length ≤ 256 ∧ 0 ≤ k ∧ k < 4294967296 ∧ k ≠ 1) (h : 0 ≤ AT ∨ op < 6) : Good (Q ++ [(op, 1, [])]) op AT := by
  constructor
  intro i o k d hi
  rcases Nat.lt_or_ge i Q.length with hlt | hge
  · rw [List.getElem?_append_left hlt] at hi
    obtain ⟨h1, h2, h3, h4, h5⟩ := hq i o k d hi
    exact ⟨h1, h2, h3, h4, ⟨fun e => absurd e h5, fun e => by rw [List.length_append] at e; simp at e; omega⟩⟩
  · rw [List.getElem?_append_right hge] at hi
    rcases hx : i - Q.length with _ | j
    · rw [hx] at hi
      simp at hi
      obtain ⟨rfl, rfl, rfl⟩ := hi
      exact ⟨rfl, by simp, by decide, by decide, ⟨fun _ => ⟨by rw [List.length_append]; simp; omega, h⟩, fun _ => rfl⟩⟩
    · rw [hx] at hi; simp at hi
theorem namR_good (vs : List Vol) (AT : Int) : Good (namR 3 vs ++ [(3, 1, [])]) 3 AT := by
  refine good_snoc ?_ (.inr (by decide))
  intro i o k d hi
  rw [namR_names, List.getElem?_map, Option.map_eq_some_iff] at hi
  obtain ⟨s, hs, h⟩ := hi
  simp only [Prod.mk.injEq] at h
  obtain ⟨rfl, rfl, rfl⟩ := h
  have := nameB_len (namesL_16 s (List.mem_of_getElem? hs))
  exact ⟨rfl, by omega, by decide, by decide, by decide⟩
theorem two_good (AT : Int) : Good [(2, 1, [])] 2 AT := good_snoc (Q := []) (by simp) (.inr (by decide))
theorem exp_good {op size AT : Int} {nm : ByteArray} {fx : Bool} {inf : List Int} (s0 : 0 ≤ size) (s1 : size < 18446744073709551616) (h : 0 ≤ AT) : Good (expR op nm size fx inf ++ [(op, 1, [])]) op AT := by
  refine good_snoc ?_ (.inl h)
  intro i o k d hi
  obtain ⟨h1, rfl, h3, _⟩ := expR_at s0 s1 i o k d hi
  exact ⟨h1, by omega, by decide, by decide, by decide⟩
theorem miss_good {op : Int} (h : ¬ op < 6) : Good [(op, 2147483654, [])] op (-1) := by
  constructor
  intro i o k d hi
  rcases i with _ | i <;> simp at hi
  obtain ⟨rfl, rfl, rfl⟩ := hi
  exact ⟨rfl, by simp, by decide, by decide, ⟨fun e => by omega, fun e => by omega⟩⟩
theorem none_good (op AT : Int) : Good [] op AT := ⟨fun i o k d h => by simp at h⟩
end Go.Proofs.Ytgepekailoopeaa
