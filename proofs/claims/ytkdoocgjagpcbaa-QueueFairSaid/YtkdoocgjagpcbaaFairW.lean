/-
  Rows of waits.
-/
import Derived.Test.YtkdoocgjagpcbaaFairM
import Derived.Test.YtkdoocgjagpcbaaLaw26
namespace Go.Proofs.Ytkdoocgjagpcbaa
open Go.RowKit
set_option linter.unusedVariables false
set_option linter.unusedSimpArgs false
def wcs (w : Wt) : List Value := .int .i64 w.y.flow :: .int .i64 w.y.cost :: .int .u64 w.y.id :: .int .i64 w.all :: kv .i64 w.tk
def wv (l : List Wt) : List Value := l.flatMap wcs
def W8 (l : List Wt) : Prop := ∀ w ∈ l, w.tk.length = 8
theorem wcs_len {w : Wt} (h : w.tk.length = 8) : (wcs w).length = 12 := by simp [wcs, kv, h]
theorem wv_get {l : List Wt} (h : W8 l) : ∀ (i j : Nat), j < 12 → (wv l)[i * 12 + j]? = (l[i]?).bind fun x => (wcs x)[j]? := by
  induction l with
  | nil => intro i j _; simp [wv]
  | cons x l ih =>
    intro i j hj
    have hx := wcs_len (h x (List.mem_cons_self ..))
    rw [show wv (x :: l) = wcs x ++ wv l from rfl]
    cases i with
    | zero =>
      rw [Nat.zero_mul, Nat.zero_add, List.getElem?_append_left (by omega)]
      simp
    | succ i =>
      rw [List.getElem?_append_right (by omega), show (i + 1) * 12 + j - (wcs x).length = i * 12 + j by omega, ih (fun y hy => h y (List.mem_cons_of_mem _ hy)) i j hj]
      simp
theorem wcs_one (w : Wt) : ∀ u ∈ wcs w, u.oneCell' = true := by
  intro u hu
  simp only [wcs, kv, List.mem_cons, List.mem_map] at hu
  rcases hu with rfl | rfl | rfl | rfl | ⟨_, _, rfl⟩ <;> rfl
theorem wv_app (l : List Wt) (w : Wt) : wv l ++ wcs w = wv (l ++ [w]) := by simp [wv]
theorem info_wait : (Try.prog.info? 38).map (fun i => (i.zero, i.size, i.bytes)) = some (some (.agg #[.int .i64 0, .int .i64 0, .int .u64 0, .int .i64 0, .int .i64 0, .int .i64 0, .int .i64 0, .int .i64 0, .int .i64 0, .int .i64 0, .int .i64 0, .int .i64 0]), 12, 96) := by kernel_rfl
theorem wc_t {w : Wt} (h : w.tk.length = 8) {k : Nat} (hk : k < 8) : (wcs w).toArray[4 + k]? = some (.int .i64 (gat w.tk k)) := by
  obtain ⟨y, all, tk, t⟩ := w
  obtain ⟨a0, a1, a2, a3, a4, a5, a6, a7, h8⟩ := list8 h
  dsimp only at h8
  subst h8
  rcases (show k = 0 ∨ k = 1 ∨ k = 2 ∨ k = 3 ∨ k = 4 ∨ k = 5 ∨ k = 6 ∨ k = 7 by omega) with rfl | rfl | rfl | rfl | rfl | rfl | rfl | rfl <;> rfl
theorem wc_st {w : Wt} (h : w.tk.length = 8) {k : Nat} (hk : k < 8) (x : Int) : (wcs w).toArray.setIfInBounds (4 + k) (.int .i64 x) = (wcs ⟨w.y, w.all, w.tk.set k x, w.t⟩).toArray := by
  obtain ⟨y, all, tk, t⟩ := w
  obtain ⟨a0, a1, a2, a3, a4, a5, a6, a7, h8⟩ := list8 h
  dsimp only at h8
  subst h8
  rcases (show k = 0 ∨ k = 1 ∨ k = 2 ∨ k = 3 ∨ k = 4 ∨ k = 5 ∨ k = 6 ∨ k = 7 by omega) with rfl | rfl | rfl | rfl | rfl | rfl | rfl | rfl <;> rfl
section
variable {w0 w : World} {O : Nat → Prop} {L : List Asr}
theorem Sep.wcell {e : TypeId} {g n c : Nat} {l : List Wt} (h : Sep w0 w O (own e 12 (some ⟨g, 0, none⟩) n c (wv l) :: L)) (h8 : W8 l) {i : Nat} {x : Wt} (hi : l[i]? = some x) (hn : l.length = n) (k : Nat) {v : Value} (hk : (wcs x)[k]? = some v) : w.cell? ⟨g, i * 12 + k, none⟩ = some v := by
  have hil : i < l.length := (List.getElem?_eq_some_iff.1 hi).1
  have hx : x ∈ l := List.mem_of_getElem? hi
  have hk5 : k < 12 := by
    have := (List.getElem?_eq_some_iff.1 hk).1
    rw [wcs_len (h8 x hx)] at this
    exact this
  have := h.own_row.cellAt (i * 12 + k) (by omega)
  rw [this, wv_get h8 _ _ hk5, hi]
  exact hk
theorem Sep.wrange {e : TypeId} {g n c : Nat} {l : List Wt} (h : Sep w0 w O (own e 12 (some ⟨g, 0, none⟩) n c (wv l) :: L)) (h8 : W8 l) {i : Nat} {x : Wt} (hi : l[i]? = some x) (hn : l.length = n) : w.rangeAt g (i * 12) (wcs x) := fun k v hk => h.wcell h8 hi hn k hk
end
theorem left_more {x : Hd} {ws : List Wt} {j : Nat} {w : Wt} (hw : ws[j]? = some w) : leftWt x (ws.take (j + 1)) = leftWt x (ws.take j) ++ if w.y = x then [] else [updWt x w] := by
  unfold leftWt
  rw [List.take_add_one, hw, List.filter_append, List.map_append]
  congr 1
  by_cases h : w.y = x
  · rw [if_pos h]
    simp [keepWt, h]
  · rw [if_neg h]
    simp [keepWt, h]
/-- an elder of a row in order lies ahead -/
theorem elder_ahead {ws : List Wt} {x : Hd} {j : Nat} {w : Wt} (ho : ws.Pairwise fun a b => a.y.n < b.y.n) (hw : ws[j]? = some w) (hx : x ∈ ws.map (·.y)) (hn : x.n < w.y.n) : x ∈ (ws.take j).map (·.y) := by
  obtain ⟨v, hv, rfl⟩ := List.mem_map.1 hx
  obtain ⟨i, hi, rfl⟩ := List.getElem_of_mem hv
  obtain ⟨hj, rfl⟩ := List.getElem?_eq_some_iff.1 hw
  have hij : i < j := by
    rcases Nat.lt_trichotomy i j with h | h | h
    · exact h
    · subst h; omega
    · have := List.pairwise_iff_getElem.1 ho j i hj hi h
      omega
  refine List.mem_map.2 ⟨ws[i], ?_, rfl⟩
  exact List.mem_of_getElem? (i := i) (by rw [List.getElem?_take, if_pos hij, List.getElem?_eq_getElem hi])
theorem found_more {x : Hd} {ws : List Wt} {j : Nat} {w : Wt} (hw : ws[j]? = some w) : x ∈ (ws.take (j + 1)).map (·.y) ↔ x ∈ (ws.take j).map (·.y) ∨ w.y = x := by
  rw [List.take_add_one, hw, List.map_append, List.mem_append]
  simp [eq_comm]
theorem sum_more {f : Int} {ws : List Wt} {j : Nat} {w : Wt} (hw : ws[j]? = some w) : sumC (ofFlow f) ((ws.take (j + 1)).map (·.y)) = sumC (ofFlow f) ((ws.take j).map (·.y)) + if w.y.flow = f then w.y.cost else 0 := by
  rw [List.take_add_one, hw, List.map_append]
  rw [sumC_perm (List.perm_append_comm (l₁ := (ws.take j).map (·.y)) (l₂ := _))]
  show sumC (ofFlow f) (w.y :: (ws.take j).map (·.y)) = _
  rw [sumC]
  unfold ofFlow
  by_cases h : w.y.flow = f
  · rw [if_pos (by simpa using h), if_pos h]; omega
  · rw [if_neg (by simpa using h), if_neg h]; omega
end Go.Proofs.Ytkdoocgjagpcbaa
