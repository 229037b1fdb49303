/-
  container/heap's Remove: what it leaves, and its contract over any row with methods.
-/
import Derived.Test.YtkdoocgjagpcbaaHeapP
namespace Go.Proofs.Ytkdoocgjagpcbaa
open Go.RowKit
set_option linter.unusedVariables false
set_option linter.unusedSimpArgs false
section
variable {α : Type} [Inhabited α] {lt : α → α → Bool}
/-- down from a place where another element was laid: it moves down, or it may have to move up -/
theorem dnL_rm (o : Ordr lt) {n : Nat} {l : List α} {i : Nat} (hn : n ≤ l.length) (hi : i < n)
    (hA : ∀ k, 0 < k → k < n → k ≠ i → (k - 1) / 2 ≠ i → lt (gat l k) (gat l ((k - 1) / 2)) = false)
    (hB : 0 < i → ∀ k, 0 < k → k < n → (k - 1) / 2 = i → lt (gat l k) (gat l ((i - 1) / 2)) = false) :
    (i < (dnL lt n n l i).2 ∧ Heap lt (dnL lt n n l i).1 n) ∨ ((dnL lt n n l i).2 = i ∧ (dnL lt n n l i).1 = l ∧ UpInv lt l n i) := by
  obtain ⟨f, hf⟩ : ∃ f, n = f + 1 := ⟨n - 1, by omega⟩
  have hstep : dnL lt n n l i = if 2 * i + 1 < n then if lt (gat l (kid lt n l i)) (gat l i) then dnL lt n f (swp l i (kid lt n l i)) (kid lt n l i) else (l, i) else (l, i) := by
    conv => lhs; rw [show dnL lt n n l i = dnL lt n (f + 1) l i by rw [← hf]]
    rw [dnL]
  have stay : (∀ k, 0 < k → k < n → (k - 1) / 2 = i → lt (gat l k) (gat l i) = false) → UpInv lt l n i := fun hk => ⟨fun k k0 kn hki => by
    by_cases hp : (k - 1) / 2 = i
    · rw [hp]; exact hk k k0 kn hp
    · exact hA k k0 kn hki hp, hB⟩
  rw [hstep]
  by_cases hc : 2 * i + 1 < n
  · rw [if_pos hc]
    obtain ⟨c1, c2, c3⟩ := kid_is (lt := lt) n l i hc
    have hle := fun k (k0 : 0 < k) (kn : k < n) (hp : (k - 1) / 2 = i) => kid_le (l := l) o k0 kn hp
    generalize kid lt n l i = j at *
    cases hl : lt (gat l j) (gat l i) with
    | false =>
      rw [if_neg (by simp)]
      exact .inr ⟨rfl, rfl, stay fun k k0 kn hp => o.ntrans (hle k k0 kn hp) hl⟩
    | true =>
      rw [if_pos rfl]
      left
      have hil : i < l.length := by omega
      have hjl : j < l.length := by omega
      have hg := gat_swp hil hjl
      obtain ⟨a1, -, -, -, a5⟩ := dnL_ok o (n := n) (lo := 0) f (swp l i j) j (by rw [swp_len]; exact hn) (by omega) (Nat.zero_le _) (by
        constructor
        · intro k k0 kn _ hp
          by_cases hp2 : (k - 1) / 2 = i
          · rw [hp2, hg i, if_neg (by omega), if_pos rfl]
            by_cases hkj : k = j
            · subst hkj; rw [hg, if_pos rfl]; exact o.asym hl
            · rw [hg, if_neg hkj, if_neg (by omega)]; exact hle k k0 kn hp2
          · rw [hg ((k - 1) / 2), if_neg hp, if_neg hp2]
            by_cases hki : k = i
            · subst hki
              rw [hg, if_neg (by omega), if_pos rfl]
              exact hB k0 j (by omega) c1 c2
            · by_cases hkj : k = j
              · subst hkj; omega
              · rw [hg, if_neg hkj, if_neg hki]; exact hA k k0 kn hki hp2
        · intro j0 _ k k0 kn hp
          rw [c2, hg i, if_neg (by omega), if_pos rfl, hg, if_neg (by omega), if_neg (by omega)]
          have := hA k k0 kn (by omega) (by omega)
          rwa [hp] at this)
      exact ⟨by omega, a1.all⟩
  · rw [if_neg hc]
    exact .inr ⟨rfl, rfl, stay fun k k0 kn hp => by omega⟩
/-- the row behind Remove's down and up: its last is the one that is taken out -/
def rmL (lt : α → α → Bool) (l : List α) (i : Nat) : List α :=
  if l.length - 1 = i then l else
    if i < (dnL lt (l.length - 1) (l.length - 1) (swp l i (l.length - 1)) i).2 then (dnL lt (l.length - 1) (l.length - 1) (swp l i (l.length - 1)) i).1
    else upL lt i (dnL lt (l.length - 1) (l.length - 1) (swp l i (l.length - 1)) i).1 i
theorem upL_keeps (o : Ordr lt) : ∀ (f : Nat) (l : List α) (j : Nat), j < l.length → ∀ k, j < k → gat (upL lt f l j) k = gat l k := by
  intro f
  induction f with
  | zero => intro l j _ k _; rfl
  | succ f ih =>
    intro l j hj k hk
    rw [upL]
    split
    · rfl
    · split
      · rw [ih _ _ (by rw [swp_len]; omega) k (by omega), gat_swp (by omega) hj, if_neg (by omega), if_neg (by omega)]
      · rfl
theorem upL_len : ∀ (f : Nat) (l : List α) (j : Nat), (upL lt f l j).length = l.length := by
  intro f
  induction f with
  | zero => intro l j; rfl
  | succ f ih =>
    intro l j
    rw [upL]
    split
    · rfl
    · split
      · rw [ih, swp_len]
      · rfl
theorem last_split {l : List α} {m : Nat} (h : l.length = m + 1) : l = l.take m ++ [gat l m] := by
  have := gat_get (l := l) (i := m) (by omega)
  conv => lhs; rw [← List.take_append_drop m l]
  congr 1
  apply List.ext_getElem?
  intro k
  rw [List.getElem?_drop]
  cases k with
  | zero => simpa using this
  | succ k => rw [List.getElem?_eq_none (by omega)]; simp
theorem rm_ok (o : Ordr lt) {l : List α} {i : Nat} (h : Heap lt l l.length) (hi : i < l.length) :
    (rmL lt l i).length = l.length ∧ gat (rmL lt l i) (l.length - 1) = gat l i ∧ Heap lt ((rmL lt l i).take (l.length - 1)) (l.length - 1) ∧ l.Perm (gat l i :: (rmL lt l i).take (l.length - 1)) := by
  obtain ⟨m, hm⟩ : ∃ m, m = l.length - 1 := ⟨_, rfl⟩
  have key : ∀ r : List α, r.length = l.length → gat r m = gat l i → Heap lt r m → r.Perm l → r.length = l.length ∧ gat r m = gat l i ∧ Heap lt (r.take m) m ∧ l.Perm (gat l i :: r.take m) := fun r h1 h2 h3 h4 => by
    refine ⟨h1, h2, fun k k0 kn => ?_, ?_⟩
    · rw [gat_take kn, gat_take (by omega)]; exact h3 k k0 kn
    · have e := last_split (l := r) (m := m) (by omega)
      rw [h2] at e
      rw [e] at h4
      exact h4.symm.trans List.perm_append_comm
  unfold rmL
  rw [← hm]
  by_cases hmi : m = i
  · rw [if_pos hmi]
    exact key l rfl (by rw [hmi]) (fun k k0 kn => h k k0 (by omega)) (.refl _)
  · rw [if_neg hmi]
    have hg := gat_swp (l := l) (i := i) (j := m) hi (by omega)
    have hlen := dnL_len (lt := lt) (n := m) m (swp l i m) i
    rw [swp_len] at hlen
    have hA : ∀ k, 0 < k → k < m → k ≠ i → (k - 1) / 2 ≠ i → lt (gat (swp l i m) k) (gat (swp l i m) ((k - 1) / 2)) = false := fun k k0 kn hki hp => by
      rw [hg, hg, if_neg (by omega), if_neg hki, if_neg (by omega), if_neg hp]
      exact h k k0 (by omega)
    have hB : 0 < i → ∀ k, 0 < k → k < m → (k - 1) / 2 = i → lt (gat (swp l i m) k) (gat (swp l i m) ((i - 1) / 2)) = false := fun i0 k k0 kn hp => by
      rw [hg, hg, if_neg (by omega), if_neg (by omega), if_neg (by omega), if_neg (by omega)]
      have h1 := h k k0 (by omega)
      rw [hp] at h1
      exact o.ntrans h1 (h i i0 hi)
    have hk : ∀ k, m ≤ k → gat (dnL lt m m (swp l i m) i).1 k = gat (swp l i m) k := by
      have : ∀ (f : Nat) (l : List α) (i : Nat), m ≤ l.length → ∀ k, m ≤ k → gat (dnL lt m f l i).1 k = gat l k := by
        intro f
        induction f with
        | zero => intro l i _ k _; rfl
        | succ f ih =>
          intro l i hl k hk
          rw [dnL]
          split
          · rename_i hc
            obtain ⟨c1, c2, c3⟩ := kid_is (lt := lt) m l i hc
            split
            · rw [ih _ _ (by rw [swp_len]; exact hl) k hk, gat_swp (by omega) (by omega), if_neg (by omega), if_neg (by omega)]
            · rfl
          · rfl
      exact this m _ i (by rw [swp_len]; omega)
    have hpm : (dnL lt m m (swp l i m) i).1.Perm l := by
      have : ∀ (f : Nat) (l : List α) (i : Nat), m ≤ l.length → (dnL lt m f l i).1.Perm l := by
        intro f
        induction f with
        | zero => intro l i _; exact .refl _
        | succ f ih =>
          intro l i hl
          rw [dnL]
          split
          · rename_i hc
            obtain ⟨c1, c2, c3⟩ := kid_is (lt := lt) m l i hc
            split
            · exact (ih _ _ (by rw [swp_len]; exact hl)).trans (swp_perm (by omega) (by omega))
            · exact .refl _
          · exact .refl _
      exact (this m _ i (by rw [swp_len]; omega)).trans (swp_perm hi (by omega))
    have hgm : gat (dnL lt m m (swp l i m) i).1 m = gat l i := by rw [hk m (Nat.le_refl _), hg, if_pos rfl]
    rcases dnL_rm o (n := m) (l := swp l i m) (i := i) (by rw [swp_len]; omega) (by omega) hA hB with ⟨h1, h2⟩ | ⟨h1, h2, h3⟩
    · rw [if_pos h1]
      exact key _ hlen hgm h2 hpm
    · rw [if_neg (by omega)]
      rw [h2] at hgm hpm ⊢
      obtain ⟨a1, a2, a3⟩ := upL_ok o (n := m) i (swp l i m) i (by rw [swp_len]; omega) (by omega) (Nat.le_refl _) h3
      exact key _ (by rw [a3, swp_len]) (by rw [upL_keeps o i _ i (by rw [swp_len]; omega) m (by omega)]; exact hgm) a1 (a2.trans hpm)
end
end Go.Proofs.Ytkdoocgjagpcbaa
