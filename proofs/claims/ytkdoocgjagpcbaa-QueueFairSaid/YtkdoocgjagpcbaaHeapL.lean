/-
  Plain laws of a heap that lies in a list: up, down, and what they leave.
-/
import Derived.Test.YtkdoocgjagpcbaaRows
namespace Go.Proofs.Ytkdoocgjagpcbaa
set_option linter.unusedVariables false
set_option linter.unusedSimpArgs false
section
variable {α : Type}
/-- an order that tells any two apart but for those alike -/
structure Ordr (lt : α → α → Bool) : Prop where
  asym : ∀ {a b}, lt a b = true → lt b a = false
  ntrans : ∀ {a b c}, lt a b = false → lt b c = false → lt a c = false
variable {lt : α → α → Bool}
theorem Ordr.trans (o : Ordr lt) {a b c : α} (h1 : lt a b = true) (h2 : lt b c = true) : lt a c = true := by
  cases h : lt a c with
  | true => rfl
  | false => have := o.ntrans h (o.asym h2); rw [h1] at this; cases this
theorem Ordr.irr (o : Ordr lt) (a : α) : lt a a = false := by
  cases h : lt a a with
  | false => rfl
  | true => have := o.asym h; rw [h] at this; exact this
theorem Ordr.lt_of (o : Ordr lt) {a b c : α} (h1 : lt a b = true) (h2 : lt c b = false) : lt c a = false := by
  cases h : lt c a with
  | false => rfl
  | true => have := o.trans h h1; rw [h2] at this; cases this

variable [Inhabited α]
def gat (l : List α) (i : Nat) : α := (l[i]?).getD default
def swp (l : List α) (i j : Nat) : List α := (l.set i (gat l j)).set j (gat l i)
theorem swp_len (l : List α) (i j : Nat) : (swp l i j).length = l.length := by simp [swp]
theorem gat_get {l : List α} {i : Nat} (h : i < l.length) : l[i]? = some (gat l i) := by
  unfold gat; rw [List.getElem?_eq_getElem h]; rfl
theorem gat_swp {l : List α} {i j : Nat} (hi : i < l.length) (hj : j < l.length) (k : Nat) : gat (swp l i j) k = if k = j then gat l i else if k = i then gat l j else gat l k := by
  unfold swp
  show (((l.set i (gat l j)).set j (gat l i))[k]?).getD default = _
  rw [List.getElem?_set, List.getElem?_set]
  by_cases h1 : j = k
  · subst h1; simp [hj]
  · rw [if_neg h1, if_neg (show ¬ k = j from fun h => h1 h.symm)]
    by_cases h2 : i = k
    · subst h2; simp [hi]
    · rw [if_neg h2, if_neg (show ¬ k = i from fun h => h2 h.symm)]; rfl
theorem swp_perm {l : List α} {i j : Nat} (hi : i < l.length) (hj : j < l.length) : (swp l i j).Perm l := by
  have h := Array.swap_perm (xs := l.toArray) (i := i) (j := j) (by simpa using hi) (by simpa using hj)
  have e : swp l i j = (l.toArray.swap i j (by simpa using hi) (by simpa using hj)).toList := by
    apply List.ext_getElem?
    intro k
    have e1 := gat_get hi
    have e2 := gat_get hj
    rw [List.getElem?_eq_getElem hi] at e1
    rw [List.getElem?_eq_getElem hj] at e2
    injection e1 with e1
    injection e2 with e2
    simp [swp, Array.swap, e1, e2]
  rw [e]
  exact Array.perm_iff_toList_perm.1 h
theorem gat_app {l : List α} {x : α} {k : Nat} : gat (l ++ [x]) k = if k < l.length then gat l k else if k = l.length then x else default := by
  unfold gat
  by_cases h : k < l.length
  · rw [if_pos h, List.getElem?_append_left h]
  · rw [if_neg h, List.getElem?_append_right (by omega)]
    by_cases h2 : k = l.length
    · subst h2; simp
    · rw [if_neg h2, List.getElem?_eq_none (by simp; omega)]; rfl
theorem gat_take {l : List α} {n k : Nat} (h : k < n) : gat (l.take n) k = gat l k := by
  unfold gat; rw [List.getElem?_take, if_pos h]

/-- the first n are a heap, as far as parents from lo on tell -/
def HeapFrom (lt : α → α → Bool) (l : List α) (n lo : Nat) : Prop := ∀ k, 0 < k → k < n → lo ≤ (k - 1) / 2 → lt (gat l k) (gat l ((k - 1) / 2)) = false
def Heap (lt : α → α → Bool) (l : List α) (n : Nat) : Prop := ∀ k, 0 < k → k < n → lt (gat l k) (gat l ((k - 1) / 2)) = false
theorem HeapFrom.all {l : List α} {n : Nat} (h : HeapFrom lt l n 0) : Heap lt l n := fun k h1 h2 => h k h1 h2 (Nat.zero_le _)
theorem Heap.from_ {l : List α} {n : Nat} (h : Heap lt l n) (lo : Nat) : HeapFrom lt l n lo := fun k h1 h2 _ => h k h1 h2
theorem Heap.least (o : Ordr lt) {l : List α} {n : Nat} (h : Heap lt l n) : ∀ k, k < n → lt (gat l k) (gat l 0) = false := by
  intro k
  induction k using Nat.strongRecOn with
  | ind k ih =>
    intro hk
    by_cases h0 : k = 0
    · subst h0; exact o.irr _
    · exact o.ntrans (h k (by omega) hk) (ih ((k - 1) / 2) (by omega) (by omega))

/-! ### up -/
def upL (lt : α → α → Bool) : Nat → List α → Nat → List α
  | 0, l, _ => l
  | f + 1, l, j => if j = 0 then l else if lt (gat l j) (gat l ((j - 1) / 2)) then upL lt f (swp l ((j - 1) / 2) j) ((j - 1) / 2) else l
def UpInv (lt : α → α → Bool) (l : List α) (n j : Nat) : Prop :=
  (∀ k, 0 < k → k < n → k ≠ j → lt (gat l k) (gat l ((k - 1) / 2)) = false) ∧ (0 < j → ∀ k, 0 < k → k < n → (k - 1) / 2 = j → lt (gat l k) (gat l ((j - 1) / 2)) = false)
theorem upL_ok (o : Ordr lt) {n : Nat} : ∀ (f : Nat) (l : List α) (j : Nat), n ≤ l.length → j < n → j ≤ f → UpInv lt l n j → Heap lt (upL lt f l j) n ∧ (upL lt f l j).Perm l ∧ (upL lt f l j).length = l.length := by
  intro f
  induction f with
  | zero =>
    intro l j hn hj hf ⟨h1, h2⟩
    obtain rfl : j = 0 := by omega
    exact ⟨fun k k0 kn => h1 k k0 kn (by omega), .refl _, rfl⟩
  | succ f ih =>
    intro l j hn hj hf ⟨h1, h2⟩
    rw [upL]
    by_cases hj0 : j = 0
    · rw [if_pos hj0]
      exact ⟨fun k k0 kn => h1 k k0 kn (by omega), .refl _, rfl⟩
    rw [if_neg hj0]
    cases hl : lt (gat l j) (gat l ((j - 1) / 2)) with
    | false =>
      rw [if_neg (by simp)]
      refine ⟨fun k k0 kn => ?_, .refl _, rfl⟩
      by_cases hk : k = j
      · subst hk; exact hl
      · exact h1 k k0 kn hk
    | true =>
      rw [if_pos rfl]
      obtain ⟨i, hi⟩ : ∃ i, i = (j - 1) / 2 := ⟨_, rfl⟩
      rw [← hi] at hl ⊢
      have hil : i < l.length := by omega
      have hjl : j < l.length := by omega
      have hg := gat_swp hil hjl
      obtain ⟨a1, a2, a3⟩ := ih (swp l i j) i (by rw [swp_len]; exact hn) (by omega) (by omega) (by
        constructor
        · intro k k0 kn hki
          by_cases hkj : k = j
          · subst hkj
            rw [← hi, hg, hg, if_pos rfl, if_neg (by omega), if_pos rfl]
            exact o.asym hl
          · have hk := h1 k k0 kn hkj
            rw [hg, if_neg hkj, if_neg hki]
            by_cases hp : (k - 1) / 2 = i
            · rw [hg, hp, if_neg (by omega), if_pos rfl]
              rw [hp] at hk
              exact o.lt_of hl hk
            · by_cases hp2 : (k - 1) / 2 = j
              · rw [hg, if_pos hp2]
                have := h2 (by omega) k k0 kn hp2
                rwa [← hi] at this
              · rw [hg, if_neg hp2, if_neg hp]
                exact hk
        · intro i0 k k0 kn hp
          rw [hg ((i - 1) / 2), if_neg (by omega), if_neg (by omega)]
          have hpi := h1 i i0 (by omega) (by omega)
          by_cases hkj : k = j
          · subst hkj
            rw [hg, if_pos rfl]
            exact hpi
          · have hk := h1 k k0 kn hkj
            rw [hp] at hk
            rw [hg, if_neg hkj, if_neg (by omega)]
            exact o.ntrans hk hpi)
      exact ⟨a1, a2.trans (swp_perm hil hjl), by rw [a3, swp_len]⟩

/-! ### down -/
def kid (lt : α → α → Bool) (n : Nat) (l : List α) (i : Nat) : Nat := if 2 * i + 2 < n ∧ lt (gat l (2 * i + 2)) (gat l (2 * i + 1)) = true then 2 * i + 2 else 2 * i + 1
def dnL (lt : α → α → Bool) (n : Nat) : Nat → List α → Nat → List α × Nat
  | 0, l, i => (l, i)
  | f + 1, l, i => if 2 * i + 1 < n then if lt (gat l (kid lt n l i)) (gat l i) then dnL lt n f (swp l i (kid lt n l i)) (kid lt n l i) else (l, i) else (l, i)
theorem dnL_len {n : Nat} : ∀ (f : Nat) (l : List α) (i : Nat), (dnL lt n f l i).1.length = l.length := by
  intro f
  induction f with
  | zero => intro l i; rfl
  | succ f ih =>
    intro l i
    rw [dnL]
    split
    · split
      · rw [ih, swp_len]
      · rfl
    · rfl
/-- all but what is below i is right; it would be so without i, too -/
def DnInv (lt : α → α → Bool) (l : List α) (n lo i : Nat) : Prop :=
  (∀ k, 0 < k → k < n → lo ≤ (k - 1) / 2 → (k - 1) / 2 ≠ i → lt (gat l k) (gat l ((k - 1) / 2)) = false) ∧ (0 < i → lo ≤ (i - 1) / 2 → ∀ k, 0 < k → k < n → (k - 1) / 2 = i → lt (gat l k) (gat l ((i - 1) / 2)) = false)
theorem kid_is (n : Nat) (l : List α) (i : Nat) (h : 2 * i + 1 < n) : kid lt n l i < n ∧ (kid lt n l i - 1) / 2 = i ∧ i < kid lt n l i := by
  unfold kid; split <;> omega
theorem kid_le (o : Ordr lt) {n : Nat} {l : List α} {i k : Nat} (k0 : 0 < k) (kn : k < n) (hp : (k - 1) / 2 = i) : lt (gat l k) (gat l (kid lt n l i)) = false := by
  unfold kid
  rcases (show k = 2 * i + 1 ∨ k = 2 * i + 2 by omega) with rfl | rfl
  · split
    · rename_i h; exact o.asym h.2
    · exact o.irr _
  · split
    · exact o.irr _
    · rename_i h
      cases h2 : lt (gat l (2 * i + 2)) (gat l (2 * i + 1)) with
      | false => rfl
      | true => exact absurd ⟨kn, h2⟩ h
theorem dnL_ok (o : Ordr lt) {n lo : Nat} : ∀ (f : Nat) (l : List α) (i : Nat), n ≤ l.length → n ≤ i + f → lo ≤ i → DnInv lt l n lo i →
    HeapFrom lt (dnL lt n f l i).1 n lo ∧ (dnL lt n f l i).1.Perm l ∧ (dnL lt n f l i).1.length = l.length ∧ (∀ k, n ≤ k → gat (dnL lt n f l i).1 k = gat l k) ∧ i ≤ (dnL lt n f l i).2 := by
  intro f
  induction f with
  | zero =>
    intro l i hn hf hlo ⟨h1, h2⟩
    exact ⟨fun k k0 kn hk => h1 k k0 kn hk (by omega), .refl _, rfl, fun _ _ => rfl, Nat.le_refl _⟩
  | succ f ih =>
    intro l i hn hf hlo ⟨h1, h2⟩
    rw [dnL]
    by_cases hc : 2 * i + 1 < n
    · rw [if_pos hc]
      obtain ⟨c1, c2, c3⟩ := kid_is (lt := lt) n l i hc
      have hle := fun k (k0 : 0 < k) (kn : k < n) (hp : (k - 1) / 2 = i) => kid_le (l := l) o k0 kn hp
      generalize kid lt n l i = j at *
      cases hl : lt (gat l j) (gat l i) with
      | false =>
        rw [if_neg (by simp)]
        refine ⟨fun k k0 kn hk => ?_, .refl _, rfl, fun _ _ => rfl, Nat.le_refl _⟩
        by_cases hp : (k - 1) / 2 = i
        · rw [hp]; exact o.ntrans (hle k k0 kn hp) hl
        · exact h1 k k0 kn hk hp
      | true =>
        rw [if_pos rfl]
        have hil : i < l.length := by omega
        have hjl : j < l.length := by omega
        have hg := gat_swp hil hjl
        obtain ⟨a1, a2, a3, a4, a5⟩ := ih (swp l i j) j (by rw [swp_len]; exact hn) (by omega) (by omega) (by
          constructor
          · intro k k0 kn hk hp
            by_cases hp2 : (k - 1) / 2 = i
            · rw [hp2, hg i, if_neg (by omega), if_pos rfl]
              by_cases hkj : k = j
              · subst hkj; rw [hg, if_pos rfl]; exact o.asym hl
              · rw [hg, if_neg hkj, if_neg (by omega)]; exact hle k k0 kn hp2
            · rw [hg ((k - 1) / 2), if_neg hp, if_neg hp2]
              by_cases hki : k = i
              · subst hki
                rw [hg, if_neg (by omega), if_pos rfl]
                exact h2 k0 hk j (by omega) c1 c2
              · by_cases hkj : k = j
                · subst hkj; omega
                · rw [hg, if_neg hkj, if_neg hki]; exact h1 k k0 kn hk hp2
          · intro j0 hj k k0 kn hp
            rw [c2, hg i, if_neg (by omega), if_pos rfl, hg, if_neg (by omega), if_neg (by omega)]
            have := h1 k k0 kn (by omega) (by omega)
            rwa [hp] at this)
        refine ⟨a1, a2.trans (swp_perm hil hjl), by rw [a3, swp_len], fun k hk => ?_, by omega⟩
        rw [a4 k hk, hg, if_neg (by omega), if_neg (by omega)]
    · rw [if_neg hc]
      exact ⟨fun k k0 kn hk => h1 k k0 kn hk (by omega), .refl _, rfl, fun _ _ => rfl, Nat.le_refl _⟩

/-! ### what the calls leave -/
theorem push_ok (o : Ordr lt) {l : List α} {x : α} (h : Heap lt l l.length) : Heap lt (upL lt l.length (l ++ [x]) l.length) (l.length + 1) ∧ (upL lt l.length (l ++ [x]) l.length).Perm (l ++ [x]) ∧ (upL lt l.length (l ++ [x]) l.length).length = l.length + 1 := by
  have h1 := upL_ok o (n := l.length + 1) l.length (l ++ [x]) l.length (by simp) (by omega) (Nat.le_refl _) (by
    constructor
    · intro k k0 kn hk
      rw [gat_app, gat_app, if_pos (by omega), if_pos (by omega)]
      exact h k k0 (by omega)
    · intro _ k k0 kn hp
      omega)
  exact ⟨h1.1, h1.2.1, by rw [h1.2.2, List.length_append]; rfl⟩
/-- the row behind Pop's down: its last is the least, the others are a heap -/
def popL (lt : α → α → Bool) (l : List α) : List α := (dnL lt (l.length - 1) (l.length - 1) (swp l 0 (l.length - 1)) 0).1
theorem pop_ok (o : Ordr lt) {l : List α} (h : Heap lt l l.length) (h0 : 0 < l.length) :
    (popL lt l).length = l.length ∧ gat (popL lt l) (l.length - 1) = gat l 0 ∧ Heap lt ((popL lt l).take (l.length - 1)) (l.length - 1) ∧ l.Perm (gat l 0 :: (popL lt l).take (l.length - 1)) := by
  obtain ⟨m, hm⟩ : ∃ m, m = l.length - 1 := ⟨_, rfl⟩
  have hg := gat_swp (l := l) (i := 0) (j := m) h0 (by omega)
  have hd := dnL_ok o (n := m) (lo := 0) m (swp l 0 m) 0 (by rw [swp_len]; omega) (by omega) (Nat.zero_le _) (by
    constructor
    · intro k k0 kn _ hp
      rw [hg, hg, if_neg (by omega), if_neg (by omega), if_neg (by omega), if_neg (by omega)]
      exact h k k0 (by omega)
    · intro h; omega)
  obtain ⟨d1, d2, d3, d4, -⟩ := hd
  have hp : popL lt l = (dnL lt m m (swp l 0 m) 0).1 := by rw [hm]; rfl
  rw [← hp] at d1 d2 d3 d4
  rw [← hm]
  rw [swp_len] at d3
  have e1 : gat (popL lt l) m = gat l 0 := by rw [d4 m (Nat.le_refl _), hg, if_pos rfl]
  refine ⟨d3, e1, fun k k0 kn => ?_, ?_⟩
  · rw [gat_take kn, gat_take (by omega)]
    exact d1 k k0 kn (Nat.zero_le _)
  · have e2 : popL lt l = (popL lt l).take m ++ [gat l 0] := by
      have := gat_get (l := popL lt l) (i := m) (by omega)
      rw [e1] at this
      conv => lhs; rw [← List.take_append_drop m (popL lt l)]
      congr 1
      apply List.ext_getElem?
      intro k
      rw [List.getElem?_drop]
      cases k with
      | zero => simpa using this
      | succ k => rw [List.getElem?_eq_none (by omega)]; simp
    have e3 := d2.trans (swp_perm (l := l) (i := 0) (j := m) h0 (by omega))
    rw [e2] at e3
    exact e3.symm.trans (List.perm_append_comm.trans (.refl _))
/-- Init: down from the middle to the front -/
def initL (lt : α → α → Bool) (l : List α) : Nat → List α
  | 0 => l
  | k + 1 => initL lt (dnL lt l.length l.length l k).1 k
theorem init_ok (o : Ordr lt) : ∀ (k : Nat) (l : List α), HeapFrom lt l l.length k → Heap lt (initL lt l k) l.length ∧ (initL lt l k).Perm l ∧ (initL lt l k).length = l.length := by
  intro k
  induction k with
  | zero => intro l h; exact ⟨h.all, .refl _, rfl⟩
  | succ k ih =>
    intro l h
    obtain ⟨d1, d2, d3, -, -⟩ := dnL_ok o (n := l.length) (lo := k) l.length l k (Nat.le_refl _) (by omega) (Nat.le_refl _) (by
      constructor
      · intro j j0 jn hj hp
        exact h j j0 jn (by omega)
      · intro k0 hk; omega)
    rw [initL]
    obtain ⟨a1, a2, a3⟩ := ih (dnL lt l.length l.length l k).1 (by rw [d3]; exact d1)
    rw [d3] at a1 a3
    exact ⟨a1, a2.trans d2, a3⟩
theorem half_heap (l : List α) : HeapFrom lt l l.length (l.length / 2) := by
  intro k k0 kn hk; omega
end
end Go.Proofs.Ytkdoocgjagpcbaa
