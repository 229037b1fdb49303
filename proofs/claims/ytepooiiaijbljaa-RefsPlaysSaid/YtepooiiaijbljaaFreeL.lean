/-
  Plain laws of a space: which places are free, and the heap that bears them.
-/
import Derived.Test.YtepooiiaijbljaaHeapL
namespace Go.Proofs.Ytepooiiaijbljaa
set_option linter.unusedVariables false
set_option linter.unusedSimpArgs false
def ltI (a b : Int) : Bool := decide (a < b)
theorem ltI_ord : Ordr ltI := ⟨fun h => by simp only [ltI, decide_eq_true_eq, decide_eq_false_iff_not] at *; omega, fun h1 h2 => by simp only [ltI, decide_eq_false_iff_not] at *; omega⟩
theorem gat_int {l : List Int} {i : Nat} (h : i < l.length) : l[i] = gat l i := by
  have := gat_get h
  rw [List.getElem?_eq_getElem h] at this
  injection this
theorem gat_mem {l : List Int} {i : Nat} (h : i < l.length) : gat l i ∈ l := by
  rw [← gat_int h]; exact List.getElem_mem h
theorem hole_len : ∀ (n : Nat) (l : List Int), l.Nodup → (∀ x ∈ l, 0 ≤ x ∧ x < n) → l.length ≤ n := by
  intro n
  induction n with
  | zero =>
    intro l _ h
    cases l with
    | nil => exact Nat.le_refl _
    | cons x l => have := h x (List.mem_cons_self ..); omega
  | succ n ih =>
    intro l hd h
    by_cases hm : (n : Int) ∈ l
    · have h1 := ih (l.erase n) (hd.erase _) (fun x hx => by
        have hx' := (List.Nodup.mem_erase_iff hd).1 hx
        have := h x hx'.2
        have := hx'.1
        omega)
      rw [List.length_erase_of_mem hm] at h1
      omega
    · have := ih l hd (fun x hx => by
        have := h x hx
        have : x ≠ n := fun e => hm (e ▸ hx)
        omega)
      omega
/-- the heap bears all that is free, and nothing twice -/
structure SpOk (is : List Bool) (hp : List Int) : Prop where
  heap : Heap ltI hp hp.length
  once : hp.Nodup
  rng : ∀ x ∈ hp, 0 ≤ x ∧ x < is.length
  all : ∀ k : Nat, is[k]? = some true → (k : Int) ∈ hp
theorem SpOk.len {is : List Bool} {hp : List Int} (h : SpOk is hp) : hp.length ≤ is.length := hole_len _ _ h.once h.rng
def leastOf (is : List Bool) : Option Nat := is.findIdx? id
theorem leastOf_some {is : List Bool} {k : Nat} (h : is[k]? = some true) (hl : ∀ j, j < k → is[j]? ≠ some true) : leastOf is = some k := by
  unfold leastOf
  rw [List.findIdx?_eq_some_iff_getElem]
  obtain ⟨hk, e⟩ := List.getElem?_eq_some_iff.1 h
  refine ⟨hk, by simpa using e, fun j hj => ?_⟩
  have := hl j hj
  rw [List.getElem?_eq_getElem (by omega)] at this
  simpa using this
theorem leastOf_none {is : List Bool} (h : ∀ j : Nat, is[j]? ≠ some true) : leastOf is = none := by
  unfold leastOf
  rw [List.findIdx?_eq_none_iff]
  intro x hx
  obtain ⟨j, hj⟩ := List.getElem?_of_mem hx
  cases x with
  | false => rfl
  | true => exact absurd hj (h j)
theorem leastOf_is {is : List Bool} {k : Nat} (h : leastOf is = some k) : is[k]? = some true ∧ k < is.length ∧ ∀ j, j < k → is[j]? ≠ some true := by
  unfold leastOf at h
  rw [List.findIdx?_eq_some_iff_getElem] at h
  obtain ⟨hk, e, h⟩ := h
  refine ⟨by rw [List.getElem?_eq_getElem hk]; simpa using e, hk, fun j hj => ?_⟩
  have := h j hj
  rw [List.getElem?_eq_getElem (by omega)]
  simpa using this
theorem leastOf_no {is : List Bool} (h : leastOf is = none) : ∀ j : Nat, is[j]? ≠ some true := by
  unfold leastOf at h
  rw [List.findIdx?_eq_none_iff] at h
  intro j hj
  have := h true (List.mem_of_getElem? hj)
  cases this
def takeAt (is : List Bool) : Nat := (leastOf is).getD 0
def takeErr (is : List Bool) : Int := if (leastOf is).isSome then 0 else 8
def takeIs (is : List Bool) : List Bool := match leastOf is with | some k => is.set k false | none => is
def clErr (is : List Bool) (a : Int) : Int := if a < 0 ∨ (is.length : Int) ≤ a then 1 else if is[a.toNat]? = some true then 0 else 6
def clIs (is : List Bool) (a : Int) : List Bool := if clErr is a = 0 then is.set a.toNat false else is
def gvErr (is : List Bool) (a : Int) : Int := if a < 0 ∨ (is.length : Int) ≤ a then 1 else if is[a.toNat]? = some true then 7 else 0
def gvIs (is : List Bool) (a : Int) : List Bool := if gvErr is a = 0 then is.set a.toNat true else is
def places (is : List Bool) : List Int := ((List.range is.length).filter fun k => is[k]? == some true).map fun k : Nat => (k : Int)
theorem takeIs_len (is : List Bool) : (takeIs is).length = is.length := by unfold takeIs; split <;> simp
theorem clIs_len (is : List Bool) (a : Int) : (clIs is a).length = is.length := by unfold clIs; split <;> simp
theorem gvIs_len (is : List Bool) (a : Int) : (gvIs is a).length = is.length := by unfold gvIs; split <;> simp
theorem set_get {is : List Bool} {k j : Nat} {b : Bool} (hk : k < is.length) : (is.set k b)[j]? = if j = k then some b else is[j]? := by
  rw [List.getElem?_set]
  by_cases h : k = j
  · subst h; simp [hk]
  · rw [if_neg h, if_neg (fun e => h e.symm)]
/-- what a pop leaves -/
theorem SpOk.pop {is : List Bool} {hp : List Int} (h : SpOk is hp) (h0 : 0 < hp.length) :
    (0 ≤ gat hp 0 ∧ gat hp 0 < is.length) ∧ (∀ j : Nat, is[j]? = some true → gat hp 0 ≤ j) ∧ (is[(gat hp 0).toNat]? ≠ some true → SpOk is ((popL ltI hp).take (hp.length - 1))) ∧ SpOk (is.set (gat hp 0).toNat false) ((popL ltI hp).take (hp.length - 1)) := by
  obtain ⟨p1, p2, p3, p4⟩ := pop_ok ltI_ord h.heap h0
  have hx := h.rng _ (gat_mem h0)
  generalize hy : (popL ltI hp).take (hp.length - 1) = ys at *
  have hyl : ys.length = hp.length - 1 := by rw [← hy, List.length_take, p1]; omega
  have hnd : (gat hp 0 :: ys).Nodup := p4.nodup_iff.1 h.once
  have hmem : ∀ x, x ∈ ys → x ∈ hp := fun x hx => p4.mem_iff.2 (List.mem_cons_of_mem _ hx)
  have hsub : ∀ k : Nat, is[k]? = some true → (k : Int) = gat hp 0 ∨ (k : Int) ∈ ys := fun k hk => by
    have := p4.mem_iff.1 (h.all k hk)
    rcases List.mem_cons.1 this with h | h
    · exact .inl h
    · exact .inr h
  have hleast : ∀ j : Nat, is[j]? = some true → gat hp 0 ≤ j := fun j hj => by
    obtain ⟨i, hi, e⟩ := List.getElem_of_mem (h.all j hj)
    have := Heap.least ltI_ord h.heap i hi
    rw [← gat_int hi, e] at this
    simp only [ltI, decide_eq_false_iff_not] at this
    omega
  refine ⟨hx, hleast, fun hf => ⟨by rw [hyl]; exact p3, (List.nodup_cons.1 hnd).2, fun x hx => h.rng x (hmem x hx), fun k hk => ?_⟩, ⟨by rw [hyl]; exact p3, (List.nodup_cons.1 hnd).2, fun x hx => by rw [List.length_set]; exact h.rng x (hmem x hx), fun k hk => ?_⟩⟩
  · rcases hsub k hk with e | e
    · rw [← e, Int.toNat_natCast] at hf; exact absurd hk hf
    · exact e
  · rw [set_get (by omega)] at hk
    by_cases hkk : k = (gat hp 0).toNat
    · rw [if_pos hkk] at hk; cases hk
    · rw [if_neg hkk] at hk
      rcases hsub k hk with e | e
      · exact absurd (by rw [← e, Int.toNat_natCast]) hkk
      · exact e
theorem SpOk.none {is : List Bool} (h : SpOk is []) : leastOf is = none := leastOf_none fun j hj => by cases h.all j hj
theorem SpOk.least {is : List Bool} {hp : List Int} (h : SpOk is hp) (h0 : 0 < hp.length) (ht : is[(gat hp 0).toNat]? = some true) : leastOf is = some (gat hp 0).toNat := by
  obtain ⟨h1, h2, -, -⟩ := h.pop h0
  exact leastOf_some ht fun j hj hjt => by have := h2 j hjt; omega
theorem SpOk.claim {is : List Bool} {hp : List Int} {k : Nat} (h : SpOk is hp) (hk : k < is.length) : SpOk (is.set k false) hp :=
  ⟨h.heap, h.once, fun x hx => by rw [List.length_set]; exact h.rng x hx, fun j hj => by
    rw [set_get hk] at hj
    by_cases e : j = k
    · rw [if_pos e] at hj; cases hj
    · rw [if_neg e] at hj; exact h.all j hj⟩
theorem SpOk.give {is : List Bool} {hp : List Int} {k : Nat} (h : SpOk is hp) (hk : k < is.length) (hc : (k : Int) ∈ hp) : SpOk (is.set k true) hp :=
  ⟨h.heap, h.once, fun x hx => by rw [List.length_set]; exact h.rng x hx, fun j hj => by
    rw [set_get hk] at hj
    by_cases e : j = k
    · rw [e]; exact hc
    · rw [if_neg e] at hj; exact h.all j hj⟩
theorem SpOk.givePush {is : List Bool} {hp : List Int} {k : Nat} (h : SpOk is hp) (hk : k < is.length) (hc : (k : Int) ∉ hp) : SpOk (is.set k true) (upL ltI hp.length (hp ++ [(k : Int)]) hp.length) := by
  obtain ⟨p1, p2, p3⟩ := push_ok (x := (k : Int)) ltI_ord h.heap
  have hm : ∀ x, x ∈ upL ltI hp.length (hp ++ [(k : Int)]) hp.length ↔ x ∈ hp ∨ x = k := fun x => by rw [p2.mem_iff, List.mem_append, List.mem_singleton]
  refine ⟨by rw [p3]; exact p1, p2.nodup_iff.2 ?_, fun x hx => ?_, fun j hj => ?_⟩
  · rw [List.nodup_append]
    refine ⟨h.once, by simp, fun a ha b hb e => ?_⟩
    rw [List.mem_singleton] at hb
    exact hc (by rw [← hb, ← e]; exact ha)
  · rw [List.length_set]
    rcases (hm x).1 hx with h1 | h1
    · exact h.rng x h1
    · omega
  · rw [hm]
    rw [set_get hk] at hj
    by_cases e : j = k
    · right; rw [e]
    · rw [if_neg e] at hj; left; exact h.all j hj
def rngL (n : Nat) : List Int := (List.range n).map fun k : Nat => (k : Int)
theorem rngL_len (n : Nat) : (rngL n).length = n := by simp [rngL]
theorem rngL_succ (n : Nat) : rngL (n + 1) = rngL n ++ [(n : Int)] := by simp [rngL, List.range_succ]
theorem SpOk.new (n : Nat) : SpOk (List.replicate n true) (initL ltI (rngL n) (n / 2)) := by
  have hl := rngL_len n
  have h0 := init_ok ltI_ord (n / 2) (rngL n) (by have := half_heap (lt := ltI) (rngL n); rwa [hl] at this ⊢)
  obtain ⟨p1, p2, p3⟩ := h0
  refine ⟨by rw [p3]; exact p1, p2.nodup_iff.2 ?_, fun x hx => ?_, fun k hk => ?_⟩
  · unfold rngL
    refine List.Pairwise.map _ (fun a b h => ?_) List.nodup_range
    intro e; exact h (by omega)
  · have := p2.mem_iff.1 hx
    obtain ⟨j, hj, rfl⟩ := List.mem_map.1 this
    have := List.mem_range.1 hj
    simp; omega
  · rw [p2.mem_iff]
    have : k < n := by
      obtain ⟨h, -⟩ := List.getElem?_eq_some_iff.1 hk
      simpa using h
    exact List.mem_map.2 ⟨k, List.mem_range.2 this, rfl⟩
theorem count_off {is : List Bool} {k : Nat} (h : is[k]? = some true) : ((is.set k false).count true : Int) = (is.count true : Int) - 1 := by
  obtain ⟨hk, e⟩ := List.getElem?_eq_some_iff.1 h
  have h1 := List.count_set (l := is) (i := k) (a := false) (b := true) hk
  have h2 : 0 < is.count true := List.count_pos_iff.2 (by rw [← e]; exact List.getElem_mem hk)
  rw [e] at h1
  simp at h1
  omega
theorem count_on {is : List Bool} {k : Nat} (hk : k < is.length) (h : is[k]? ≠ some true) : ((is.set k true).count true : Int) = (is.count true : Int) + 1 := by
  have h1 := List.count_set (l := is) (i := k) (a := true) (b := true) hk
  have e : is[k] = false := by
    rw [List.getElem?_eq_getElem hk] at h
    simpa using h
  rw [e] at h1
  simp at h1
  omega
theorem places_count (is : List Bool) : ((places is).length : Int) = is.count true := by
  unfold places
  rw [List.length_map]
  have : ∀ (l : List Bool) , ((List.range l.length).filter fun k => l[k]? == some true).length = l.count true := by
    intro l
    induction l with
    | nil => rfl
    | cons b l ih =>
      rw [List.length_cons, List.range_succ_eq_map, List.filter_cons, List.filter_map]
      have e : (List.filter ((fun k => (b :: l)[k]? == some true) ∘ Nat.succ) (List.range l.length)).length = l.count true := by
        rw [← ih]; rfl
      cases b <;> simp [e]
  rw [this]
end Go.Proofs.Ytepooiiaijbljaa
