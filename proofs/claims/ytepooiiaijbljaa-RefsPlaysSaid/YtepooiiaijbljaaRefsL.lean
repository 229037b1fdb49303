/-
  Plain laws of counts: which blocks are free, which are fresh; what the calls leave.
-/
import Derived.Test.YtepooiiaijbljaaFreeL
import Derived.Test.YtepooiiaijbljaaNum
namespace Go.Proofs.Ytepooiiaijbljaa
set_option linter.unusedVariables false
set_option linter.unusedSimpArgs false
def isOf (now was : List Int) : List Bool := List.zipWith (fun a b => a == 0 && b == 0) now was
def frOf (now was : List Int) : List Bool := List.zipWith (fun a b => !(a == 0) && b == 0) now was
/-- counts, now and at the commit -/
structure RfOk (now was : List Int) : Prop where
  len : was.length = now.length
  lo : 1 ≤ now.length
  hi : now.length ≤ 1024
  bn : Byt now
  bw : Byt was
theorem isOf_len {now was : List Int} (h : was.length = now.length) : (isOf now was).length = now.length := by simp [isOf, h]
theorem frOf_len {now was : List Int} (h : was.length = now.length) : (frOf now was).length = now.length := by simp [frOf, h]
theorem zipWith_set {α β γ : Type} (f : α → β → γ) (a : List α) (b : List β) (k : Nat) (x : α) : List.zipWith f (a.set k x) b = match b[k]? with | some y => (List.zipWith f a b).set k (f x y) | none => List.zipWith f a b := by
  induction a generalizing b k with
  | nil => cases h : b[k]? <;> simp
  | cons p a ih =>
    cases b with
    | nil => simp
    | cons q b =>
      cases k with
      | zero => simp
      | succ k =>
        rw [List.set_cons_succ, List.zipWith_cons_cons, ih, List.getElem?_cons_succ]
        cases h : b[k]? <;> simp
theorem isOf_set {now was : List Int} {k : Nat} (h : was.length = now.length) (hk : k < now.length) (x : Int) : isOf (now.set k x) was = (isOf now was).set k (x == 0 && gat was k == 0) := by
  unfold isOf
  rw [zipWith_set, gat_get (show k < was.length by omega)]
theorem frOf_set {now was : List Int} {k : Nat} (h : was.length = now.length) (hk : k < now.length) (x : Int) : frOf (now.set k x) was = (frOf now was).set k (!(x == 0) && gat was k == 0) := by
  unfold frOf
  rw [zipWith_set, gat_get (show k < was.length by omega)]
theorem isOf_get {now was : List Int} {k : Nat} (h : was.length = now.length) (hk : k < now.length) : (isOf now was)[k]? = some (gat now k == 0 && gat was k == 0) := by
  unfold isOf
  rw [List.getElem?_zipWith, gat_get hk, gat_get (show k < was.length by omega)]
theorem frOf_get {now was : List Int} {k : Nat} (h : was.length = now.length) (hk : k < now.length) : (frOf now was)[k]? = some (!(gat now k == 0) && gat was k == 0) := by
  unfold frOf
  rw [List.getElem?_zipWith, gat_get hk, gat_get (show k < was.length by omega)]
theorem set_same {α : Type} {l : List α} {k : Nat} {x : α} (h : l[k]? = some x) : l.set k x = l := by
  apply List.ext_getElem?
  intro j
  rw [List.getElem?_set]
  by_cases e : k = j
  · subst e
    obtain ⟨h1, -⟩ := List.getElem?_eq_some_iff.1 h
    rw [if_pos rfl, if_pos h1, h]
  · rw [if_neg e]
theorem isOf_self (l : List Int) : isOf l l = l.map (· == 0) := by
  unfold isOf
  rw [List.zipWith_self]
  apply List.map_congr_left
  intro a _
  cases a == 0 <;> rfl
theorem frOf_self (l : List Int) : frOf l l = List.replicate l.length false := by
  unfold frOf
  rw [List.zipWith_self]
  apply List.ext_getElem?
  intro k
  rw [List.getElem?_map, List.getElem?_replicate]
  by_cases h : k < l.length
  · rw [List.getElem?_eq_getElem h, if_pos h]
    cases hh : l[k] == 0 <;> simp [hh]
  · rw [List.getElem?_eq_none (by omega), if_neg h]; rfl
def alNow (now was : List Int) : List Int := match leastOf (isOf now was) with | some k => now.set k 1 | none => now
theorem alloc_step {now was : List Int} (h : RfOk now was) {k : Nat} (hl : leastOf (isOf now was) = some k) :
    k < now.length ∧ gat now k = 0 ∧ gat was k = 0 ∧ isOf (now.set k 1) was = (isOf now was).set k false ∧ frOf (now.set k 1) was = (frOf now was).set k true ∧ RfOk (now.set k 1) was := by
  obtain ⟨h1, h2, -⟩ := leastOf_is hl
  rw [isOf_len h.len] at h2
  rw [isOf_get h.len h2] at h1
  simp only [Option.some.injEq, Bool.and_eq_true, beq_iff_eq] at h1
  refine ⟨h2, h1.1, h1.2, ?_, ?_, ⟨by rw [List.length_set]; exact h.len, by rw [List.length_set]; exact h.lo, by rw [List.length_set]; exact h.hi, ?_, h.bw⟩⟩
  · rw [isOf_set h.len h2]; rfl
  · rw [frOf_set h.len h2, h1.2]; rfl
  · intro x hx
    rcases List.mem_or_eq_of_mem_set hx with hx | rfl
    · exact h.bn x hx
    · decide
/-- why a block can't be counted -/
def whyE (now : List Int) (x : Int) : Int := if x < 0 ∨ (now.length : Int) ≤ x then 1 else if gat now x.toNat = 0 then 6 else 0
def inErr (now : List Int) (x : Int) : Int := if whyE now x ≠ 0 then whyE now x else if gat now x.toNat = 255 then 8 else 0
def inNow (now : List Int) (x : Int) : List Int := if inErr now x = 0 then now.set x.toNat (gat now x.toNat + 1) else now
def deNow (now : List Int) (x : Int) : List Int := if whyE now x = 0 then now.set x.toNat (gat now x.toNat - 1) else now
def deGone (now : List Int) (x : Int) : Bool := decide (whyE now x = 0) && decide (gat now x.toNat - 1 = 0)
theorem gat_byt {l : List Int} {k : Nat} (h : Byt l) (hk : k < l.length) : 0 ≤ gat l k ∧ gat l k < 256 := h _ (gat_mem hk)
theorem set_byt {l : List Int} {k : Nat} {x : Int} (h : Byt l) (hx : 0 ≤ x ∧ x < 256) : Byt (l.set k x) := by
  intro y hy
  rcases List.mem_or_eq_of_mem_set hy with hy | rfl
  · exact h y hy
  · exact hx
/-- a count that stays one: nothing turns of what is free or fresh -/
theorem keep_step {now was : List Int} (h : RfOk now was) {k : Nat} (hk : k < now.length) {x : Int} (hx : 0 ≤ x ∧ x < 256) (h0 : (x == 0) = (gat now k == 0)) :
    isOf (now.set k x) was = isOf now was ∧ frOf (now.set k x) was = frOf now was ∧ RfOk (now.set k x) was := by
  refine ⟨?_, ?_, ⟨by rw [List.length_set]; exact h.len, by rw [List.length_set]; exact h.lo, by rw [List.length_set]; exact h.hi, set_byt h.bn hx, h.bw⟩⟩
  · rw [isOf_set h.len hk, h0]; exact set_same (isOf_get h.len hk)
  · rw [frOf_set h.len hk, h0]; exact set_same (frOf_get h.len hk)
/-- a count that becomes none -/
theorem gone_step {now was : List Int} (h : RfOk now was) {k : Nat} (hk : k < now.length) (h1 : ¬ gat now k = 0) :
    (gat was k = 0 → (frOf now was)[k]? = some true ∧ isOf (now.set k 0) was = (isOf now was).set k true ∧ frOf (now.set k 0) was = (frOf now was).set k false ∧ (isOf now was)[k]? ≠ some true) ∧
    (¬ gat was k = 0 → (frOf now was)[k]? = some false ∧ isOf (now.set k 0) was = isOf now was ∧ frOf (now.set k 0) was = frOf now was) ∧ RfOk (now.set k 0) was := by
  have hi := isOf_get h.len hk
  have hf := frOf_get h.len hk
  have e1 : (gat now k == 0) = false := by simpa using h1
  rw [e1] at hi hf
  refine ⟨fun hw => ?_, fun hw => ?_, ⟨by rw [List.length_set]; exact h.len, by rw [List.length_set]; exact h.lo, by rw [List.length_set]; exact h.hi, set_byt h.bn (by decide), h.bw⟩⟩
  · have e2 : (gat was k == 0) = true := by simpa using hw
    rw [e2] at hi hf
    refine ⟨hf, ?_, ?_, by rw [hi]; simp⟩
    · rw [isOf_set h.len hk, e2]; rfl
    · rw [frOf_set h.len hk, e2]; rfl
  · have e2 : (gat was k == 0) = false := by simpa using hw
    rw [e2] at hi hf
    refine ⟨hf, ?_, ?_⟩
    · rw [isOf_set h.len hk, e2]; exact set_same hi
    · rw [frOf_set h.len hk, e2]; exact set_same hf
theorem commit_ok {now was : List Int} (h : RfOk now was) : RfOk now now := ⟨rfl, h.lo, h.hi, h.bn, h.bn⟩
theorem abort_ok {now was : List Int} (h : RfOk now was) : RfOk was was := ⟨rfl, by have := h.len; have := h.lo; omega, by have := h.len; have := h.hi; omega, h.bw, h.bw⟩
/-- which are free while the counts are gone through -/
def isTo (now : List Int) (k : Nat) : List Bool := (now.take k).map (· == 0) ++ List.replicate (now.length - k) true
theorem isTo_len {now : List Int} {k : Nat} (hk : k ≤ now.length) : (isTo now k).length = now.length := by simp [isTo]; omega
theorem isTo_all (now : List Int) : isTo now now.length = isOf now now := by simp [isTo, isOf_self]
theorem isTo_zero (now : List Int) : isTo now 0 = List.replicate now.length true := by simp [isTo]
theorem isTo_succ {now : List Int} {k : Nat} (hk : k < now.length) : isTo now (k + 1) = if gat now k = 0 then isTo now k else (isTo now k).set k false := by
  obtain ⟨d, hd⟩ : ∃ d, now.length = k + 1 + d := ⟨now.length - (k + 1), by omega⟩
  have e1 : now.take (k + 1) = now.take k ++ [gat now k] := by rw [List.take_add_one, gat_get hk]; rfl
  have e2 : ((now.take k).map (· == 0)).length = k := by rw [List.length_map, List.length_take]; omega
  unfold isTo
  rw [e1, hd, show k + 1 + d - (k + 1) = d by omega, show k + 1 + d - k = d + 1 by omega, List.map_append, List.replicate_succ]
  by_cases h : gat now k = 0
  · rw [if_pos h, h]; simp
  · rw [if_neg h, List.set_append_right _ _ (by omega), e2, Nat.sub_self, List.set_cons_zero]
    have : (gat now k == 0) = false := by simpa using h
    simp [this]
theorem isTo_get {now : List Int} {k : Nat} (hk : k < now.length) : (isTo now k)[k]? = some true := by
  have e2 : ((now.take k).map (· == 0)).length = k := by rw [List.length_map, List.length_take]; omega
  unfold isTo
  rw [List.getElem?_append_right (by omega), e2, Nat.sub_self, List.getElem?_replicate, if_pos (by omega)]
end Go.Proofs.Ytepooiiaijbljaa
