/-
  Plain laws: the places of a space as a row; what the least one leaves. Contracts of sort.IntsAreSorted.
-/
import Derived.Test.YtdblokglldalnaaFreeV
namespace Go.Proofs.Ytdblokglldalnaa
open Go.RowKit
set_option linter.unusedVariables false
set_option linter.unusedSimpArgs false
theorem places_mem {is : List Bool} {x : Int} : x ∈ places is ↔ ∃ k : Nat, x = k ∧ is[k]? = some true := by
  unfold places
  simp only [List.mem_map, List.mem_filter, List.mem_range, beq_iff_eq]
  constructor
  · rintro ⟨k, ⟨_, h⟩, rfl⟩; exact ⟨k, rfl, h⟩
  · rintro ⟨k, rfl, h⟩
    exact ⟨k, ⟨(List.getElem?_eq_some_iff.1 h).1, h⟩, rfl⟩
theorem places_lt (is : List Bool) : (places is).Pairwise (· < ·) := by
  unfold places
  refine List.Pairwise.map _ (fun a b h => ?_) (List.Pairwise.filter _ List.pairwise_lt_range)
  omega
theorem places_nil {is : List Bool} (h : leastOf is = none) : places is = [] := by
  apply List.eq_nil_iff_forall_not_mem.2
  intro x hx
  obtain ⟨k, -, hk⟩ := places_mem.1 hx
  exact leastOf_no h k hk
theorem places_cons {is : List Bool} {k : Nat} (h : leastOf is = some k) : places is = (k : Int) :: places (is.set k false) := by
  obtain ⟨h1, h2, h3⟩ := leastOf_is h
  obtain ⟨d, hd⟩ : ∃ d, is.length = k + 1 + d := ⟨is.length - (k + 1), by omega⟩
  unfold places
  rw [List.length_set, hd, List.range_add, List.range_succ, List.filter_append, List.filter_append, List.filter_append, List.filter_append]
  have e1 : (List.range k).filter (fun j => is[j]? == some true) = [] := by
    rw [List.filter_eq_nil_iff]
    intro j hj
    have := h3 j (List.mem_range.1 hj)
    simpa using this
  have e2 : (List.range k).filter (fun j => (is.set k false)[j]? == some true) = [] := by
    rw [List.filter_eq_nil_iff]
    intro j hj
    have hj := List.mem_range.1 hj
    have := h3 j hj
    rw [set_get h2, if_neg (by omega)]
    simpa using this
  have e3 : List.filter (fun j => is[j]? == some true) [k] = [k] := by simp [h1]
  have e4 : List.filter (fun j => (is.set k false)[j]? == some true) [k] = [] := by simp [set_get h2]
  have e5 : ((List.range d).map (fun x => k + 1 + x)).filter (fun j => (is.set k false)[j]? == some true) = ((List.range d).map (fun x => k + 1 + x)).filter (fun j => is[j]? == some true) := by
    apply List.filter_congr
    intro j hj
    obtain ⟨i, _, rfl⟩ := List.mem_map.1 hj
    rw [set_get h2, if_neg (by omega)]
  rw [e1, e2, e3, e4, e5]
  rfl
/-- the step of Takes that rise -/
theorem places_step {is : List Bool} {x : Int} {r : List Int} (h : places is = x :: r) : ((takeAt is : Nat) : Int) = x ∧ takeErr is = 0 ∧ places (takeIs is) = r := by
  cases hl : leastOf is with
  | none => rw [places_nil hl] at h; cases h
  | some k =>
    rw [places_cons hl] at h
    injection h with h1 h2
    refine ⟨by unfold takeAt; rw [hl]; exact h1, by unfold takeErr; rw [hl]; rfl, by unfold takeIs; rw [hl]; exact h2⟩
theorem places_end {is : List Bool} (h : places is = []) : takeErr is = 8 ∧ takeIs is = is := by
  cases hl : leastOf is with
  | none => exact ⟨by unfold takeErr; rw [hl]; rfl, by unfold takeIs; rw [hl]⟩
  | some k => rw [places_cons hl] at h; cases h
theorem places_ext {a b : List Bool} (hl : a.length = b.length) (h : ∀ k : Nat, a[k]? = some true ↔ b[k]? = some true) : a = b := by
  apply List.ext_getElem?
  intro k
  have hk := h k
  rcases Nat.lt_or_ge k a.length with h1 | h1
  · rw [List.getElem?_eq_getElem h1, List.getElem?_eq_getElem (hl ▸ h1)] at hk ⊢
    cases ha : a[k] <;> cases hb : b[k] <;> simp_all
  · rw [List.getElem?_eq_none h1, List.getElem?_eq_none (by omega)]
section
variable {w0 w : World} {O : Nat → Prop} {L : List Asr}
theorem nan_calls {x : Int} : Calls Try.prog 38 #[.int .i64 x] w fun e w' => e = .returned (.bool false) ∧ w = w' := by
  go_enter Try.func38, Try.ntmps38
  go_wp2
  go_ret
  exact ⟨rfl, rfl⟩
theorem less_calls {x y : Int} : Calls Try.prog 35 #[.int .i64 x, .int .i64 y] w fun e w' => e = .returned (.bool (decide (x < y))) ∧ w = w' := by
  by_cases h : x < y
  · go_enter Try.func35, Try.ntmps35
    go_wp2_with fail
    refine nan_calls.mono ?_
    rintro e w' ⟨rfl, rfl⟩
    go_wp2
    go_ret
    exact ⟨by simp [h], rfl⟩
  · go_enter Try.func35, Try.ntmps35
    go_wp2_with fail
    refine nan_calls.mono ?_
    rintro e w' ⟨rfl, rfl⟩
    go_wp2
    go_ret
    exact ⟨by simp [h], rfl⟩
theorem sorted_true {A : Option Addr} {n c : Nat} {xs : List Int} (HS : Sep w0 w O L) (hr : Rb w0 O L 1 A n (kv .i64 xs)) (hp : xs.Pairwise (· < ·)) (hn : n ≤ 1048576) :
    Calls Try.prog 29 #[.slice A n c] w fun e w' => e = .returned (.bool true) ∧ Sep w0 w' O L := by
  have hl := hr.klen HS
  have HP := hid hp
  clear hp
  go_enter Try.func29, Try.ntmps29
  go_wp2
  go_loopw [3] (fun v wr => ∃ k : Nat, v = .int .i64 ((k : Int) - 1) ∧ k ≤ n ∧ Sep w0 wr O L) (fun v _ => (intOf v + 1).toNat)
  case atStart => exact ⟨n, rfl, Nat.le_refl _, HS⟩
  case round =>
    obtain ⟨k, rfl, hk, H⟩ := hrel
    clear HS
    by_cases h1 : 1 < k
    · obtain ⟨j, rfl⟩ : ∃ j, k = j + 2 := ⟨k - 2, by omega⟩
      obtain ⟨ad, y, rfl, hy, _, ck⟩ := hr.elemn H (show j + 1 < n by omega)
      obtain ⟨bd, z, hbd, hz, _, dk⟩ := hr.elemn H (show j < n by omega)
      injection hbd with hbd
      subst hbd
      have hlt : z < y := by
        obtain ⟨q1, e1⟩ := List.getElem?_eq_some_iff.1 hy
        obtain ⟨q2, e2⟩ := List.getElem?_eq_some_iff.1 hz
        have := List.pairwise_iff_getElem.1 HP.out j (j + 1) q2 q1 (by omega)
        rwa [e1, e2] at this
      have hlt2 : ¬ y < z := by omega
      have hd : decide (y < z) = false := decide_eq_false hlt2
      have e1 : (((j + 2 : Nat) : Int) - 1) = ((j + 1 : Nat) : Int) := by omega
      have e2 : (((j + 1 : Nat) : Int) - 1) = (j : Int) := by omega
      rw [e1]
      have i1 : ((j + 1 : Nat) : Int) < n := by omega
      have i2 : (j : Int) < n := by omega
      have i3 : (0 : Int) < ((j + 1 : Nat) : Int) := by omega
      have iw : IntKind.i64.wrap (j : Int) = j := by rw [IntKind.wrap_i64]; omega
      have hls := fun w => less_calls (w := w) (x := y) (y := z)
      rw [hd] at hls
      clear hy hz e1 hlt hd hl
      generalize hj1 : j + 1 = j1 at *
      go_upto_region 4 with (fail)
      go_quiet (first | (go_at_call 35; exact Calls.quiet_of_same ((hls _).mono fun _ _ h => ⟨h.1, h.2.symm⟩)))
      go_wp2
      go_roundw
      case rel => exact ⟨j1, by go_num, by omega, H.drewN nq⟩
      case measure => simp [intOf]; omega
    · have i1 : ¬ (0 : Int) < (k : Int) - 1 := by omega
      go_wp2
      go_ret
      exact ⟨rfl, H⟩
theorem intsSorted_true {A : Option Addr} {n c : Nat} {xs : List Int} (HS : Sep w0 w O L) (hr : Rb w0 O L 1 A n (kv .i64 xs)) (hp : xs.Pairwise (· < ·)) (hn : n ≤ 1048576) :
    Calls Try.prog 16 #[.slice A n c] w fun e w' => e = .returned (.bool true) ∧ Sep w0 w' O L := by
  go_enter Try.func16, Try.ntmps16
  go_wp2_with fail
  refine (sorted_true HS hr hp hn).mono ?_
  rintro e w' ⟨rfl, H⟩
  go_wp2
  go_ret
  exact ⟨rfl, H⟩
end
end Go.Proofs.Ytdblokglldalnaa
