/-
  Contracts of admin's reader: fail and take.
-/
import Derived.Test.YtankfmfenbhkgaaAdmPut
import Derived.Deep.RegionHeldLaw
import Derived.Deep.DeepCutAuto
namespace Go.Proofs.Ytankfmfenbhkgaa
open Go.RowKit
set_option linter.unusedVariables false
set_option linter.unusedSimpArgs false

/-- the cells of a reader -/
abbrev rdC (A : Option Addr) (n c : Nat) (at_ : Int) (stop : Bool) (e : Int) : Array Value := #[.slice A n c, .int .i64 at_, .bool stop, .int .i64 e]
abbrev rdB (g : Nat) (A : Option Addr) (n c : Nat) (at_ : Int) (stop : Bool) (e : Int) : Asr := blk g 79 (rdC A n c at_ stop e)
section
variable {w0 w : World} {O : Nat → Prop} {L : List Asr}

theorem rfail_calls {g : Nat} {A : Option Addr} {n c : Nat} {at_ e x : Int} {stop is : Bool} (HS : Sep w0 w O (rdB g A n c at_ stop e :: L)) :
    Calls Try.prog 32 #[.pointer (some ⟨g, 0, none⟩), .bool is, .int .i64 x] w fun e' w' => e' = .returned (.tuple #[]) ∧ Sep w0 w' O (rdB g A n c at_ (stop || is) (if is && !stop then x else e) :: L) := by
  have k2 := HS.blk_at 2 rfl
  have f2 := HS.blk_frozen 2
  have f3 := HS.blk_frozen 3
  have k3 := HS.blk_at 3 rfl
  cases is
  · have e1 : (stop || false) = stop := by cases stop <;> rfl
    rw [e1]
    go_enter Try.func32, Try.ntmps32
    go_wp2
    go_end0
    exact ⟨rfl, HS⟩
  · cases stop
    · have HX := (HS.blk_set 2 (.bool true)).blk_set 3 (.int .i64 x)
      go_enter Try.func32, Try.ntmps32
      go_wp2
      go_end0
      exact ⟨rfl, HX⟩
    · go_enter Try.func32, Try.ntmps32
      go_wp2
      go_end0
      exact ⟨rfl, HS⟩

theorem rfail_stop {g : Nat} {A : Option Addr} {n c : Nat} {at_ e x : Int} {is : Bool} (HS : Sep w0 w O (rdB g A n c at_ true e :: L)) :
    Calls Try.prog 32 #[.pointer (some ⟨g, 0, none⟩), .bool is, .int .i64 x] w fun e' w' => e' = .returned (.tuple #[]) ∧ Sep w0 w' O (rdB g A n c at_ true e :: L) := by
  have h := rfail_calls (is := is) (x := x) HS
  have e1 : (true || is) = true := by cases is <;> rfl
  have e2 : (if (is && !true) = true then x else e) = e := by cases is <;> rfl
  rw [e1, e2] at h
  exact h

/-- there is more to come, or it stopped before -/
theorem rtake_no {g : Nat} {A : Option Addr} {n c a : Nat} {m e : Int} {stop : Bool} (HS : Sep w0 w O (rdB g A n c a stop e :: L)) (hn : n ≤ 140737488355328) (ha : a ≤ n) (h : stop = true ∨ (n : Int) - a < m) :
    Calls Try.prog 33 #[.pointer (some ⟨g, 0, none⟩), .int .i64 m] w fun e' w' => e' = .returned (.slice none 0 0) ∧ Sep w0 w' O (rdB g A n c a true (if stop then e else 0) :: L) := by
  have hw : IntKind.i64.wrap ((n : Int) - a) = n - a := by rw [IntKind.wrap_i64]; omega
  have key : (stop = true ∧ ¬ (n : Int) - a < m) ∨ (stop = true ∧ (n : Int) - a < m) ∨ (stop = false ∧ (n : Int) - a < m) := by
    by_cases hlt : (n : Int) - a < m
    · cases stop <;> simp [hlt]
    · cases stop <;> simp_all
  clear h
  have k0 := HS.blk_at 0 rfl
  have k1 := HS.blk_at 1 rfl
  rcases key with ⟨rfl, hlt⟩ | ⟨rfl, hlt⟩ | ⟨rfl, hlt⟩
  all_goals
    go_enter Try.func33, Try.ntmps33
    go_wp2_with fail
    go_region_held_law (fun w' => w'.cell? ⟨g, 0, none⟩ = some (.slice A n c) ∧ w'.cell? ⟨g, 1, none⟩ = some (.int .i64 a)) (first | exact ⟨HS1.blk_at 0 rfl, HS1.blk_at 1 rfl⟩ | exact ⟨HS.drew.blk_at 0 rfl, HS.drew.blk_at 1 rfl⟩)
      (first
        | (go_at_call 32; refine (rfail_calls HS.drew).mono ?_; rintro e' w1 ⟨rfl, HS1⟩))
    all_goals
      first
        | (rw [decide_eq_true hlt] at HS1)
        | (rw [decide_eq_false (Int.not_lt.2 hlt)] at HS1)
        | skip
      first
        | (replace HS1 : Sep w0 _ O (rdB g A n c a true e :: L) := HS1)
        | (replace HS1 : Sep w0 _ O (rdB g A n c a true 0 :: L) := HS1)
      have k2 := HS1.blk_at 2 rfl
      go_wp2
      go_ret
      exact ⟨rfl, HS1⟩

/-- the next bytes -/
theorem rtake_yes {g : Nat} {A : Option Addr} {n c a m : Nat} {e : Int} {l : List Int} (HS : Sep w0 w O (rdB g A n c a false e :: L)) (hr : Rb w0 O L 1 A n (by8 l)) (hA : (A = none ∧ n = 0 ∧ c = 0) ∨ ∃ ad, A = some ad) (hc : n ≤ c) (hn : n ≤ 140737488355328) (h : a + m ≤ n) :
    Calls Try.prog 33 #[.pointer (some ⟨g, 0, none⟩), .int .i64 m] w fun e' w' => ∃ A' c', e' = .returned (.slice A' m c') ∧ m ≤ c' ∧ Rb w0 O L 1 A' m (by8 ((l.drop a).take m)) ∧ Sep w0 w' O (rdB g A n c ((a + m : Nat) : Int) false e :: L) := by
  have hlen := hr.cons.klen HS
  have hw : IntKind.i64.wrap ((n : Int) - a) = n - a := by rw [IntKind.wrap_i64]; omega
  have hw2 : IntKind.i64.wrap ((a : Int) + m) = a + m := by rw [IntKind.wrap_i64]; omega
  have hw3 : IntKind.i64.wrap ((a : Int) + m - m) = a := by rw [IntKind.wrap_i64]; omega
  have hlt : ¬ (n : Int) - a < m := by omega
  have i1 : (0 : Int) ≤ a := by omega
  have i2 : (a : Int) ≤ a + m := by omega
  have i3 : (a : Int) + m ≤ c := by omega
  have k0 := HS.blk_at 0 rfl
  have k1 := HS.blk_at 1 rfl
  have hq := hr.kcut (j := a) (m := a + m) (cap := c) (by omega) h hc
  rw [Nat.add_sub_cancel_left] at hq
  have HQ := hid hq
  clear hq
  have hw4 : IntKind.i64.wrap (a : Int) = a := by rw [IntKind.wrap_i64]; omega
  have key : (a = c ∧ Aside (m = 0)) ∨ (∃ ad, A = some ad ∧ c ≠ a) := by
    by_cases hca : c = a
    · exact .inl ⟨hca.symm, hid (by omega)⟩
    · rcases hA with ⟨h1, h2, h3⟩ | ⟨ad, rfl⟩
      · exact absurd (by omega) hca
      · exact .inr ⟨ad, rfl, hca⟩
  clear hA
  have e3 : ((a + m : Nat) : Int) = (a : Int) + m := by omega
  rw [e3]
  clear e3
  rcases key with ⟨rfl, hm0⟩ | ⟨ad, rfl, hca⟩
  all_goals
    go_enter Try.func33, Try.ntmps33
    go_wp2_with fail
    go_region_held_law (fun w' => w'.cell? ⟨g, 0, none⟩ = w.cell? ⟨g, 0, none⟩ ∧ w'.cell? ⟨g, 1, none⟩ = w.cell? ⟨g, 1, none⟩) (first | exact ⟨(HS1.blk_at 0 rfl).trans k0.symm, (HS1.blk_at 1 rfl).trans k1.symm⟩ | exact ⟨rfl, rfl⟩)
      (first
        | (go_at_call 32; refine (rfail_calls HS.drew).mono ?_; rintro e' w1 ⟨rfl, HS1⟩))
    all_goals
      first
        | (rw [decide_eq_false (Int.not_lt.2 hlt)] at HS1)
        | skip
      replace HS1 : Sep w0 w1 O (rdB g _ n _ _ false e :: L) := HS1
      have k1' := HS1.blk_at 1 rfl
      have k2' := HS1.blk_at 2 rfl
      have f1' := HS1.blk_frozen 1
      go_upto_region 5 with (fail)
      have HS2 := HS1.blk_set 1 (.int .i64 ((a : Int) + m))
      obtain ⟨w2, hw2⟩ : ∃ w2, w2 = w1.setCell ⟨g, 1, none⟩ (.int .i64 ((a : Int) + m)) := ⟨_, rfl⟩
      rw [← hw2] at HS2 ⊢
      clear hw2 HS1 k0 k1 k1' k2' f1' HS
      have k0 := HS2.blk_at 0 rfl
      have k1 := HS2.blk_at 1 rfl
      go_region_held_law (fun w' => w'.cell? ⟨g, 0, none⟩ = w2.cell? ⟨g, 0, none⟩ ∧ w'.cell? ⟨g, 1, none⟩ = w2.cell? ⟨g, 1, none⟩) (first | exact ⟨rfl, rfl⟩) (fail)
      all_goals
        have e2 : ((a : Int) + m).toNat - a = m := by omega
        go_wp2
        go_ret
        first
          | (have HQ' := HQ.out; rw [if_neg hca] at HQ'; exact ⟨some (ad.add a), c - a, by first | rfl | (rw [e2]; rfl), by omega, HQ', HS2.drew⟩)
          | (have HQ' := HQ.out; (first | rw [if_pos rfl] at HQ' | rw [if_pos trivial] at HQ'); exact ⟨A, 0, by first | rfl | (rw [hm0.out]; rfl), by have := hm0.out; omega, HQ', HS2.drew⟩)
          | trace_state
theorem rtake_yes_i {g : Nat} {A : Option Addr} {n c a m : Nat} {mi e : Int} {l : List Int} (HS : Sep w0 w O (rdB g A n c a false e :: L)) (hr : Rb w0 O L 1 A n (by8 l)) (hA : (A = none ∧ n = 0 ∧ c = 0) ∨ ∃ ad, A = some ad) (hc : n ≤ c) (hn : n ≤ 140737488355328) (hm : mi = m) (h : a + m ≤ n) :
    Calls Try.prog 33 #[.pointer (some ⟨g, 0, none⟩), .int .i64 mi] w fun e' w' => ∃ A' c', e' = .returned (.slice A' m c') ∧ m ≤ c' ∧ Rb w0 O L 1 A' m (by8 ((l.drop a).take m)) ∧ Sep w0 w' O (rdB g A n c ((a + m : Nat) : Int) false e :: L) := by
  subst hm
  exact rtake_yes HS hr hA hc hn h
end
end Go.Proofs.Ytankfmfenbhkgaa
