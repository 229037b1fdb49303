/-
  The rows of what a queue holds, and the methods of queue.row: how they are found through a pointer to it, and what they do.
-/
import Derived.Test.YtkdoocgjagpcbaaHeapX
import Derived.Test.YtkdoocgjagpcbaaProg
import Derived.Test.YtkdoocgjagpcbaaSep
import Derived.Test.YtkdoocgjagpcbaaBlk
import Derived.KernelRfl
import Derived.WalkSpells
import Derived.Deep.DeepCutAuto
import Derived.Deep.RegionHeldLaw
import Derived.Deep.RegionLaw
import Derived.Deep.QuietTactic
import Derived.BigQuiet
namespace Go.Proofs.Ytkdoocgjagpcbaa
open Go.RowKit
set_option linter.unusedVariables false
set_option linter.unusedSimpArgs false

/-- what a queue holds of one request -/
structure Hd where
  flow : Int
  cost : Int
  id : Int
  tag : Int
  n : Int
deriving DecidableEq, Inhabited
def hcs (h : Hd) : List Value := [.int .i64 h.flow, .int .i64 h.cost, .int .u64 h.id, .int .i64 h.tag, .int .i64 h.n]
def hv (l : List Hd) : List Value := l.flatMap hcs
/-- the order of a queue's heap -/
def ltH (a b : Hd) : Bool := if a.tag = b.tag then decide (a.n < b.n) else decide (a.tag < b.tag)
theorem ltH_ordr : Ordr ltH where
  asym := fun {a b} h => by unfold ltH at *; split at h <;> split <;> simp_all <;> omega
  ntrans := fun {a b c} h1 h2 => by unfold ltH at *; split at h1 <;> split at h2 <;> split <;> simp_all <;> omega
theorem hv_cons (h : Hd) (l : List Hd) : hv (h :: l) = hcs h ++ hv l := by simp [hv]
theorem hv_append (a b : List Hd) : hv a ++ hv b = hv (a ++ b) := by simp [hv]
theorem hv_len (l : List Hd) : (hv l).length = l.length * 5 := by
  induction l with
  | nil => rfl
  | cons v l ih => rw [hv_cons, List.length_append, ih, List.length_cons]; simp [hcs]; omega
theorem hv_get (l : List Hd) : ∀ (i j : Nat), j < 5 → (hv l)[i * 5 + j]? = (l[i]?).bind fun x => (hcs x)[j]? := by
  induction l with
  | nil => intro i j _; simp [hv]
  | cons x l ih =>
    intro i j hj
    rw [hv_cons]
    cases i with
    | zero =>
      rw [Nat.zero_mul, Nat.zero_add, List.getElem?_append_left (by simpa [hcs] using hj)]
      simp
    | succ i =>
      rw [List.getElem?_append_right (by simp [hcs]; omega), show (i + 1) * 5 + j - (hcs x).length = i * 5 + j by simp [hcs]; omega, ih i j hj]
      simp
theorem hv_one (l : List Hd) : ∀ u ∈ hv l, u.oneCell' = true := by
  intro u hu
  obtain ⟨x, _, hx⟩ := List.mem_flatMap.1 hu
  simp only [hcs, List.mem_cons, List.not_mem_nil, or_false] at hx
  rcases hx with rfl | rfl | rfl | rfl | rfl <;> rfl
theorem hv_take (l : List Hd) (m : Nat) : (hv l).take (m * 5) = hv (l.take m) := by
  induction l generalizing m with
  | nil => simp [hv]
  | cons x l ih =>
    cases m with
    | zero => simp [hv]
    | succ m =>
      rw [List.take_succ_cons, hv_cons, hv_cons, ← ih m, show (m + 1) * 5 = (hcs x).length + m * 5 by simp [hcs]; omega, List.take_length_add_append]

theorem mt_less {w : World} {g o n c : Nat} {A : Option Addr} (h : w.cell? ⟨g, o, none⟩ = some (.slice A n c)) :
    (method (Try.prog.types.size + 100) 63 (.pointer (some ⟨g, o, none⟩)) "Less").run Try.prog w = .ok (57, .slice A n c) w := by
  have e : (method (Try.prog.types.size + 100) 63 (.pointer (some ⟨g, o, none⟩)) "Less").run Try.prog w = (do pure (57, ← receiverAt 63 (.val (.pointer (some ⟨g, o, none⟩))) false (some "Less")) : Sem (FuncId × Value)).run Try.prog w := by kernel_rfl
  have hn : Builtin.ssaWrapNilChk_ #[63] 63 #[.pointer (some ⟨g, o, none⟩), strVal "", strVal "Less"] = pure (.pointer (some ⟨g, o, none⟩)) := by kernel_rfl
  rw [e]
  simp [receiverAt, Place.get, hn, asAddr, loadVar, h]
theorem mt_swap {w : World} {g o n c : Nat} {A : Option Addr} (h : w.cell? ⟨g, o, none⟩ = some (.slice A n c)) :
    (method (Try.prog.types.size + 100) 63 (.pointer (some ⟨g, o, none⟩)) "Swap").run Try.prog w = .ok (58, .slice A n c) w := by
  have e : (method (Try.prog.types.size + 100) 63 (.pointer (some ⟨g, o, none⟩)) "Swap").run Try.prog w = (do pure (58, ← receiverAt 63 (.val (.pointer (some ⟨g, o, none⟩))) false (some "Swap")) : Sem (FuncId × Value)).run Try.prog w := by kernel_rfl
  have hn : Builtin.ssaWrapNilChk_ #[63] 63 #[.pointer (some ⟨g, o, none⟩), strVal "", strVal "Swap"] = pure (.pointer (some ⟨g, o, none⟩)) := by kernel_rfl
  rw [e]
  simp [receiverAt, Place.get, hn, asAddr, loadVar, h]
theorem mt_len {w : World} {g o n c : Nat} {A : Option Addr} (h : w.cell? ⟨g, o, none⟩ = some (.slice A n c)) :
    (method (Try.prog.types.size + 100) 63 (.pointer (some ⟨g, o, none⟩)) "Len").run Try.prog w = .ok (56, .slice A n c) w := by
  have e : (method (Try.prog.types.size + 100) 63 (.pointer (some ⟨g, o, none⟩)) "Len").run Try.prog w = (do pure (56, ← receiverAt 63 (.val (.pointer (some ⟨g, o, none⟩))) false (some "Len")) : Sem (FuncId × Value)).run Try.prog w := by kernel_rfl
  have hn : Builtin.ssaWrapNilChk_ #[63] 63 #[.pointer (some ⟨g, o, none⟩), strVal "", strVal "Len"] = pure (.pointer (some ⟨g, o, none⟩)) := by kernel_rfl
  rw [e]
  simp [receiverAt, Place.get, hn, asAddr, loadVar, h]
theorem mt_push (w : World) (g o : Nat) :
    (method (Try.prog.types.size + 100) 63 (.pointer (some ⟨g, o, none⟩)) "Push").run Try.prog w = .ok (60, .pointer (some ⟨g, o, none⟩)) w := by kernel_rfl
theorem mt_pop (w : World) (g o : Nat) :
    (method (Try.prog.types.size + 100) 63 (.pointer (some ⟨g, o, none⟩)) "Pop").run Try.prog w = .ok (59, .pointer (some ⟨g, o, none⟩)) w := by kernel_rfl

section
variable {w0 w : World} {O : Nat → Prop} {L : List Asr}
theorem Sep.hcell {e : TypeId} {g n c : Nat} {l : List Hd} (h : Sep w0 w O (own e 5 (some ⟨g, 0, none⟩) n c (hv l) :: L)) {i : Nat} (hi : i < l.length) (hn : l.length = n) (k : Nat) {v : Value} (hk : (hcs (gat l i))[k]? = some v) : w.cell? ⟨g, i * 5 + k, none⟩ = some v := by
  have hk5 : k < 5 := by
    rcases Nat.lt_or_ge k 5 with h | h
    · exact h
    · rw [List.getElem?_eq_none (by simpa [hcs] using h)] at hk; cases hk
  have := h.own_row.cellAt (i * 5 + k) (by omega)
  rw [this, hv_get _ _ _ hk5, gat_get hi]
  exact hk
theorem row_len {A : Option Addr} {n c : Nat} : Calls Try.prog 56 #[.slice A n c] w fun e w' => e = .returned (.int .i64 n) ∧ w' = w := by
  go_enter Try.func56, Try.ntmps56
  go_wp2
  go_ret
  exact ⟨rfl, rfl⟩

set_option maxHeartbeats 1000000 in
theorem row_less {A : Option Addr} {c : Nat} {xs : List Hd} {i j : Nat} (HS : Sep w0 w O (own 65 5 A xs.length c (hv xs) :: L)) (hi : i < xs.length) (hj : j < xs.length) :
    Calls Try.prog 57 #[.slice A xs.length c, .int .i64 i, .int .i64 j] w fun e w' => e = .returned (.bool (ltH (gat xs i) (gat xs j))) ∧ ∃ q, w' = w.drewN q := by
  obtain ⟨g, rfl⟩ := HS.own_some (by omega)
  obtain ⟨x, hx⟩ : ∃ x, x = gat xs i := ⟨_, rfl⟩
  obtain ⟨y, hy⟩ : ∃ y, y = gat xs j := ⟨_, rfl⟩
  have ci := HS.hcell hi rfl 3 rfl
  have cj := HS.hcell hj rfl 3 rfl
  have di := fun q => (HS.drewN q).hcell hi rfl 4 rfl
  have dj := fun q => (HS.drewN q).hcell hj rfl 4 rfl
  have ei := fun q => (HS.drewN q).hcell hi rfl 3 rfl
  have ej := fun q => (HS.drewN q).hcell hj rfl 3 rfl
  rw [← hx, ← hy]
  rw [← hx] at ci di ei
  rw [← hy] at cj dj ej
  have i1 : (i : Int) < xs.length := by omega
  have j1 : (j : Int) < xs.length := by omega
  obtain ⟨r, hr⟩ : ∃ r, r = ltH x y := ⟨_, rfl⟩
  rw [← hr]
  unfold ltH at hr
  clear HS hi hj hx hy
  by_cases ht : x.tag = y.tag
  · rw [if_pos ht] at hr
    rw [ht] at ci
    have HR := hid hr
    clear hr ei ej
    generalize x.tag = tx at *
    generalize y.tag = ty at *
    have HT := hid ht
    clear ht
    go_enter Try.func57, Try.ntmps57
    go_upto_region 1 with (fail)
    go_quiet (fail)
    go_upto_region 3 with (fail)
    go_quiet (fail)
    go_wp2
    go_ret
    exact ⟨by rw [HR.out]; rfl, _, World.drewN_drewN _ _ _⟩
  · rw [if_neg ht] at hr
    have HR := hid hr
    have ht2 : (x.tag == y.tag) = false := by simpa using ht
    clear hr di dj
    generalize x.tag = tx at *
    generalize y.tag = ty at *
    have HT := hid ht
    go_enter Try.func57, Try.ntmps57
    go_upto_region 1 with (fail)
    go_quiet (fail)
    go_upto_region 2 with (fail)
    go_quiet (fail)
    go_wp2
    go_ret
    exact ⟨by rw [HR.out]; rfl, _, World.drewN_drewN _ _ _⟩
end
end Go.Proofs.Ytkdoocgjagpcbaa
