/-
  The methods of least: how they are found through a pointer to it, and what they do.
-/
import Derived.Test.YtepooiiaijbljaaFreeL
import Derived.Test.YtepooiiaijbljaaProg
import Derived.Test.YtepooiiaijbljaaSep
import Derived.KernelRfl
import Derived.WalkSpells
import Derived.Deep.DeepCutAuto
import Derived.Deep.RegionHeldLaw
import Derived.Deep.RegionLaw
import Derived.Deep.QuietTactic
import Derived.BigQuiet
namespace Go.Proofs.Ytepooiiaijbljaa
open Go.RowKit
set_option linter.unusedVariables false
set_option linter.unusedSimpArgs false

theorem mt_less {w : World} {g o n c : Nat} {A : Option Addr} (h : w.cell? ⟨g, o, none⟩ = some (.slice A n c)) :
    (method (Try.prog.types.size + 100) 75 (.pointer (some ⟨g, o, none⟩)) "Less").run Try.prog w = .ok (76, .slice A n c) w := by
  have e : (method (Try.prog.types.size + 100) 75 (.pointer (some ⟨g, o, none⟩)) "Less").run Try.prog w = (do pure (76, ← receiverAt 75 (.val (.pointer (some ⟨g, o, none⟩))) false (some "Less")) : Sem (FuncId × Value)).run Try.prog w := by kernel_rfl
  have hn : Builtin.ssaWrapNilChk_ #[75] 75 #[.pointer (some ⟨g, o, none⟩), strVal "", strVal "Less"] = pure (.pointer (some ⟨g, o, none⟩)) := by kernel_rfl
  rw [e]
  simp [receiverAt, Place.get, hn, asAddr, loadVar, h]
theorem mt_swap {w : World} {g o n c : Nat} {A : Option Addr} (h : w.cell? ⟨g, o, none⟩ = some (.slice A n c)) :
    (method (Try.prog.types.size + 100) 75 (.pointer (some ⟨g, o, none⟩)) "Swap").run Try.prog w = .ok (77, .slice A n c) w := by
  have e : (method (Try.prog.types.size + 100) 75 (.pointer (some ⟨g, o, none⟩)) "Swap").run Try.prog w = (do pure (77, ← receiverAt 75 (.val (.pointer (some ⟨g, o, none⟩))) false (some "Swap")) : Sem (FuncId × Value)).run Try.prog w := by kernel_rfl
  have hn : Builtin.ssaWrapNilChk_ #[75] 75 #[.pointer (some ⟨g, o, none⟩), strVal "", strVal "Swap"] = pure (.pointer (some ⟨g, o, none⟩)) := by kernel_rfl
  rw [e]
  simp [receiverAt, Place.get, hn, asAddr, loadVar, h]
theorem mt_len {w : World} {g o n c : Nat} {A : Option Addr} (h : w.cell? ⟨g, o, none⟩ = some (.slice A n c)) :
    (method (Try.prog.types.size + 100) 75 (.pointer (some ⟨g, o, none⟩)) "Len").run Try.prog w = .ok (75, .slice A n c) w := by
  have e : (method (Try.prog.types.size + 100) 75 (.pointer (some ⟨g, o, none⟩)) "Len").run Try.prog w = (do pure (75, ← receiverAt 75 (.val (.pointer (some ⟨g, o, none⟩))) false (some "Len")) : Sem (FuncId × Value)).run Try.prog w := by kernel_rfl
  have hn : Builtin.ssaWrapNilChk_ #[75] 75 #[.pointer (some ⟨g, o, none⟩), strVal "", strVal "Len"] = pure (.pointer (some ⟨g, o, none⟩)) := by kernel_rfl
  rw [e]
  simp [receiverAt, Place.get, hn, asAddr, loadVar, h]
theorem mt_push (w : World) (g o : Nat) :
    (method (Try.prog.types.size + 100) 75 (.pointer (some ⟨g, o, none⟩)) "Push").run Try.prog w = .ok (79, .pointer (some ⟨g, o, none⟩)) w := by kernel_rfl
theorem mt_pop (w : World) (g o : Nat) :
    (method (Try.prog.types.size + 100) 75 (.pointer (some ⟨g, o, none⟩)) "Pop").run Try.prog w = .ok (78, .pointer (some ⟨g, o, none⟩)) w := by kernel_rfl

section
variable {w0 w : World} {O : Nat → Prop} {L : List Asr}
theorem info_int : (Try.prog.info? 3).map (fun i => (i.zero, i.size, i.bytes)) = some (some (.int .i64 0), 1, 8) := by kernel_rfl

theorem least_len {A : Option Addr} {n c : Nat} : Calls Try.prog 75 #[.slice A n c] w fun e w' => e = .returned (.int .i64 n) ∧ w' = w := by
  go_enter Try.func75, Try.ntmps75
  go_wp2
  go_ret
  exact ⟨rfl, rfl⟩

theorem least_less {A : Option Addr} {c : Nat} {xs : List Int} {i j : Nat} (HS : Sep w0 w O (own 3 1 A xs.length c (kv .i64 xs) :: L)) (hi : i < xs.length) (hj : j < xs.length) :
    Calls Try.prog 76 #[.slice A xs.length c, .int .i64 i, .int .i64 j] w fun e w' => e = .returned (.bool (ltI (gat xs i) (gat xs j))) ∧ ∃ q, w' = w.drewN q := by
  obtain ⟨g, rfl⟩ := HS.own_some (by omega)
  have ci := HS.kcell hi rfl
  have cj := HS.kcell hj rfl
  rw [gat_int hi] at ci
  rw [gat_int hj] at cj
  have i1 : (i : Int) < xs.length := by omega
  have j1 : (j : Int) < xs.length := by omega
  clear HS hi hj
  go_enter Try.func76, Try.ntmps76
  go_upto_region 1 with (fail)
  go_quiet (fail)
  go_wp2
  go_ret
  exact ⟨rfl, _, rfl⟩

theorem least_swap {A : Option Addr} {c : Nat} {xs : List Int} {i j : Nat} (HS : Sep w0 w O (own 3 1 A xs.length c (kv .i64 xs) :: L)) (hi : i < xs.length) (hj : j < xs.length) :
    Calls Try.prog 77 #[.slice A xs.length c, .int .i64 i, .int .i64 j] w fun e w' => e = .returned (.tuple #[]) ∧ Sep w0 w' O (own 3 1 A xs.length c (kv .i64 (swp xs i j)) :: L) := by
  obtain ⟨g, rfl⟩ := HS.own_some (by omega)
  have ci := HS.kcell hi rfl
  have cj := HS.kcell hj rfl
  rw [gat_int hi] at ci
  rw [gat_int hj] at cj
  have fi := HS.own_frozen i
  have fj := HS.own_frozen j
  have HV := HS.own_set i (.int .i64 (gat xs j))
  have HW := HV.own_set j (.int .i64 (gat xs i))
  rw [kv_set, kv_set] at HW
  rw [kv_set] at HV
  have hj2 : j < (xs.set i (gat xs j)).length := by rw [List.length_set]; exact hj
  have c2 := HV.kcell hj2 (by rw [List.length_set])
  have c3 := HV.drew.kcell hj2 (by rw [List.length_set])
  have f2 := HV.own_frozen j
  have f3 := HV.drew.own_frozen j
  have i1 : (i : Int) < xs.length := by omega
  have j1 : (j : Int) < xs.length := by omega
  clear HS hi hj
  go_enter Try.func77, Try.ntmps77
  go_region_law (fail)
  all_goals
    go_end0
    exact ⟨rfl, HW⟩
end
end Go.Proofs.Ytepooiiaijbljaa
