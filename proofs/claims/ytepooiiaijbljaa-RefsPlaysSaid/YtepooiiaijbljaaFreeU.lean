/-
  slices.Clone of a space's rows; make([]bool, n).
-/
import Derived.Test.YtepooiiaijbljaaFreeT
namespace Go.Proofs.Ytepooiiaijbljaa
open Go.RowKit
set_option linter.unusedVariables false
set_option linter.unusedSimpArgs false
theorem bv_one (l : List Bool) : ∀ u ∈ bv l, u.oneCell' = true := by
  intro u hu; obtain ⟨x, _, rfl⟩ := List.mem_map.1 hu; rfl
theorem mk_bool (s : Nat) (hs : s ≤ 1048576) (w : World) : (Instr.makeSlice 58 (.int .i64 s) (.int .i64 s)).run Try.prog w = .ok (.slice (some ⟨w.heap.size, 0, none⟩) s s) (w.alloc (.cells (Array.replicate s (.bool false)) 4)) := by
  obtain ⟨i0, hi0, hz0, hz1, hz2⟩ := info_parts info_bool
  have h := run_makeSlice (P := Try.prog) w 58 4 i0 (.bool false) Try.underlying58 hi0 hz0 .i64 .i64 s s (by omega) (by omega) (by rw [hz1]; simp; omega) (by rw [hz2]; omega) (by omega)
  rw [h, hz1]
  have e : madeCells (Value.bool false).cells ((s : Int).toNat * 1) = Array.replicate s (Value.bool false) := by
    apply Array.toList_inj.1
    rw [show (Value.bool false).cells = #[Value.bool false] from rfl, toList_madeCells_one]
    simp
  rw [e, Int.toNat_natCast]
section
variable {w0 w : World} {O : Nat → Prop} {L : List Asr} {g : Nat} {is : List Bool}

set_option maxHeartbeats 400000 in
theorem cloneb_calls {A : Option Addr} {n c : Nat} {xs : List Bool} (HS : Sep w0 w O L) (hr : Rb w0 O L 1 A n (bv xs)) (hn : n ≤ 140737488355328) :
    Calls Try.prog 37 #[.slice A n c] w fun e w' => ∃ A' c', e = .returned (.slice A' n c') ∧ Sep w0 w' O (own 4 1 A' n c' (bv xs) :: L) := by
  obtain ⟨i0, hi0, hz0, hz1, hz2⟩ := info_parts info_bool
  have q := fun w a n c n' c' => Lib.run_eql_slice_nil (P := Try.prog) w 58 4 a n c n' c' Try.underlying58
  rcases A with _ | ad
  · obtain ⟨rfl, e⟩ := hr.noneNil HS
    rw [e]
    go_enter Try.func37, Try.ntmps37
    go_wp2
    go_ret
    exact ⟨_, _, rfl, HS.nil _ _⟩
  · have HL := HS.lit #[] 4 1 0 rfl (Nat.zero_le _)
    have hrd := (hr.cons (P := own 4 1 (some ⟨w.heap.size, 0, none⟩) 0 0 [])).read HL
    go_enter Try.func37, Try.ntmps37
    go_wp2_with (at_builtin; refine wpList_append_sep rfl (.tmp 5) (.tmp 6) 58 rfl 4 i0 _ 1 1 Try.underlying58 hi0 hz0 hz1 hz2 rfl (by decide) rfl HL rfl hrd (bv_one xs) (by simp only [maxLen]; omega) (by omega) (Nat.zero_add n) rfl ?_; intro A' c' w1 HS1 hsz1)
    go_ret
    exact ⟨_, _, rfl, HS1⟩
set_option maxHeartbeats 400000 in
theorem clonei_calls {A : Option Addr} {n c : Nat} {xs : List Int} (HS : Sep w0 w O L) (hr : Rb w0 O L 1 A n (kv .i64 xs)) (hn : n ≤ 1048576) :
    Calls Try.prog 49 #[.slice A n c] w fun e w' => ∃ A' c', e = .returned (.slice A' n c') ∧ Sep w0 w' O (own 3 1 A' n c' (kv .i64 xs) :: L) := by
  obtain ⟨i0, hi0, hz0, hz1, hz2⟩ := info_parts info_int
  have q := fun w a n c n' c' => Lib.run_eql_slice_nil (P := Try.prog) w 71 3 a n c n' c' Try.underlying71
  rcases A with _ | ad
  · obtain ⟨rfl, e⟩ := hr.noneNil HS
    rw [e]
    go_enter Try.func49, Try.ntmps49
    go_wp2
    go_ret
    exact ⟨_, _, rfl, HS.nil _ _⟩
  · have HL := HS.lit #[] 3 1 0 rfl (Nat.zero_le _)
    have hrd := (hr.cons (P := own 3 1 (some ⟨w.heap.size, 0, none⟩) 0 0 [])).read HL
    go_enter Try.func49, Try.ntmps49
    go_wp2_with (at_builtin; refine wpList_append_sep rfl (.tmp 5) (.tmp 6) 71 rfl 3 i0 _ 1 8 Try.underlying71 hi0 hz0 hz1 hz2 rfl (by decide) rfl HL rfl hrd (kv_one _ _) (by simp only [maxLen]; omega) (by omega) (Nat.zero_add n) rfl ?_; intro A' c' w1 HS1 hsz1)
    go_ret
    exact ⟨_, _, rfl, HS1⟩

end
end Go.Proofs.Ytepooiiaijbljaa
