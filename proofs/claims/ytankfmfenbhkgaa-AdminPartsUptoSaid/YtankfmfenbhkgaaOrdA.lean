/-
  Contracts of bytes.Clone, order.right, New, Len, Push, Peek, Take over the separation logic of YtankfmfenbhkgaaSep.
-/
import Derived.Test.YtankfmfenbhkgaaProg
import Derived.Test.YtankfmfenbhkgaaSep
import Derived.KernelRfl
import Derived.WalkSpells
namespace Go.Proofs.Ytankfmfenbhkgaa
open Go.RowKit
set_option linter.unusedVariables false
set_option linter.unusedSimpArgs false

abbrev by8 (l : List Int) : List Value := kv .u8 l
theorem by8_len (l : List Int) : (by8 l).length = l.length := kv_len _ _
theorem by8_one (l : List Int) : ∀ u ∈ by8 l, u.oneCell' = true := kv_one _ _
theorem by8_append (a b : List Int) : by8 a ++ by8 b = by8 (a ++ b) := kv_append _ _ _

theorem info_u8 : (Try.prog.info? 5).map (fun i => (i.zero, i.size, i.bytes)) = some (some (.int .u8 0), 1, 1) := by kernel_rfl

theorem Rb.none_ {w0 w : World} {O : Nat → Prop} {L : List Asr} {size n : Nat} {xs : List Value} (hr : Rb w0 O L size none n xs) (HS : Sep w0 w O L) : n = 0 ∧ xs = [] := by
  have h0 : n = 0 := by
    rcases Nat.eq_zero_or_pos n with h0 | h0
    · exact h0
    · obtain ⟨ad, h, _⟩ := (hr.read HS).2 h0
      cases h
  subst h0
  exact ⟨rfl, List.eq_nil_of_length_eq_zero (by simpa using hr.len HS)⟩

set_option maxHeartbeats 400000 in
theorem clone_calls {w0 w : World} {O : Nat → Prop} {L : List Asr} {A : Option Addr} {n c : Nat} {xs : List Value} (h1 : ∀ u ∈ xs, u.oneCell' = true) (HS : Sep w0 w O L) (hr : Rb w0 O L 1 A n xs) (hn : n ≤ 140737488355328) :
    Calls Try.prog 43 #[.slice A n c] w fun e w' => ∃ A' c', e = .returned (.slice A' n c') ∧ Sep w0 w' O (own 5 1 A' n c' xs :: L) := by
  obtain ⟨i0, hi0, hz0, hz1, hz2⟩ := info_parts info_u8
  have q := fun w a n c n' c' => Lib.run_eql_slice_nil (P := Try.prog) w 25 5 a n c n' c' Try.underlying25
  rcases A with _ | ad
  · obtain ⟨rfl, rfl⟩ := hr.none_ HS
    go_enter Try.func43, Try.ntmps43
    go_wp2
    go_ret
    exact ⟨_, _, rfl, HS.nil _ _⟩
  · have HL := HS.lit #[] 5 1 0 rfl (Nat.zero_le _)
    have hrd := (hr.cons (P := own 5 1 (some ⟨w.heap.size, 0, none⟩) 0 0 [])).read HL
    go_enter Try.func43, Try.ntmps43
    go_wp2_with (at_builtin; refine wpList_append_sep rfl (.tmp 5) (.tmp 6) 25 rfl 5 i0 _ 1 1 Try.underlying25 hi0 hz0 hz1 hz2 rfl (by decide) rfl HL rfl hrd h1 (by simp only [maxLen]; omega) (by omega) (Nat.zero_add n) rfl ?_; intro A' c' w1 HS1 hsz1)
    go_ret
    exact ⟨_, _, rfl, HS1⟩

theorem right_calls (a : Int) (w : World) : Calls Try.prog 44 #[.int .i64 a] w fun e w' => e = .returned (.bool (decide (1 ≤ a ∧ a ≤ 8))) ∧ w = w' := by
  by_cases h1 : 1 ≤ a <;> by_cases h2 : a ≤ 8 <;> (
    go_enter Try.func44, Try.ntmps44
    go_wp2
    go_ret
    exact ⟨by simp [h1, h2], rfl⟩)

/-- A struct of one slice of bytes behind a pointer: its block, and its row. -/
def tapeT (T : TypeId) (g : Nat) (l : List Int) : Asr := ex fun A => ex fun c => star (blk g T #[.slice A l.length c]) (own 5 1 A l.length c (by8 l))
abbrev tape (g : Nat) (l : List Int) : Asr := tapeT 82 g l
section
variable {w0 w : World} {O : Nat → Prop} {L : List Asr}
theorem Sep.tape {T g : Nat} {l : List Int} {A : Option Addr} {c n : Nat} {xs : List Value} (hn : n = l.length) (hx : xs = by8 l) (h : Sep w0 w O (blk g T #[.slice A n c] :: own 5 1 A n c xs :: L)) : Sep w0 w O (tapeT T g l :: L) := by
  subst hn; subst hx
  exact Sep.ex A (Sep.ex c h.star)
theorem Sep.untape {T g : Nat} {l : List Int} (h : Sep w0 w O (tapeT T g l :: L)) : ∃ A c, Sep w0 w O (blk g T #[.slice A l.length c] :: own 5 1 A l.length c (by8 l) :: L) := by
  obtain ⟨A, h⟩ := h.unex
  obtain ⟨c, h⟩ := h.unex
  exact ⟨A, c, h.unstar⟩
theorem own_le {e : TypeId} {size : Nat} {A : Option Addr} {n c : Nat} {xs : List Value} (h : Sep w0 w O (own e size A n c xs :: L)) : n ≤ c := by
  obtain ⟨F, ⟨_, _, h⟩, _⟩ := h.get
  rcases h with ⟨_, rfl, rfl⟩ | ⟨g, cur, _, _, h, _⟩
  · exact Nat.le_refl _
  · exact h

theorem new_calls (HS : Sep w0 w O L) : Calls Try.prog 28 #[] w fun e w' => ∃ g, e = .returned (.pointer (some ⟨g, 0, none⟩)) ∧ Sep w0 w' O (Go.Proofs.Ytankfmfenbhkgaa.tape g [] :: L) := by
  have HS1 := (HS.nil 5 1).alloc #[.slice none 0 0] 82
  go_enter Try.func28, Try.ntmps28
  go_wp2
  go_ret
  exact ⟨_, rfl, HS1.tape rfl rfl⟩

theorem len_calls {g : Nat} {l : List Int} (HS : Sep w0 w O (Go.Proofs.Ytankfmfenbhkgaa.tape g l :: L)) : Calls Try.prog 14 #[.pointer (some ⟨g, 0, none⟩)] w fun e w' => e = .returned (.int .i64 l.length) ∧ w = w' := by
  obtain ⟨A, c, HS⟩ := HS.untape
  have hc := HS.blk_cell 0
  simp only [List.getElem?_toArray, List.getElem?_cons_zero] at hc
  go_enter Try.func14, Try.ntmps14
  go_wp2
  go_ret
  exact ⟨rfl, rfl⟩

set_option maxHeartbeats 400000 in
theorem push_calls {g : Nat} {l m : List Int} {A2 : Option Addr} {c2 n2 : Nat} (HS : Sep w0 w O (Go.Proofs.Ytankfmfenbhkgaa.tape g l :: L)) (hr : Rb w0 O L 1 A2 n2 (by8 m)) (hb : l.length + n2 ≤ 140737488355328) :
    Calls Try.prog 29 #[.pointer (some ⟨g, 0, none⟩), .slice A2 n2 c2] w fun e w' => e = .returned (.tuple #[]) ∧ Sep w0 w' O (Go.Proofs.Ytankfmfenbhkgaa.tape g (l ++ m) :: L) := by
  obtain ⟨i0, hi0, hz0, hz1, hz2⟩ := info_parts info_u8
  have hrd := hr.read HS.drop
  obtain ⟨A, c, HS⟩ := HS.untape
  have hc := HS.blk_cell 0
  simp only [List.getElem?_toArray, List.getElem?_cons_zero] at hc
  have hml : m.length = n2 := by have := hr.len HS.drop.drop; simpa [kv] using this
  go_enter Try.func29, Try.ntmps29
  go_wp2_with (at_builtin; refine wpList_append_sep rfl (.tmp 10) (.tmp 11) 25 rfl 5 i0 _ 1 1 Try.underlying25 hi0 hz0 hz1 hz2 rfl (by decide) rfl HS.up1 rfl hrd (by8_one m) (by simp only [maxLen]; omega) (by omega) rfl (by8_append l m) ?_; intro A' c' w1 HS1 hsz1; have hc1 := HS1.up1.blk_cell 0; have hf1 := HS1.up1.blk_frozen 0; simp only [List.getElem?_toArray, List.getElem?_cons_zero] at hc1)
  go_end0
  exact ⟨rfl, (HS1.up1.blk_set 0 _).tape (by simp [hml]) rfl⟩
end
end Go.Proofs.Ytankfmfenbhkgaa
