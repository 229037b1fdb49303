/-
  Rows of numbers of some sizes: plain facts; make([]uint64, n).
-/
import Derived.Test.YtankfmfenbhkgaaOrdC
import Derived.Laws.MakeOwn
import Derived.Laws.OwnMore
namespace Go.Proofs.Ytankfmfenbhkgaa
open Go.RowKit
set_option linter.unusedVariables false
set_option linter.unusedSimpArgs false

abbrev iv (l : List Int) : List Value := kv .i64 l
abbrev uv (l : List Int) : List Value := kv .u64 l
theorem uv_one (l : List Int) : ∀ u ∈ uv l, u.oneCell' = true := kv_one _ _
theorem info_u64 : (Try.prog.info? 22).map (fun i => (i.zero, i.size, i.bytes)) = some (some (.int .u64 0), 1, 8) := by kernel_rfl
def cut (l : List Int) : List Nat → List Int
  | [] => []
  | s :: ss => num (l.take s) :: cut (l.drop s) ss
def tot (ss : List Nat) : Nat := ss.foldr (· + ·) 0
theorem cut_len (ss : List Nat) : ∀ l, (cut l ss).length = ss.length := by
  induction ss with
  | nil => intro l; rfl
  | cons s ss ih => intro l; simp [cut, ih]
theorem tot_append (a b : List Nat) : tot (a ++ b) = tot a + tot b := by
  induction a with
  | nil => simp [tot]
  | cons x a ih => simp [tot] at ih ⊢; omega
theorem cut_append (a b : List Nat) : ∀ l, cut l (a ++ b) = cut l a ++ cut (l.drop (tot a)) b := by
  induction a with
  | nil => intro l; simp [cut, tot]
  | cons x a ih => intro l; simp [cut, ih, tot, List.drop_drop]
theorem cut_next (l : List Int) (ss : List Nat) (k : Nat) (hk : k < ss.length) :
    cut l (ss.take (k + 1)) = cut l (ss.take k) ++ [num ((l.drop (tot (ss.take k))).take ss[k])] := by
  rw [List.take_succ_eq_append_getElem hk, cut_append]; rfl
theorem tot_next (ss : List Nat) (k : Nat) (hk : k < ss.length) : tot (ss.take (k + 1)) = tot (ss.take k) + ss[k] := by
  rw [List.take_succ_eq_append_getElem hk, tot_append]; simp [tot]
theorem tot_le (ss : List Nat) (k : Nat) : tot (ss.take k) ≤ tot ss := by
  have := tot_append (ss.take k) (ss.drop k)
  rw [List.take_append_drop] at this
  omega
theorem tot_bd (ss : List Nat) (h : ∀ s ∈ ss, 1 ≤ s ∧ s ≤ 8) : tot ss ≤ 8 * ss.length := by
  induction ss with
  | nil => simp [tot]
  | cons s ss ih =>
    have h1 := ih fun x hx => h x (List.mem_cons_of_mem _ hx)
    have h2 := h s (by simp)
    simp [tot] at h1 ⊢; omega
theorem cut_take (ss : List Nat) : ∀ (l : List Int) (n : Nat), tot ss ≤ n → cut (l.take n) ss = cut l ss := by
  induction ss with
  | nil => intro l n _; rfl
  | cons s ss ih =>
    intro l n h
    have e : tot (s :: ss) = s + tot ss := rfl
    rw [e] at h
    simp only [cut, List.take_take, List.drop_take, Nat.min_eq_left (show s ≤ n by omega)]
    rw [ih _ _ (by omega)]
theorem mk_u64 (s : Nat) (hs : s ≤ 1048576) (w : World) : (Instr.makeSlice 73 (.int .i64 s) (.int .i64 s)).run Try.prog w = .ok (.slice (some ⟨w.heap.size, 0, none⟩) s s) (w.alloc (.cells (uv (List.replicate s 0)).toArray 22)) := by
  obtain ⟨i0, hi0, hz0, hz1, hz2⟩ := info_parts info_u64
  have h := run_makeSlice (P := Try.prog) w 73 22 i0 (.int .u64 0) Try.underlying73 hi0 hz0 .i64 .i64 s s (by omega) (by omega) (by rw [hz1]; simp; omega) (by rw [hz2]; omega) (by omega)
  rw [h, hz1]
  have e : madeCells (Value.int .u64 0).cells ((s : Int).toNat * 1) = (uv (List.replicate s 0)).toArray := by
    apply Array.toList_inj.1
    rw [show (Value.int .u64 0).cells = #[Value.int .u64 0] from rfl, toList_madeCells_one]
    simp [kv]
  rw [e, Int.toNat_natCast]
end Go.Proofs.Ytankfmfenbhkgaa
