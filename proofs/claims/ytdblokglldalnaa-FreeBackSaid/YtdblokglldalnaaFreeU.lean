/-
  Contracts of a space's New, List and Copy; slices.Clone of its rows.
-/
import Derived.Test.YtdblokglldalnaaFreeT
namespace Go.Proofs.Ytdblokglldalnaa
open Go.RowKit
set_option linter.unusedVariables false
set_option linter.unusedSimpArgs false
def placesTo (is : List Bool) (n : Nat) : List Int := ((List.range n).filter fun k => is[k]? == some true).map fun k : Nat => (k : Int)
theorem placesTo_all (is : List Bool) : placesTo is is.length = places is := rfl
theorem placesTo_len (is : List Bool) (n : Nat) : (placesTo is n).length ≤ n := by
  unfold placesTo
  rw [List.length_map]
  exact Nat.le_trans (List.length_filter_le ..) (by simp)
theorem placesTo_succ (is : List Bool) (n : Nat) : placesTo is (n + 1) = placesTo is n ++ if is[n]? = some true then [(n : Int)] else [] := by
  unfold placesTo
  rw [List.range_succ, List.filter_append, List.map_append]
  congr 1
  by_cases h : is[n]? = some true <;> simp [h]
theorem bv_one (l : List Bool) : ∀ u ∈ bv l, u.oneCell' = true := by
  intro u hu; obtain ⟨x, _, rfl⟩ := List.mem_map.1 hu; rfl
theorem mk_bool (s : Nat) (hs : s ≤ 1048576) (w : World) : (Instr.makeSlice 50 (.int .i64 s) (.int .i64 s)).run Try.prog w = .ok (.slice (some ⟨w.heap.size, 0, none⟩) s s) (w.alloc (.cells (Array.replicate s (.bool false)) 4)) := by
  obtain ⟨i0, hi0, hz0, hz1, hz2⟩ := info_parts info_bool
  have h := run_makeSlice (P := Try.prog) w 50 4 i0 (.bool false) Try.underlying50 hi0 hz0 .i64 .i64 s s (by omega) (by omega) (by rw [hz1]; simp; omega) (by rw [hz2]; omega) (by omega)
  rw [h, hz1]
  have e : madeCells (Value.bool false).cells ((s : Int).toNat * 1) = Array.replicate s (Value.bool false) := by
    apply Array.toList_inj.1
    rw [show (Value.bool false).cells = #[Value.bool false] from rfl, toList_madeCells_one]
    simp
  rw [e, Int.toNat_natCast]
section
variable {w0 w : World} {O : Nat → Prop} {L : List Asr} {g : Nat} {is : List Bool}

set_option maxHeartbeats 400000 in
theorem cloneb_calls {A : Option Addr} {n c : Nat} {xs : List Bool} (HS : Sep w0 w O L) (hr : Rb w0 O L 1 A n (bv xs)) (hn : n ≤ 140737488355328) :
    Calls Try.prog 30 #[.slice A n c] w fun e w' => ∃ A' c', e = .returned (.slice A' n c') ∧ Sep w0 w' O (own 4 1 A' n c' (bv xs) :: L) := by
  obtain ⟨i0, hi0, hz0, hz1, hz2⟩ := info_parts info_bool
  have q := fun w a n c n' c' => Lib.run_eql_slice_nil (P := Try.prog) w 50 4 a n c n' c' Try.underlying50
  rcases A with _ | ad
  · obtain ⟨rfl, e⟩ := hr.noneNil HS
    rw [e]
    go_enter Try.func30, Try.ntmps30
    go_wp2
    go_ret
    exact ⟨_, _, rfl, HS.nil _ _⟩
  · have HL := HS.lit #[] 4 1 0 rfl (Nat.zero_le _)
    have hrd := (hr.cons (P := own 4 1 (some ⟨w.heap.size, 0, none⟩) 0 0 [])).read HL
    go_enter Try.func30, Try.ntmps30
    go_wp2_with (at_builtin; refine wpList_append_sep rfl (.tmp 5) (.tmp 6) 50 rfl 4 i0 _ 1 1 Try.underlying50 hi0 hz0 hz1 hz2 rfl (by decide) rfl HL rfl hrd (bv_one xs) (by simp only [maxLen]; omega) (by omega) (Nat.zero_add n) rfl ?_; intro A' c' w1 HS1 hsz1)
    go_ret
    exact ⟨_, _, rfl, HS1⟩
set_option maxHeartbeats 400000 in
theorem clonei_calls {A : Option Addr} {n c : Nat} {xs : List Int} (HS : Sep w0 w O L) (hr : Rb w0 O L 1 A n (kv .i64 xs)) (hn : n ≤ 1048576) :
    Calls Try.prog 31 #[.slice A n c] w fun e w' => ∃ A' c', e = .returned (.slice A' n c') ∧ Sep w0 w' O (own 3 1 A' n c' (kv .i64 xs) :: L) := by
  obtain ⟨i0, hi0, hz0, hz1, hz2⟩ := info_parts info_int
  have q := fun w a n c n' c' => Lib.run_eql_slice_nil (P := Try.prog) w 51 3 a n c n' c' Try.underlying51
  rcases A with _ | ad
  · obtain ⟨rfl, e⟩ := hr.noneNil HS
    rw [e]
    go_enter Try.func31, Try.ntmps31
    go_wp2
    go_ret
    exact ⟨_, _, rfl, HS.nil _ _⟩
  · have HL := HS.lit #[] 3 1 0 rfl (Nat.zero_le _)
    have hrd := (hr.cons (P := own 3 1 (some ⟨w.heap.size, 0, none⟩) 0 0 [])).read HL
    go_enter Try.func31, Try.ntmps31
    go_wp2_with (at_builtin; refine wpList_append_sep rfl (.tmp 5) (.tmp 6) 51 rfl 3 i0 _ 1 8 Try.underlying51 hi0 hz0 hz1 hz2 rfl (by decide) rfl HL rfl hrd (kv_one _ _) (by simp only [maxLen]; omega) (by omega) (Nat.zero_add n) rfl ?_; intro A' c' w1 HS1 hsz1)
    go_ret
    exact ⟨_, _, rfl, HS1⟩

set_option maxHeartbeats 1000000 in
theorem list_calls (HS : Sep w0 w O (space g is :: L)) :
    Calls Try.prog 11 #[.pointer (some ⟨g, 0, none⟩)] w fun e w' => ∃ A c, e = .returned (.slice A (places is).length c) ∧ Sep w0 w' O (own 3 1 A (places is).length c (kv .i64 (places is)) :: space g is :: L) := by
  have hR := right_space HS
  obtain ⟨i0, hi0, hz0, hz1, hz2⟩ := info_parts info_int
  obtain ⟨hp, IA, ci, hok, hle, H⟩ := HS.unspace
  obtain ⟨A, c, HB⟩ := H.up1.unheap
  have a0 := HB.up1.blkAt 0 rfl
  have HOK := hid hok
  clear HB hok
  go_enter Try.func11, Try.ntmps11
  go_wp2_with fail
  refine hR.mono ?_
  rintro e w' ⟨rfl, rfl⟩
  clear hR HS
  have H0 := H.nil 3 1
  go_wp2
  go_loopw [3, 14] (fun l v wr => ∃ (k ck : Nat) (Q : Option Addr), k ≤ is.length ∧ v = .int .i64 k ∧ l = .slice Q (placesTo is k).length ck ∧ Sep w0 wr O (own 3 1 Q (placesTo is k).length ck (kv .i64 (placesTo is k)) :: own 4 1 IA is.length ci (bv is) :: heapAt g IA is.length ci (is.count true) hp :: L)) (fun _ v _ => is.length - (intOf v).toNat)
  case atStart => exact ⟨0, 0, none, Nat.zero_le _, rfl, rfl, H0⟩
  case round =>
    obtain ⟨k, ck, Q, hk, rfl, rfl, H1⟩ := hrel
    clear H0 H a0
    by_cases hlt : k < is.length
    · obtain ⟨b, rfl⟩ := H1.up1.own_some (by omega)
      have cc := H1.up1.bcell hlt
      have hk1 : (k : Int) < is.length := by omega
      have hsu := placesTo_succ is k
      have hln := placesTo_len is k
      rw [List.getElem?_eq_getElem hlt] at hsu
      cases hv : is[k] with
      | false =>
        rw [hv] at cc hsu
        rw [if_neg (by simp), List.append_nil] at hsu
        have HSU := hid hsu
        clear hsu
        go_wp2
        go_roundw
        case rel => exact ⟨k + 1, ck, Q, by omega, by go_num, by rw [HSU.out], by rw [HSU.out]; exact H1⟩
        case measure => simp [intOf]; omega
      | true =>
        rw [hv] at cc hsu
        rw [if_pos rfl] at hsu
        have hsl : (placesTo is k).length + 1 = (placesTo is (k + 1)).length := by rw [hsu, List.length_append]; rfl
        have HSU := hid hsu
        have HSL := hid hsl
        have H2 := (H1.lit #[.int .i64 k] 3 1 1 rfl (by decide)).up1
        have hb1 : (placesTo is k).length + 1 ≤ maxLen := by simp only [maxLen]; omega
        have hb2 : ((placesTo is k).length + 1) * 8 ≤ 140737488355328 := by omega
        have hrd := H2.rd1
        clear hsu hsl
        generalize hP : placesTo is k = pk at *
        generalize hP1 : placesTo is (k + 1) = pk1 at *
        have HP1 := hid hP1
        clear hP hP1
        go_wp2_with (at_builtin; go_loud (refine wpList_append_sep rfl (.tmp 20) (.tmp 22) 22 rfl 3 i0 _ 1 8 Try.underlying22 hi0 hz0 hz1 hz2 rfl (by decide) rfl H2 rfl hrd (kv_one .i64 [(k : Int)]) hb1 hb2 HSL.out ((kv_append .i64 pk [(k : Int)]).trans (congrArg (kv .i64) HSU.out.symm)) ?_); intro Q' cq' w6 HS7 hsz7)
        go_roundw
        case rel => exact ⟨k + 1, cq', Q', by omega, by go_num, by rw [HP1.out], by rw [HP1.out]; exact HS7.sel 4 [0, 2, 3]⟩
        case measure => simp [intOf]; omega
    · obtain rfl : k = is.length := by omega
      have hk1 : ¬ (is.length : Int) < is.length := by omega
      go_wp2
      go_ret
      exact ⟨Q, ck, rfl, (Sep.spaced HOK.out hle (H1.sel 3 [1, 2, 0])).up1⟩
end
end Go.Proofs.Ytdblokglldalnaa
