/-
  Contracts of the document's space (cisternref06): New, Take, Claim, Give, List.
-/
import Derived.Test.YtdblokglldalnaaFreeV
namespace Go.Proofs.Ytdblokglldalnaa
open Go.RowKit
set_option linter.unusedVariables false
set_option linter.unusedSimpArgs false
def rspace (g : Nat) (is : List Bool) : Asr := ex fun A => ex fun c => star (own 4 1 A is.length c (bv is)) (blk g 61 #[.slice A is.length c])
section
variable {w0 w : World} {O : Nat → Prop} {L : List Asr} {g : Nat} {is : List Bool}
theorem Sep.rspaced {A : Option Addr} {c n : Nat} (hn : n = is.length) (h : Sep w0 w O (own 4 1 A n c (bv is) :: blk g 61 #[.slice A n c] :: L)) : Sep w0 w O (rspace g is :: L) := by
  subst hn
  exact Sep.ex A (Sep.ex c h.star)
theorem Sep.unrspace (h : Sep w0 w O (rspace g is :: L)) : ∃ A c, Sep w0 w O (own 4 1 A is.length c (bv is) :: blk g 61 #[.slice A is.length c] :: L) := by
  obtain ⟨A, h⟩ := h.unex
  obtain ⟨c, h⟩ := h.unex
  exact ⟨A, c, h.unstar⟩

theorem rnew_bad {x : Int} (h : x < 0 ∨ 1024 < x) : Calls Try.prog 17 #[.int .i64 x] w fun e w' => e = .returned (.tuple #[.pointer none, .int .i64 1]) ∧ w' = w := by
  rcases h with h | h
  · go_enter Try.func17, Try.ntmps17
    go_wp2
    go_ret2
    exact ⟨rfl, rfl⟩
  · have h0 : ¬ x < 0 := by omega
    go_enter Try.func17, Try.ntmps17
    go_wp2
    go_ret2
    exact ⟨rfl, rfl⟩

set_option maxHeartbeats 1000000 in
theorem rnew_calls {m : Nat} (HS : Sep w0 w O L) (hm : m ≤ 1024) : Calls Try.prog 17 #[.int .i64 m] w fun e w' => ∃ g, e = .returned (.tuple #[.pointer (some ⟨g, 0, none⟩), .int .i64 0]) ∧ Sep w0 w' O (rspace g (List.replicate m true) :: L) := by
  obtain ⟨i0, hi0, hz0, hz1, hz2⟩ := info_parts info_bool
  have HB := (HS.alloc #[.slice none 0 0] 61).nil 4 1
  obtain ⟨g, hg⟩ : ∃ g, g = w.heap.size := ⟨_, rfl⟩
  have h0 : ¬ (m : Int) < 0 := by omega
  have h1 : ¬ (1024 : Int) < m := by omega
  rw [← hg] at HB
  have HG := hid hg
  clear hg HS
  go_enter Try.func17, Try.ntmps17
  go_wp2
  rw [← HG.out]
  go_loopw [5] (fun v wr => ∃ (k ck : Nat) (Q : Option Addr), k ≤ m ∧ v = .int .i64 k ∧ Sep w0 wr O (own 4 1 Q k ck (bv (List.replicate k true)) :: blk g 61 #[.slice Q k ck] :: L)) (fun v _ => m - (intOf v).toNat)
  case atStart => exact ⟨0, 0, none, Nat.zero_le _, rfl, HB⟩
  case round =>
    obtain ⟨k, ck, Q, hk, rfl, H1⟩ := hrel
    clear HB
    have a0 := H1.up1.blkAt 0 rfl
    by_cases hlt : k < m
    · have hk1 : (k : Int) < m := by omega
      have H3 := (H1.lit #[.bool true] 4 1 1 rfl (by decide)).up1
      have hrd := H3.rd1
      have hb1 : k + 1 ≤ maxLen := by simp only [maxLen]; omega
      have hb2 : (k + 1) * 1 ≤ 140737488355328 := by omega
      have hsu : bv (List.replicate k true) ++ bv [true] = bv (List.replicate (k + 1) true) := by rw [← List.map_append, List.replicate_succ' (n := k)]
      go_wp2_with (at_builtin; go_loud (refine wpList_append_sep rfl (.tmp 23) (.tmp 24) 50 rfl 4 i0 _ 1 1 Try.underlying50 hi0 hz0 hz1 hz2 rfl (by decide) rfl H3 rfl hrd (bv_one [true]) hb1 hb2 rfl hsu ?_); intro Q' cq' w6 HS7 hsz7; have c2 := HS7.up2.blkAt 0 rfl; have z2 := HS7.up2.blk_frozen 0)
      have HW := HS7.up2.blk_set 0 (.slice Q' (k + 1) cq')
      go_roundw
      case rel => exact ⟨k + 1, cq', Q', by omega, by go_num, HW.sel 3 [1, 0]⟩
      case measure => simp [intOf]; omega
    · obtain rfl : k = m := by omega
      have hk1 : ¬ (k : Int) < k := by omega
      go_wp2
      go_ret2
      exact ⟨g, rfl, H1.rspaced (by simp)⟩

theorem rtake_calls (HS : Sep w0 w O (rspace g is :: L)) (hle : is.length ≤ 1024) :
    Calls Try.prog 18 #[.pointer (some ⟨g, 0, none⟩)] w fun e w' => e = .returned (.tuple #[.int .i64 (takeAt is), .int .i64 (takeErr is)]) ∧ Sep w0 w' O (rspace g (takeIs is) :: L) := by
  obtain ⟨A, c, H⟩ := HS.unrspace
  have a0 := H.up1.blkAt 0 rfl
  go_enter Try.func18, Try.ntmps18
  go_wp2
  go_loopw [4] (fun v wr => ∃ k : Nat, v = .int .i64 k ∧ k ≤ is.length ∧ (∀ j, j < k → is[j]? ≠ some true) ∧ wr = w) (fun v _ => is.length - (intOf v).toNat)
  case atStart => exact ⟨0, rfl, Nat.zero_le _, fun j hj => absurd hj (Nat.not_lt_zero j), rfl⟩
  case round =>
    obtain ⟨k, rfl, hk, hno, rfl⟩ := hrel
    have HNO := hid hno
    clear hno
    by_cases hlt : k < is.length
    · obtain ⟨b, rfl⟩ := H.own_some (by omega)
      have ck := H.bcell hlt
      have zk := H.own_frozen k
      have hk1 : (k : Int) < is.length := by omega
      cases hv : is[k] with
      | false =>
        rw [hv] at ck
        go_wp2
        go_roundw
        case rel => exact ⟨k + 1, by go_num, by omega, fun j hj => by
          by_cases hjk : j = k
          · rw [hjk, List.getElem?_eq_getElem hlt, hv]; simp
          · exact HNO.out j (by omega), by trivial⟩
        case measure => simp [intOf]; omega
      | true =>
        rw [hv] at ck
        have hl := leastOf_some (by rw [List.getElem?_eq_getElem hlt, hv]) HNO.out
        have HL := hid hl
        have HW := H.bset k false
        clear hl
        go_wp2
        go_ret2
        have e1 : takeAt is = k := by unfold takeAt; rw [HL.out]; rfl
        have e2 : takeErr is = 0 := by unfold takeErr; rw [HL.out]; rfl
        have e3 : takeIs is = is.set k false := by unfold takeIs; rw [HL.out]
        exact ⟨by rw [e1, e2]; rfl, by rw [e3]; exact HW.rspaced (by rw [List.length_set])⟩
    · obtain rfl : k = is.length := by omega
      have hk1 : ¬ (is.length : Int) < is.length := by omega
      have hl := leastOf_none (is := is) fun j hj => by
        rcases Nat.lt_or_ge j is.length with h | h
        · exact HNO.out j h hj
        · rw [List.getElem?_eq_none h] at hj; cases hj
      have HL := hid hl
      clear hl
      go_wp2
      go_ret2
      have e1 : takeAt is = 0 := by unfold takeAt; rw [HL.out]; rfl
      have e2 : takeErr is = 8 := by unfold takeErr; rw [HL.out]; rfl
      have e3 : takeIs is = is := by unfold takeIs; rw [HL.out]
      exact ⟨by rw [e1, e2]; rfl, by rw [e3]; exact HS⟩

theorem rclaim_calls {x : Int} (HS : Sep w0 w O (rspace g is :: L)) (hle : is.length ≤ 1024) :
    Calls Try.prog 19 #[.pointer (some ⟨g, 0, none⟩), .int .i64 x] w fun e w' => e = .returned (.int .i64 (clErr is x)) ∧ Sep w0 w' O (rspace g (clIs is x) :: L) := by
  obtain ⟨A, c, H⟩ := HS.unrspace
  have a0 := H.up1.blkAt 0 rfl
  by_cases hr : x < 0 ∨ (is.length : Int) ≤ x
  · have e1 : clErr is x = 1 := by unfold clErr; rw [if_pos hr]
    have e2 : clIs is x = is := by unfold clIs; rw [e1, if_neg (by decide)]
    rw [e1, e2]
    clear e1 e2
    rcases hr with h | h
    · go_enter Try.func19, Try.ntmps19
      go_wp2
      go_ret
      exact ⟨rfl, HS⟩
    · have h0 : ¬ x < 0 := by omega
      go_enter Try.func19, Try.ntmps19
      go_wp2
      go_ret
      exact ⟨rfl, HS⟩
  · obtain ⟨k, rfl⟩ := Int.eq_ofNat_of_zero_le (show 0 ≤ x by omega)
    have hlt : k < is.length := by omega
    have h0 : ¬ (k : Int) < 0 := by omega
    have h1 : ¬ (is.length : Int) ≤ k := by omega
    have h2 : (k : Int) < is.length := by omega
    obtain ⟨b, rfl⟩ := H.own_some (by omega)
    have ck := H.bcell hlt
    have zk := H.own_frozen k
    have HW := H.bset k false
    cases hv : is[k] with
    | false =>
      rw [hv] at ck
      have hf : is[k]? ≠ some true := by rw [List.getElem?_eq_getElem hlt, hv]; simp
      have e1 : clErr is k = 6 := by unfold clErr; rw [if_neg hr, Int.toNat_natCast, if_neg hf]
      have e2 : clIs is k = is := by unfold clIs; rw [e1, if_neg (by decide)]
      rw [e1, e2]
      clear e1 e2 HW
      go_enter Try.func19, Try.ntmps19
      go_wp2
      go_ret
      exact ⟨rfl, HS⟩
    | true =>
      rw [hv] at ck
      have hf : is[k]? = some true := by rw [List.getElem?_eq_getElem hlt, hv]
      have e1 : clErr is k = 0 := by unfold clErr; rw [if_neg hr, Int.toNat_natCast, if_pos hf]
      have e2 : clIs is k = is.set k false := by unfold clIs; rw [e1, if_pos rfl, Int.toNat_natCast]
      rw [e1, e2]
      clear e1 e2
      go_enter Try.func19, Try.ntmps19
      go_wp2
      go_ret
      exact ⟨rfl, HW.rspaced (by rw [List.length_set])⟩

theorem rgive_calls {x : Int} (HS : Sep w0 w O (rspace g is :: L)) (hle : is.length ≤ 1024) :
    Calls Try.prog 20 #[.pointer (some ⟨g, 0, none⟩), .int .i64 x] w fun e w' => e = .returned (.int .i64 (gvErr is x)) ∧ Sep w0 w' O (rspace g (gvIs is x) :: L) := by
  obtain ⟨A, c, H⟩ := HS.unrspace
  have a0 := H.up1.blkAt 0 rfl
  by_cases hr : x < 0 ∨ (is.length : Int) ≤ x
  · have e1 : gvErr is x = 1 := by unfold gvErr; rw [if_pos hr]
    have e2 : gvIs is x = is := by unfold gvIs; rw [e1, if_neg (by decide)]
    rw [e1, e2]
    clear e1 e2
    rcases hr with h | h
    · go_enter Try.func20, Try.ntmps20
      go_wp2
      go_ret
      exact ⟨rfl, HS⟩
    · have h0 : ¬ x < 0 := by omega
      go_enter Try.func20, Try.ntmps20
      go_wp2
      go_ret
      exact ⟨rfl, HS⟩
  · obtain ⟨k, rfl⟩ := Int.eq_ofNat_of_zero_le (show 0 ≤ x by omega)
    have hlt : k < is.length := by omega
    have h0 : ¬ (k : Int) < 0 := by omega
    have h1 : ¬ (is.length : Int) ≤ k := by omega
    have h2 : (k : Int) < is.length := by omega
    obtain ⟨b, rfl⟩ := H.own_some (by omega)
    have ck := H.bcell hlt
    have zk := H.own_frozen k
    have HW := H.bset k true
    cases hv : is[k] with
    | true =>
      rw [hv] at ck
      have hf : is[k]? = some true := by rw [List.getElem?_eq_getElem hlt, hv]
      have e1 : gvErr is k = 7 := by unfold gvErr; rw [if_neg hr, Int.toNat_natCast, if_pos hf]
      have e2 : gvIs is k = is := by unfold gvIs; rw [e1, if_neg (by decide)]
      rw [e1, e2]
      clear e1 e2 HW
      go_enter Try.func20, Try.ntmps20
      go_wp2
      go_ret
      exact ⟨rfl, HS⟩
    | false =>
      rw [hv] at ck
      have hf : is[k]? ≠ some true := by rw [List.getElem?_eq_getElem hlt, hv]; simp
      have e1 : gvErr is k = 0 := by unfold gvErr; rw [if_neg hr, Int.toNat_natCast, if_neg hf]
      have e2 : gvIs is k = is.set k true := by unfold gvIs; rw [e1, if_pos rfl, Int.toNat_natCast]
      rw [e1, e2]
      clear e1 e2
      go_enter Try.func20, Try.ntmps20
      go_wp2
      go_ret
      exact ⟨rfl, HW.rspaced (by rw [List.length_set])⟩

set_option maxHeartbeats 1000000 in
theorem rlist_calls (HS : Sep w0 w O (rspace g is :: L)) (hle : is.length ≤ 1024) :
    Calls Try.prog 22 #[.pointer (some ⟨g, 0, none⟩)] w fun e w' => ∃ A c, e = .returned (.slice A (places is).length c) ∧ Sep w0 w' O (own 3 1 A (places is).length c (kv .i64 (places is)) :: rspace g is :: L) := by
  obtain ⟨i0, hi0, hz0, hz1, hz2⟩ := info_parts info_int
  obtain ⟨IA, ci, H⟩ := HS.unrspace
  have H0 := H.nil 3 1
  clear HS H
  go_enter Try.func22, Try.ntmps22
  go_wp2
  go_loopw [3, 4] (fun l v wr => ∃ (k ck : Nat) (Q : Option Addr), k ≤ is.length ∧ v = .int .i64 k ∧ l = .slice Q (placesTo is k).length ck ∧ Sep w0 wr O (own 3 1 Q (placesTo is k).length ck (kv .i64 (placesTo is k)) :: own 4 1 IA is.length ci (bv is) :: blk g 61 #[.slice IA is.length ci] :: L)) (fun _ v _ => is.length - (intOf v).toNat)
  case atStart => exact ⟨0, 0, none, Nat.zero_le _, rfl, rfl, H0⟩
  case round =>
    obtain ⟨k, ck, Q, hk, rfl, rfl, H1⟩ := hrel
    clear H0
    have a0 := H1.up2.blkAt 0 rfl
    by_cases hlt : k < is.length
    · obtain ⟨b, rfl⟩ := H1.up1.own_some (by omega)
      have cc := H1.up1.bcell hlt
      have hk1 : (k : Int) < is.length := by omega
      have hsu := placesTo_succ is k
      have hln := placesTo_len is k
      rw [List.getElem?_eq_getElem hlt] at hsu
      cases hv : is[k] with
      | false =>
        rw [hv] at cc hsu
        rw [if_neg (by simp), List.append_nil] at hsu
        have HSU := hid hsu
        clear hsu
        go_wp2
        go_roundw
        case rel => exact ⟨k + 1, ck, Q, by omega, by go_num, by rw [HSU.out], by rw [HSU.out]; exact H1⟩
        case measure => simp [intOf]; omega
      | true =>
        rw [hv] at cc hsu
        rw [if_pos rfl] at hsu
        have hsl : (placesTo is k).length + 1 = (placesTo is (k + 1)).length := by rw [hsu, List.length_append]; rfl
        have HSU := hid hsu
        have HSL := hid hsl
        have H2 := (H1.lit #[.int .i64 k] 3 1 1 rfl (by decide)).up1
        have hb1 : (placesTo is k).length + 1 ≤ maxLen := by simp only [maxLen]; omega
        have hb2 : ((placesTo is k).length + 1) * 8 ≤ 140737488355328 := by omega
        have hrd := H2.rd1
        clear hsu hsl
        generalize hP : placesTo is k = pk at *
        generalize hP1 : placesTo is (k + 1) = pk1 at *
        have HP1 := hid hP1
        clear hP hP1
        go_wp2_with (at_builtin; go_loud (refine wpList_append_sep rfl (.tmp 21) (.tmp 23) 22 rfl 3 i0 _ 1 8 Try.underlying22 hi0 hz0 hz1 hz2 rfl (by decide) rfl H2 rfl hrd (kv_one .i64 [(k : Int)]) hb1 hb2 HSL.out ((kv_append .i64 pk [(k : Int)]).trans (congrArg (kv .i64) HSU.out.symm)) ?_); intro Q' cq' w6 HS7 hsz7)
        go_roundw
        case rel => exact ⟨k + 1, cq', Q', by omega, by go_num, by rw [HP1.out], by rw [HP1.out]; exact HS7.sel 4 [0, 2, 3]⟩
        case measure => simp [intOf]; omega
    · obtain rfl : k = is.length := by omega
      have hk1 : ¬ (is.length : Int) < is.length := by omega
      go_wp2
      go_ret
      exact ⟨Q, ck, rfl, (Sep.rspaced rfl (H1.sel 3 [1, 2, 0])).up1⟩
end
end Go.Proofs.Ytdblokglldalnaa
