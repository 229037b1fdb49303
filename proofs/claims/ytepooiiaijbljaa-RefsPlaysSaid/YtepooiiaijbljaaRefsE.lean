/-
  Contracts of the document's Refs (cisternref07): own, New, free, Alloc, why, Inc, Dec, Free, Commit, Abort, Copy.
-/
import Derived.Test.YtepooiiaijbljaaRefsD
namespace Go.Proofs.Ytepooiiaijbljaa
open Go.RowKit
set_option linter.unusedVariables false
set_option linter.unusedSimpArgs false
/-- the document's Refs: counts now, at the commit; which are fresh -/
def docA (g : Nat) (now was : List Int) : Asr :=
  ex fun x : (Option Addr × Nat) × (Option Addr × Nat) × (Option Addr × Nat) => with_ (RfOk now was) (star (blk g 67 #[.slice x.1.1 now.length x.1.2, .slice x.2.1.1 now.length x.2.1.2, .slice x.2.2.1 now.length x.2.2.2])
    (star (own 5 1 x.1.1 now.length x.1.2 (kv .u8 now)) (star (own 5 1 x.2.1.1 now.length x.2.1.2 (kv .u8 was)) (own 4 1 x.2.2.1 now.length x.2.2.2 (bv (frOf now was))))))
section
variable {w0 w : World} {O : Nat → Prop} {L : List Asr} {g : Nat} {now was : List Int}
theorem Sep.undoc (h : Sep w0 w O (docA g now was :: L)) : RfOk now was ∧ ∃ (a0 a1 a2 c0 c1 c2 : Nat),
    Sep w0 w O (blk g 67 #[.slice (some ⟨a0, 0, none⟩) now.length c0, .slice (some ⟨a1, 0, none⟩) now.length c1, .slice (some ⟨a2, 0, none⟩) now.length c2] :: own 5 1 (some ⟨a0, 0, none⟩) now.length c0 (kv .u8 now) :: own 5 1 (some ⟨a1, 0, none⟩) now.length c1 (kv .u8 was) :: own 4 1 (some ⟨a2, 0, none⟩) now.length c2 (bv (frOf now was)) :: L) := by
  obtain ⟨⟨⟨A0, c0⟩, ⟨A1, c1⟩, ⟨A2, c2⟩⟩, h⟩ := h.unex
  obtain ⟨hok, h⟩ := h.unwith
  have h1 := h.unstar
  have h2 := h1.up1.unstar
  have h3 := (h2.sel 3 [1, 0, 2]).unstar
  have h5 : Sep w0 w O (blk g 67 #[.slice A0 now.length c0, .slice A1 now.length c1, .slice A2 now.length c2] :: own 5 1 A0 now.length c0 (kv .u8 now) :: own 5 1 A1 now.length c1 (kv .u8 was) :: own 4 1 A2 now.length c2 (bv (frOf now was)) :: L) := h3.sel 4 [3, 2, 0, 1]
  have hlo := hok.lo
  obtain ⟨a0, rfl⟩ := h5.up1.own_some (by omega)
  obtain ⟨a1, rfl⟩ := h5.up2.own_some (by omega)
  obtain ⟨a2, rfl⟩ := h5.up3.own_some (by omega)
  exact ⟨hok, a0, a1, a2, c0, c1, c2, h5⟩
theorem Sep.docd {n0 n1 n2 : Nat} {A0 A1 A2 : Option Addr} {c0 c1 c2 : Nat} (hok : RfOk now was) (e0 : n0 = now.length) (e1 : n1 = now.length) (e2 : n2 = now.length)
    (h : Sep w0 w O (blk g 67 #[.slice A0 n0 c0, .slice A1 n1 c1, .slice A2 n2 c2] :: own 5 1 A0 n0 c0 (kv .u8 now) :: own 5 1 A1 n1 c1 (kv .u8 was) :: own 4 1 A2 n2 c2 (bv (frOf now was)) :: L)) : Sep w0 w O (docA g now was :: L) := by
  subst e0
  subst e1
  subst e2
  refine Sep.ex ((A0, c0), (A1, c1), (A2, c2)) (Sep.with_ hok ?_)
  have h1 := (h.sel 4 [2, 3, 1, 0]).star
  have h2 := (h1.sel 3 [1, 0, 2]).star
  exact (h2.sel 2 [1, 0]).star

theorem dnown_calls {A : Option Addr} {n c : Nat} {xs : List Int} (HS : Sep w0 w O L) (hr : Rb w0 O L 1 A n (kv .u8 xs)) (hn : n ≤ 140737488355328) :
    Calls Try.prog 40 #[.slice A n c] w fun e w' => ∃ A' c', e = .returned (.slice A' n c') ∧ Sep w0 w' O (own 5 1 A' n c' (kv .u8 xs) :: L) := by
  obtain ⟨i0, hi0, hz0, hz1, hz2⟩ := info_parts info_u8'
  have HL := HS.nil 5 1
  have hrd := (hr.cons (P := own 5 1 none 0 0 [])).read HL
  go_enter Try.func40, Try.ntmps40
  go_wp2_with (at_builtin; refine wpList_append_sep rfl (.tmp 4) (.tmp 5) 22 rfl 5 i0 _ 1 1 Try.underlying22 hi0 hz0 hz1 hz2 rfl (by decide) rfl HL rfl hrd (kv_one _ _) (by simp only [maxLen]; omega) (by omega) (Nat.zero_add n) rfl ?_; intro A' c' w1 HS1 hsz1)
  go_ret
  exact ⟨_, _, rfl, HS1⟩

theorem dnew_bad {A : Option Addr} {n c : Nat} (h : n < 1 ∨ 1024 < n) : Calls Try.prog 22 #[.slice A n c] w fun e w' => e = .returned (.tuple #[.pointer none, .int .i64 1]) ∧ w = w' := by
  by_cases h0 : n < 1
  · have h1 : (n : Int) < 1 := by omega
    clear h h0
    go_enter Try.func22, Try.ntmps22
    go_wp2
    go_ret2
    exact ⟨rfl, rfl⟩
  · have h1 : ¬ (n : Int) < 1 := by omega
    have h2 : (1024 : Int) < n := by omega
    clear h h0
    go_enter Try.func22, Try.ntmps22
    go_wp2
    go_ret2
    exact ⟨rfl, rfl⟩

set_option maxHeartbeats 2000000 in
theorem dnew_calls {A : Option Addr} {c : Nat} {l : List Int} (HS : Sep w0 w O L) (hr : Rb w0 O L 1 A l.length (kv .u8 l)) (hb : Byt l) (h1 : 1 ≤ l.length) (h2 : l.length ≤ 1024) :
    Calls Try.prog 22 #[.slice A l.length c] w fun e w' => ∃ g, e = .returned (.tuple #[.pointer (some ⟨g, 0, none⟩), .int .i64 0]) ∧ Sep w0 w' O (docA g l l :: L) := by
  obtain ⟨n, hn⟩ : ∃ n, n = l.length := ⟨_, rfl⟩
  rw [← hn] at h1 h2 hr ⊢
  have hmk := mk_bool n (by omega)
  have i1 : ¬ (n : Int) < 1 := by omega
  have i2 : ¬ (1024 : Int) < n := by omega
  have hok : RfOk l l := ⟨rfl, by rw [← hn]; exact h1, by rw [← hn]; exact h2, hb, hb⟩
  have hz : (Array.replicate n (Value.bool false)).toList = bv (frOf l l) := by rw [frOf_self, ← hn]; simp [bv]
  have HNN := hid hn
  have HOK := hid hok
  have HZ := hid hz
  clear hn hok hz
  go_enter Try.func22, Try.ntmps22
  have HA := HS.lit (Array.replicate n (.bool false)) 4 1 n (by simp) (by simp only [maxLen]; omega)
  go_upto_region 3 with (fail)
  go_region_held_law (fun _ => True) (trivial) (first
    | (go_simp; go_at_call 40; refine (dnown_calls K1 hr.cons.cons (by omega)).mono ?_; rintro e w2 ⟨A2, c2, rfl, K2⟩)
    | (go_simp; go_at_call 40; refine (dnown_calls HA.drew hr.cons (by omega)).mono ?_; rintro e w1 ⟨A1, c1, rfl, K1⟩)
    | (go_simp; go_at_call 40; refine (dnown_calls M1 hr.cons.cons (by omega)).mono ?_; rintro e w2 ⟨A2, c2, rfl, M2⟩)
    | (go_simp; go_at_call 40; refine (dnown_calls H1 hr.cons (by omega)).mono ?_; rintro e w2 ⟨A2, c2, rfl, H2⟩)
    | (go_simp; go_at_call 40; refine (dnown_calls HS.drew hr (by omega)).mono ?_; rintro e w1 ⟨A1, c1, rfl, H1⟩; have M1 := H1.lit (Array.replicate n (.bool false)) 4 1 n (by simp) (by simp only [maxLen]; omega)))
  all_goals
    first
    | have H8 := ((H2.lit (Array.replicate n (.bool false)) 4 1 n (by simp) (by simp only [maxLen]; omega)).allocAt #[.slice A1 n c1, .slice A2 n c2, .slice (some ⟨w2.heap.size, 0, none⟩) n n] 67 (B := w2.heap.size + 1) (by simp)).sel 4 [0, 3, 2, 1]
    | have H8 := (M2.allocAt #[.slice A1 n c1, .slice A2 n c2, .slice (some ⟨w1.heap.size, 0, none⟩) n n] 67 (B := w2.heap.size) rfl).sel 4 [0, 3, 1, 2]
    | have H8 := (K2.allocAt #[.slice A1 n c1, .slice A2 n c2, .slice (some ⟨w.heap.size, 0, none⟩) n n] 67 (B := w2.heap.size) rfl).sel 4 [0, 2, 1, 3]
    rw [HZ.out] at H8
    go_wp2
    go_ret2
    exact ⟨_, rfl, Sep.docd HOK.out HNN.out HNN.out HNN.out H8⟩

theorem dfree_calls {k : Nat} (HS : Sep w0 w O (docA g now was :: L)) (hk : k < now.length) :
    Calls Try.prog 41 #[.pointer (some ⟨g, 0, none⟩), .int .i64 k] w fun e w' => e = .returned (.bool (gat now k == 0 && gat was k == 0)) ∧ w = w' := by
  obtain ⟨hok, a0, a1, a2, c0, c1, c2, H⟩ := HS.undoc
  have b0 := H.blkAt 0 rfl
  have b1 := H.blkAt 1 rfl
  have hkw : k < was.length := by have := hok.len; omega
  have ck := H.up1.kcell hk rfl
  have dk := H.up2.kcell hkw hok.len
  rw [gat_int hk] at ck
  rw [gat_int hkw] at dk
  have hk1 : (k : Int) < now.length := by omega
  clear HS H hok hkw hk
  by_cases h1 : gat now k = 0
  · rw [h1] at ck ⊢
    by_cases h2 : gat was k = 0
    · rw [h2] at dk ⊢
      go_enter Try.func41, Try.ntmps41
      go_wp2
      go_ret
      exact ⟨rfl, rfl⟩
    · have e2 : (gat was k == 0) = false := beq_eq_false_iff_ne.2 h2
      have E2 := hid e2
      generalize gat was k = y at *
      clear h2
      go_enter Try.func41, Try.ntmps41
      go_wp2
      go_ret
      exact ⟨by rw [E2.out]; rfl, rfl⟩
  · have e1 : (gat now k == 0) = false := beq_eq_false_iff_ne.2 h1
    have E1 := hid e1
    generalize gat now k = x at *
    generalize gat was k = y at *
    clear h1
    go_enter Try.func41, Try.ntmps41
    go_wp2
    go_ret
    exact ⟨by rw [E1.out]; rfl, rfl⟩

set_option maxHeartbeats 1000000 in
theorem dalloc_calls (HS : Sep w0 w O (docA g now was :: L)) :
    Calls Try.prog 23 #[.pointer (some ⟨g, 0, none⟩)] w fun e w' => e = .returned (.tuple #[.int .i64 (takeAt (isOf now was)), .int .i64 (takeErr (isOf now was))]) ∧ Sep w0 w' O (docA g (alNow now was) was :: L) := by
  obtain ⟨hok, a0, a1, a2, c0, c1, c2, H⟩ := HS.undoc
  have b0 := H.blkAt 0 rfl
  have hhi := hok.hi
  have HOK := hid hok
  have hfl := hid (frOf_len hok.len)
  have hil := hid (isOf_len hok.len)
  clear hok
  go_enter Try.func23, Try.ntmps23
  go_wp2
  go_loopw [4] (fun v wr => ∃ k : Nat, v = .int .i64 k ∧ k ≤ now.length ∧ (∀ j, j < k → (isOf now was)[j]? ≠ some true) ∧ wr = w) (fun v _ => now.length - (intOf v).toNat)
  case atStart => exact ⟨0, rfl, Nat.zero_le _, fun j hj => absurd hj (Nat.not_lt_zero j), rfl⟩
  case round =>
    obtain ⟨k, rfl, hk, hno, rfl⟩ := hrel
    have HNO := hid hno
    clear hno
    by_cases hlt : k < now.length
    · have hk1 : (k : Int) < now.length := by omega
      have hg := isOf_get HOK.out.len hlt
      have hF := dfree_calls HS hlt
      cases hb : (gat now k == 0 && gat was k == 0) with
      | false =>
        rw [hb] at hF hg
        have HG := hid hg
        clear hg hb
        go_wp2_with fail
        refine hF.mono ?_
        rintro e w1 ⟨rfl, rfl⟩
        go_wp2
        go_roundw
        case rel => exact ⟨k + 1, by go_num, by omega, fun j hj => by
          by_cases hjk : j = k
          · rw [hjk, HG.out]; simp
          · exact HNO.out j (by omega), by trivial⟩
        case measure => simp [intOf]; omega
      | true =>
        rw [hb] at hF hg
        have hl := leastOf_some hg HNO.out
        obtain ⟨-, g1, g2, s1, s2, s3⟩ := alloc_step HOK.out hl
        have ck := H.up1.kcell hlt rfl
        have zk := H.up1.own_frozen k
        have H3 := H.up1.own_set k (.int .u8 1)
        rw [kv_set] at H3
        have d2 := H3.up1.blkAt 2 rfl
        have H5 := H3.up3
        rw [show now.length = (frOf now was).length by rw [hfl.out]] at H5
        have fk := H5.bcell (show k < (frOf now was).length by rw [hfl.out]; exact hlt)
        have fz := H5.own_frozen k
        have H6 := H5.bset k true
        rw [hfl.out] at H6
        have HL := hid hl
        have HS2 := hid s2
        have HS3 := hid s3
        clear hl s1 s2 s3 hg hb g1 g2 H3 H5
        go_wp2_with fail
        refine hF.mono ?_
        rintro e w1 ⟨rfl, rfl⟩
        go_wp2
        go_ret2
        have e1 : takeAt (isOf now was) = k := by unfold takeAt; rw [HL.out]; rfl
        have e2 : takeErr (isOf now was) = 0 := by unfold takeErr; rw [HL.out]; rfl
        have e3 : alNow now was = now.set k 1 := by unfold alNow; rw [HL.out]
        refine ⟨by rw [e1, e2]; rfl, ?_⟩
        rw [e3]
        refine Sep.docd (now := now.set k 1) (A0 := some ⟨a0, 0, none⟩) (A1 := some ⟨a1, 0, none⟩) (A2 := some ⟨a2, 0, none⟩) (c0 := c0) (c1 := c1) (c2 := c2) HS3.out (by rw [List.length_set]) (by rw [List.length_set]) (by rw [List.length_set]) ?_
        rw [HS2.out]
        exact H6.sel 4 [2, 1, 3, 0]
    · obtain rfl : k = now.length := by omega
      have hk1 : ¬ (now.length : Int) < now.length := by omega
      have hl := leastOf_none (is := isOf now was) fun j hj => by
        rcases Nat.lt_or_ge j now.length with h | h
        · exact HNO.out j h hj
        · rw [List.getElem?_eq_none (by rw [hil.out]; exact h)] at hj; cases hj
      have HL := hid hl
      clear hl
      go_wp2
      go_ret2
      have e1 : takeAt (isOf now was) = 0 := by unfold takeAt; rw [HL.out]; rfl
      have e2 : takeErr (isOf now was) = 8 := by unfold takeErr; rw [HL.out]; rfl
      have e3 : alNow now was = now := by unfold alNow; rw [HL.out]
      exact ⟨by rw [e1, e2]; rfl, by rw [e3]; exact HS⟩
end
end Go.Proofs.Ytepooiiaijbljaa
