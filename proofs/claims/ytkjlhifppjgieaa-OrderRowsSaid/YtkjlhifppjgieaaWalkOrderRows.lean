/-
  The walk of OrderRows.
-/
import Derived.Test.YtkjlhifppjgieaaPutAny
import Derived.Test.YtkjlhifppjgieaaSame
import Derived.Test.YtkjlhifppjgieaaLaw01
import Derived.Test.YtkjlhifppjgieaaView
import Derived.Deep.DeepCutAuto
namespace Go.Proofs.Ytkjlhifppjgieaa
open Go.RowKit
set_option linter.unusedVariables false
set_option linter.unusedSimpArgs false

/-- the bytes of numbers of some sizes -/
def lay : List Nat → List Int → List Int
  | s :: ss, x :: xs => be s x ++ lay ss xs
  | _, _ => []
def low : List Nat → List Int → List Int
  | s :: ss, x :: xs => x % 256 ^ s :: low ss xs
  | _, _ => []
theorem lay_len : ∀ (ss : List Nat) (xs : List Int), ss.length = xs.length → (lay ss xs).length = tot ss
  | [], [], _ => rfl
  | s :: ss, x :: xs, h => by simp [lay, be_len, tot, lay_len ss xs (by simpa using h)]
  | [], _ :: _, h => by simp at h
  | _ :: _, [], h => by simp at h
theorem lay_byt : ∀ (ss : List Nat) (xs : List Int), Byt (lay ss xs)
  | s :: ss, x :: xs => (be_byt s x).append (lay_byt ss xs)
  | [], _ => Byt.nil
  | _ :: _, [] => Byt.nil
theorem cut_lay : ∀ (ss : List Nat) (xs : List Int), ss.length = xs.length → cut (lay ss xs) ss = low ss xs
  | [], [], _ => rfl
  | s :: ss, x :: xs, h => by
    have h1 : (be s x ++ lay ss xs).take s = be s x := by
      rw [List.take_append_of_le_length (by rw [be_len]; exact Nat.le_refl _), List.take_of_length_le (by rw [be_len]; exact Nat.le_refl _)]
    have h2 : (be s x ++ lay ss xs).drop s = lay ss xs := by
      rw [List.drop_append, be_len, Nat.sub_self, List.drop_zero, List.drop_of_length_le (by rw [be_len]; exact Nat.le_refl _)]; rfl
    show num ((be s x ++ lay ss xs).take s) :: cut ((be s x ++ lay ss xs).drop s) ss = _
    rw [h1, h2, num_be, cut_lay ss xs (by simpa using h)]; rfl
  | [], _ :: _, h => by simp at h
  | _ :: _, [], h => by simp at h
theorem lay_snoc : ∀ (ss : List Nat) (xs : List Int) (s : Nat) (x : Int), ss.length = xs.length → lay (ss ++ [s]) (xs ++ [x]) = lay ss xs ++ be s x
  | [], [], s, x, _ => by simp [lay]
  | t :: ss, y :: xs, s, x, h => by simp [lay, lay_snoc ss xs s x (by simpa using h)]
  | [], _ :: _, _, _, h => by simp at h
  | _ :: _, [], _, _, h => by simp at h
theorem low_snoc : ∀ (ss : List Nat) (xs : List Int) (s : Nat) (x : Int), ss.length = xs.length → low (ss ++ [s]) (xs ++ [x]) = low ss xs ++ [x % 256 ^ s]
  | [], [], s, x, _ => by simp [low]
  | t :: ss, y :: xs, s, x, h => by simp [low, low_snoc ss xs s x (by simpa using h)]
  | [], _ :: _, _, _, h => by simp at h
  | _ :: _, [], _, _, h => by simp at h

theorem mask (x : Int) (s : Nat) (h1 : 1 ≤ s) (h8 : s ≤ 8) (hx : 0 ≤ x) (hx1 : x ≤ 18446744073709551615) : IntKind.u64.wrap (x * 2 ^ (64 - 8 * s)) / 2 ^ (64 - 8 * s) = x % 256 ^ s := by
  rw [IntKind.wrap_u64]
  have h : s = 1 ∨ s = 2 ∨ s = 3 ∨ s = 4 ∨ s = 5 ∨ s = 6 ∨ s = 7 ∨ s = 8 := by omega
  rcases h with rfl | rfl | rfl | rfl | rfl | rfl | rfl | rfl <;> simp <;> omega

/-- what one round leaves: k numbers of k sizes were laid -/
def RowsAt (w : World) (g : Nat) (k : Nat) (ss : List Nat) (ns : List Int) (B C D : Option Addr) (cb cc cd : Nat) (wr : World) : Prop :=
  ss.length = k ∧ ns.length = k ∧ (∀ s ∈ ss, 1 ≤ s ∧ s ≤ 8) ∧
  Sep w wr (fun _ => False) (own 5 1 B (tot ss) cb (by8 (lay ss ns)) :: own 3 1 C k cc (iv (ss.map Int.ofNat)) :: own 23 1 D k cd (uv (low ss ns)) :: tape g [] :: [])

set_option maxHeartbeats 4000000 in
set_option maxRecDepth 100000 in
theorem orderRows_walk (A0 : Option Addr) (n0 c0 : Nat) (A1 : Option Addr) (n1 c1 : Nat) (a2 : Bool) (x0 : Sh.V (.slice (.int .u64) 8)) (x1 : Sh.V (.slice (.int .u8) 1)) (x2 : Sh.V .bool) (w : World) (s0 : Sees w.heap (.slice (.int .u64) 8) [.slice A0 n0 c0] x0) (s1 : Sees w.heap (.slice (.int .u8) 1) [.slice A1 n1 c1] x1) (s2 : Sees w.heap .bool [.bool a2] x2) (y0 : Light (.slice (.int .u64) 8) x0) (y1 : Light (.slice (.int .u8) 1) x1) (y2 : Light .bool x2) :
    Calls Try.prog 4 #[.slice A0 n0 c0, .slice A1 n1 c1, .bool a2] w fun e w' => e = .returned (.bool true) ∧ Below w.heap.size w w' := by
  obtain ⟨i0, hi0, hz0, hz1, hz2⟩ := info_parts info_u8
  obtain ⟨i1, hi1, hy0, hy1, hy2⟩ := info_parts info_u64
  obtain ⟨i3, hi3, hv0, hv1, hv2⟩ := info_parts (show (Try.prog.info? 3).map (fun i => (i.zero, i.size, i.bytes)) = some (some (.int .i64 0), 1, 8) by kernel_rfl)
  obtain ⟨hn0, hr0, hc0, hm0, hw0⟩ := sees_ints s0
  obtain ⟨hn1, hr1, hc1, hm1, hw1⟩ := sees_ints s1
  have hb0 : Aside (∀ x ∈ (show List Int from x0), 0 ≤ x ∧ x ≤ 18446744073709551615) := ⟨fun x hx => bounds_u64 (hw0 x hx)⟩
  have hb1 := hid (kv_byt hw1)
  have ly0 : n0 ≤ 17592186044404 := by have := y0.1; omega
  have ly1 : n1 ≤ 140737488351232 := by have := y1.1; omega
  have HR0 := hid (fun L => Rb.came (L := L) hr0)
  have HR1 := hid (fun L => Rb.came (L := L) hr1)
  clear hn0 hn1 hw0 hw1 hr0 hr1 y0 y1 y2 s0 s1 s2 hm0 hm1
  have HS := Sep.start w
  go_enter Try.func4, Try.ntmps4
  go_wp2_with fail
  refine (new_calls HS).mono ?_
  rintro e w1 ⟨g, rfl, HS1⟩
  go_wp2_with fail
  refine (awake_calls HS1).mono ?_
  rintro e w2 ⟨rfl, HS2⟩
  clear HS HS1
  go_wp2
  go_loopw [8, 9, 10, 25] (fun b a v i wr => ∃ (k : Nat) (ss : List Nat) (ns : List Int) (B C D : Option Addr) (cb cc cd : Nat), k ≤ n0 ∧ k ≤ n1 ∧ k ≤ 100 ∧ i = .int .i64 k ∧ b = .slice B (tot ss) cb ∧ a = .slice C k cc ∧ v = .slice D k cd ∧ RowsAt w g k ss ns B C D cb cc cd wr) (fun _ _ _ i _ => n0 - (intOf i).toNat)
  case atStart => exact ⟨0, [], [], none, none, none, 0, 0, 0, by omega, by omega, by omega, rfl, rfl, rfl, rfl, rfl, rfl, by simp, ((HS2.nil 23 1).nil 3 1).nil 5 1⟩
  case round =>
    obtain ⟨k, ss, ns, B, C, D, cb, cc, cd, hk0, hk1, hk2, rfl, rfl, rfl, rfl, hsl, hnl, h18, HS3⟩ := hrel
    have ht : tot ss ≤ 800 := by have := tot_bd ss fun s hs => (h18 s hs).2; omega
    have HSL := hid hsl; have HNL := hid hnl; have H18 := hid h18
    clear hsl hnl h18
    by_cases hgo : k < n0 ∧ k < n1 ∧ k < 100
    · obtain ⟨hg0, hg1, hg2⟩ := hgo
      obtain ⟨ad0, x, rfl, _, hmx, hcell0⟩ := (HR0.out _).elemn HS3 hg0
      obtain ⟨ad1, y, rfl, _, hmy, hcell1⟩ := (HR1.out _).elemn HS3 hg1
      obtain ⟨hx0, hx1⟩ := hb0.out x hmx
      obtain ⟨hy0', hy1'⟩ := hb1.out y hmy
      clear hmx hmy
      have q0 : ((k : Int) == (n1 : Int)) = false := by rw [beq_eq_false_iff_ne]; omega
      have q1 : ((k : Int) == 100) = false := by rw [beq_eq_false_iff_ne]; omega
      obtain ⟨s, hs⟩ := Int.eq_ofNat_of_zero_le (show 0 ≤ 1 + y % 8 by omega)
      have hs1 : 1 ≤ s := by omega
      have hs8 : s ≤ 8 := by omega
      go_wp2_with fail
      refine (put_ok HS3 Rb.i0 (by omega) hs1 hs8 hx0 (by omega)).mono ?_
      rintro e w4 ⟨B4, cb4, rfl, HS4⟩
      have HL4 : Sep w (w4.alloc (.cells #[.int .i64 s] 3)) (fun _ => False) (own 3 1 C k cc (iv (ss.map Int.ofNat)) :: own 3 1 (some ⟨w4.heap.size, 0, none⟩) 1 1 (iv [(s : Int)]) :: own 5 1 B4 (tot ss + s) cb4 (by8 (lay ss ns ++ be s x)) :: own 5 1 B (tot ss) cb (by8 (lay ss ns)) :: own 23 1 D k cd (uv (low ss ns)) :: tape g [] :: []) := ((HS4.lit #[.int .i64 s] 3 1 1 rfl (by decide)).up3)
      have HM := hid (mask x s hs1 hs8 hx0 hx1)
      go_wp2_with (first
        | (at_builtin; refine wpList_append_sep rfl (.tmp 49) (.tmp 51) 34 rfl 3 i3 _ 1 8 Try.underlying34 hi3 hv0 hv1 hv2 rfl (by decide) rfl HL4 rfl HL4.rd1 (kv_one _ [_]) (by simp only [maxLen]; omega) (by omega) rfl (kv_append _ _ _) ?_; intro C5 cc5 w5 HS5 hsz5; have HL5 := fun z => (HS5.lit #[.int .u64 z] 23 1 1 rfl (by decide)); have HL6 : ∀ z, Sep w (w5.alloc (.cells #[.int .u64 z] 23)) (fun _ => False) (own 23 1 D k cd (uv (low ss ns)) :: own 23 1 (some ⟨w5.heap.size, 0, none⟩) 1 1 (uv [z]) :: own 3 1 C5 (k + 1) cc5 (kv .i64 (ss.map Int.ofNat ++ [(s : Int)])) :: own 3 1 (some ⟨w4.heap.size, 0, none⟩) 1 1 (iv [(s : Int)]) :: own 5 1 B4 (tot ss + s) cb4 (by8 (lay ss ns ++ be s x)) :: own 5 1 B (tot ss) cb (by8 (lay ss ns)) :: tape g [] :: []) := fun z => (HL5 z).up5; have HH := hid HL6; clear HL5 HL6)
        | (at_builtin; go_loud (refine wpList_append_sep rfl (.tmp 53) (.tmp 65) 31 rfl 23 i1 _ 1 8 Try.underlying31 hi1 hy0 hy1 hy2 rfl (by decide) rfl (HH.out _) rfl (HH.out _).rd1 (kv_one _ [_]) (by simp only [maxLen]; omega) (by omega) rfl (kv_append _ _ _) ?_); intro D6 cd6 w6 HS6 hsz6))
      go_roundw
      case rel =>
        refine ⟨k + 1, ss ++ [s], ns ++ [x], B4, C5, D6, cb4, cc5, cd6, by omega, by omega, by omega, by go_num, ?_, rfl, rfl, by simp [HSL.out], by simp [HNL.out], ?_, ?_⟩
        · rw [tot_append]; simp [tot]
        · intro z hz
          rcases List.mem_append.1 hz with hz | hz
          · exact H18.out z hz
          · simp at hz; omega
        · have e1 : tot (ss ++ [s]) = tot ss + s := by rw [tot_append]; simp [tot]
          have e2 : lay (ss ++ [s]) (ns ++ [x]) = lay ss ns ++ be s x := lay_snoc _ _ _ _ (by rw [HSL.out, HNL.out])
          have e3 : low (ss ++ [s]) (ns ++ [x]) = low ss ns ++ [x % 256 ^ s] := low_snoc _ _ _ _ (by rw [HSL.out, HNL.out])
          rw [e1, e2, e3, List.map_append, ← HM.out]
          exact HS6.sel 7 [4, 2, 0, 6]
      case measure => simp [intOf]; omega
    · have hex : k = n0 ∨ (k < n0 ∧ k = n1) ∨ (k < n0 ∧ k < n1 ∧ k = 100) := by omega
      have hgo' := hid hgo
      clear hgo
      have q1 : k = 100 → ((k : Int) == 100) = true := fun h => by subst h; rfl
      have HQ1 := hid q1
      clear q1
      have hpush : Aside (Calls Try.prog 15 #[.pointer (some ⟨g, 0, none⟩), .slice B (tot ss) cb] wr fun e w' => e = .returned (.tuple #[]) ∧ Sep w w' (fun _ => False) (tape g (lay ss ns) :: own 5 1 B (tot ss) cb (by8 (lay ss ns)) :: own 3 1 C k cc (iv (ss.map Int.ofNat)) :: own 23 1 D k cd (uv (low ss ns)) :: [])) := ⟨push_calls HS3.up3 Rb.i0 (by simp; omega)⟩
      have hll : Aside ((lay ss ns).length = tot ss) := ⟨lay_len _ _ (by rw [HSL.out, HNL.out])⟩
      have hcl : Aside (cut (lay ss ns) ss = low ss ns) := ⟨cut_lay _ _ (by rw [HSL.out, HNL.out])⟩
      have hdd : Aside ((lay ss ns).drop (tot ss) = []) := ⟨List.drop_of_length_le (by rw [hll.out]; exact Nat.le_refl _)⟩
      rcases hex with rfl | ⟨hg0, rfl⟩ | ⟨hg0, hg1, hk⟩
      · clear HS3
        go_wp2_with fail
        refine hpush.out.mono ?_
        rintro e w4 ⟨rfl, HS4⟩
        have hz : Sizes C w (fun _ => False) [own 5 1 B (tot ss) cb (by8 (lay ss ns)), own 3 1 C k cc (iv (ss.map Int.ofNat)), own 23 1 D k cd (uv (low ss ns))] ss := ⟨by rw [HSL.out]; exact Rb.i1, H18.out, by rw [HSL.out]; omega⟩
        have hnum : ∀ b c', Calls Try.prog 16 #[.pointer (some ⟨g, 0, none⟩), .bool b, .slice C k c'] w4 fun e w' => ∃ A' c', e = .returned (.tuple #[.slice A' k c', .bool true]) ∧ Sep w w' (fun _ => False) (own 23 1 A' k c' (uv (low ss ns)) :: tape g (if b then [] else lay ss ns) :: own 5 1 B (tot ss) cb (by8 (lay ss ns)) :: own 3 1 C k cc (iv (ss.map Int.ofNat)) :: own 23 1 D k cd (uv (low ss ns)) :: []) := by
          intro b c'
          cases b
          · have := numbers_peek (c := c') HS4 hz (lay_byt _ _) (by rw [hll.out]; exact Nat.le_refl _) (by rw [hll.out]; omega)
            rw [hcl.out, HSL.out] at this
            exact this
          · have := numbers_take (c := c') HS4 hz (lay_byt _ _) (by rw [hll.out]; exact Nat.le_refl _) (by rw [hll.out]; omega)
            rw [hcl.out, hdd.out, HSL.out] at this
            exact this
        have HNU := hid hnum
        clear hnum hz hpush
        go_wp2_with fail
        refine (HNU.out _ _).mono ?_
        rintro e w5 ⟨A5, c5, rfl, HS5⟩
        have hc5 := own_le HS5
        have hcd := own_le HS5.up4
        go_wp2_with fail
        refine (same_calls HS5 Rb.i0 Rb.i4 (by omega) hc5 hcd).mono ?_
        rintro e w6 ⟨rfl, q6, rfl⟩
        rw [decide_eq_true (rfl : low ss ns = low ss ns)]
        have HS6 := HS5.drewN q6
        cases a2
        · go_wp2_with fail
          refine (len_calls HS6.up1).mono ?_
          rintro e w7 ⟨rfl, rfl⟩
          rw [show (if false = true then ([] : List Int) else lay ss ns).length = tot ss from hll.out]
          go_wp2
          go_ret
          exact ⟨rfl, HS6.below⟩
        · go_wp2_with fail
          refine (len_calls HS6.up1).mono ?_
          rintro e w7 ⟨rfl, rfl⟩
          go_wp2
          go_ret
          exact ⟨rfl, HS6.below⟩
      · obtain ⟨ad0, x, rfl, _, _, hcell0⟩ := (HR0.out _).elemn HS3 hg0
        go_wp2_with fail
        refine hpush.out.mono ?_
        rintro e w4 ⟨rfl, HS4⟩
        have hz : Sizes C w (fun _ => False) [own 5 1 B (tot ss) cb (by8 (lay ss ns)), own 3 1 C k cc (iv (ss.map Int.ofNat)), own 23 1 D k cd (uv (low ss ns))] ss := ⟨by rw [HSL.out]; exact Rb.i1, H18.out, by rw [HSL.out]; omega⟩
        have hnum : ∀ b c', Calls Try.prog 16 #[.pointer (some ⟨g, 0, none⟩), .bool b, .slice C k c'] w4 fun e w' => ∃ A' c', e = .returned (.tuple #[.slice A' k c', .bool true]) ∧ Sep w w' (fun _ => False) (own 23 1 A' k c' (uv (low ss ns)) :: tape g (if b then [] else lay ss ns) :: own 5 1 B (tot ss) cb (by8 (lay ss ns)) :: own 3 1 C k cc (iv (ss.map Int.ofNat)) :: own 23 1 D k cd (uv (low ss ns)) :: []) := by
          intro b c'
          cases b
          · have := numbers_peek (c := c') HS4 hz (lay_byt _ _) (by rw [hll.out]; exact Nat.le_refl _) (by rw [hll.out]; omega)
            rw [hcl.out, HSL.out] at this
            exact this
          · have := numbers_take (c := c') HS4 hz (lay_byt _ _) (by rw [hll.out]; exact Nat.le_refl _) (by rw [hll.out]; omega)
            rw [hcl.out, hdd.out, HSL.out] at this
            exact this
        have HNU := hid hnum
        clear hnum hz hpush
        go_wp2_with fail
        refine (HNU.out _ _).mono ?_
        rintro e w5 ⟨A5, c5, rfl, HS5⟩
        have hc5 := own_le HS5
        have hcd := own_le HS5.up4
        go_wp2_with fail
        refine (same_calls HS5 Rb.i0 Rb.i4 (by omega) hc5 hcd).mono ?_
        rintro e w6 ⟨rfl, q6, rfl⟩
        rw [decide_eq_true (rfl : low ss ns = low ss ns)]
        have HS6 := HS5.drewN q6
        cases a2
        · go_wp2_with fail
          refine (len_calls HS6.up1).mono ?_
          rintro e w7 ⟨rfl, rfl⟩
          rw [show (if false = true then ([] : List Int) else lay ss ns).length = tot ss from hll.out]
          go_wp2
          go_ret
          exact ⟨rfl, HS6.below⟩
        · go_wp2_with fail
          refine (len_calls HS6.up1).mono ?_
          rintro e w7 ⟨rfl, rfl⟩
          go_wp2
          go_ret
          exact ⟨rfl, HS6.below⟩
      · obtain ⟨ad0, x, rfl, _, _, hcell0⟩ := (HR0.out _).elemn HS3 hg0
        have q2 := HQ1.out hk
        have q3 : ((k : Int) == (n1 : Int)) = false := by rw [beq_eq_false_iff_ne]; omega
        clear hk
        go_wp2_with fail
        refine hpush.out.mono ?_
        rintro e w4 ⟨rfl, HS4⟩
        have hz : Sizes C w (fun _ => False) [own 5 1 B (tot ss) cb (by8 (lay ss ns)), own 3 1 C k cc (iv (ss.map Int.ofNat)), own 23 1 D k cd (uv (low ss ns))] ss := ⟨by rw [HSL.out]; exact Rb.i1, H18.out, by rw [HSL.out]; omega⟩
        have hnum : ∀ b c', Calls Try.prog 16 #[.pointer (some ⟨g, 0, none⟩), .bool b, .slice C k c'] w4 fun e w' => ∃ A' c', e = .returned (.tuple #[.slice A' k c', .bool true]) ∧ Sep w w' (fun _ => False) (own 23 1 A' k c' (uv (low ss ns)) :: tape g (if b then [] else lay ss ns) :: own 5 1 B (tot ss) cb (by8 (lay ss ns)) :: own 3 1 C k cc (iv (ss.map Int.ofNat)) :: own 23 1 D k cd (uv (low ss ns)) :: []) := by
          intro b c'
          cases b
          · have := numbers_peek (c := c') HS4 hz (lay_byt _ _) (by rw [hll.out]; exact Nat.le_refl _) (by rw [hll.out]; omega)
            rw [hcl.out, HSL.out] at this
            exact this
          · have := numbers_take (c := c') HS4 hz (lay_byt _ _) (by rw [hll.out]; exact Nat.le_refl _) (by rw [hll.out]; omega)
            rw [hcl.out, hdd.out, HSL.out] at this
            exact this
        have HNU := hid hnum
        clear hnum hz hpush
        go_wp2_with fail
        refine (HNU.out _ _).mono ?_
        rintro e w5 ⟨A5, c5, rfl, HS5⟩
        have hc5 := own_le HS5
        have hcd := own_le HS5.up4
        go_wp2_with fail
        refine (same_calls HS5 Rb.i0 Rb.i4 (by omega) hc5 hcd).mono ?_
        rintro e w6 ⟨rfl, q6, rfl⟩
        rw [decide_eq_true (rfl : low ss ns = low ss ns)]
        have HS6 := HS5.drewN q6
        cases a2
        · go_wp2_with fail
          refine (len_calls HS6.up1).mono ?_
          rintro e w7 ⟨rfl, rfl⟩
          rw [show (if false = true then ([] : List Int) else lay ss ns).length = tot ss from hll.out]
          go_wp2
          go_ret
          exact ⟨rfl, HS6.below⟩
        · go_wp2_with fail
          refine (len_calls HS6.up1).mono ?_
          rintro e w7 ⟨rfl, rfl⟩
          go_wp2
          go_ret
          exact ⟨rfl, HS6.below⟩
end Go.Proofs.Ytkjlhifppjgieaa
