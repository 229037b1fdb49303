/-
  The walk of TapeParts.
-/
import Derived.Test.YtkjlhifppjgieaaLaw01
import Derived.Test.YtkjlhifppjgieaaView
import Derived.Deep.DeepCutAuto
namespace Go.Proofs.Ytkjlhifppjgieaa
open Go.RowKit
set_option linter.unusedVariables false
set_option linter.unusedSimpArgs false

theorem parts_join {l : List Int} {a o q : Nat} (ha : a ≤ l.length) (ho : o ≤ a) : (l.take a).drop o ++ (l.drop a).take q = (l.take (a + q)).drop o := by
  have hlen : (l.take a).length = a := by rw [List.length_take]; omega
  rw [List.take_add, List.drop_append, hlen, show o - a = 0 by omega, List.drop_zero]
theorem parts_take {l : List Int} {m o k : Nat} (hk : k ≤ m - o) : l.take o ++ ((l.take m).drop o).take k = l.take (o + k) := by
  rw [List.take_add, List.drop_take, List.take_take, Nat.min_eq_left hk]

set_option maxHeartbeats 2000000 in
set_option maxRecDepth 100000 in
theorem tapeParts_walk (A0 : Option Addr) (n0 c0 : Nat) (A1 : Option Addr) (n1 c1 : Nat) (A2 : Option Addr) (n2 c2 : Nat) (x0 : Sh.V (.slice (.int .u8) 1)) (x1 : Sh.V (.slice (.int .u8) 1)) (x2 : Sh.V (.slice (.int .u8) 1)) (w : World) (s0 : Sees w.heap (.slice (.int .u8) 1) [.slice A0 n0 c0] x0) (s1 : Sees w.heap (.slice (.int .u8) 1) [.slice A1 n1 c1] x1) (s2 : Sees w.heap (.slice (.int .u8) 1) [.slice A2 n2 c2] x2) (y0 : Light (.slice (.int .u8) 1) x0) (y1 : Light (.slice (.int .u8) 1) x1) (y2 : Light (.slice (.int .u8) 1) x2) :
    Calls Try.prog 8 #[.slice A0 n0 c0, .slice A1 n1 c1, .slice A2 n2 c2] w fun e w' => e = .returned (.bool true) ∧ Below w.heap.size w w' := by
  obtain ⟨i0, hi0, hz0, hz1, hz2⟩ := info_parts info_u8
  obtain ⟨hn0, hr0, hc0, hm0, hw0⟩ := sees_ints s0
  obtain ⟨hn1, hr1, hc1, hm1, hw1⟩ := sees_ints s1
  obtain ⟨hn2, hr2, hc2, hm2, hw2⟩ := sees_ints s2
  have hb0 := hid (kv_byt hw0)
  have hb1 := hid (kv_byt hw1)
  have hb2 := hid (kv_byt hw2)
  have ly1 : n1 ≤ 140737488351232 := by have := y1.1; omega
  have ly2 : n2 ≤ 140737488351232 := by have := y2.1; omega
  have HR0 := hid (fun L => Rb.came (L := L) hr0)
  have HR1 := hid (fun L => Rb.came (L := L) hr1)
  have HR2 := hid (fun L => Rb.came (L := L) hr2)
  have HN0 := hid hn0; have HN1 := hid hn1; have HN2 := hid hn2
  clear hn0 hn1 hn2 hw0 hw1 hw2 hr0 hr1 hr2 y0 y1 y2 s0 s1 s2 hm0 hm1 hm2
  have HS := Sep.start w
  go_enter Try.func8, Try.ntmps8
  go_wp2_with fail
  refine (new_calls HS).mono ?_
  rintro e w1 ⟨g, rfl, HS1⟩
  go_wp2_with fail
  refine (awake_calls HS1).mono ?_
  rintro e w2 ⟨rfl, HS2⟩
  clear HS HS1
  by_cases hbig : 20000 < n0
  · go_wp2
    go_ret
    exact ⟨rfl, HS2.below⟩
  · go_wp2
    go_loopw [8, 9, 10] (fun v a i wr => ∃ (j at_ o : Nat) (B : Option Addr) (cb : Nat), i = .int .i64 j ∧ a = .int .i64 at_ ∧ v = .slice B o cb ∧ o ≤ at_ ∧ at_ ≤ n0 ∧ j ≤ max n1 n2 + 1 ∧ (max n1 n2 < j → at_ = n0 ∧ o = n0) ∧
      Sep w wr (fun _ => False) (own 5 1 B o cb (by8 (x0.take o)) :: tape g ((x0.take at_).drop o) :: [])) (fun _ _ i _ => max n1 n2 + 1 - (intOf i).toNat)
    case atStart => exact ⟨0, 0, 0, none, 0, rfl, rfl, rfl, by omega, by omega, by omega, by omega, by simpa [kv] using HS2.nil 5 1⟩
    case round =>
      obtain ⟨j, at_, o, B, cb, rfl, rfl, rfl, ho, ha, hj, hfin, HS3⟩ := hrel
      by_cases hend : at_ = n0 ∧ o = n0
      · obtain ⟨h1, h2⟩ := hend
        subst h1
        subst h2
        have hx : x0.take o = x0 := List.take_of_length_le (by have := HN0.out; omega)
        rw [hx, List.drop_of_length_le (by have := HN0.out; omega)] at HS3
        clear hfin hx
        go_wp2_with fail
        refine (equal_calls HS3 Rb.i0 (HR0.out _) hb0.out hb0.out).mono ?_
        rintro e w4 ⟨rfl, rfl⟩
        rw [show decide ((show List Int from x0) = x0) = true from decide_eq_true rfl]
        go_wp2_with fail
        refine (len_calls HS3.up1).mono ?_
        rintro e w5 ⟨rfl, rfl⟩
        go_wp2
        go_ret
        exact ⟨rfl, HS3.below⟩
      · have hjm : j ≤ max n1 n2 := by
          rcases Nat.lt_or_ge (max n1 n2) j with h | h
          · exact absurd (hfin h) hend
          · exact h
        have hgo : at_ < n0 ∨ (¬ at_ < n0 ∧ o < n0) := by omega
        clear hend hfin
        have HO := hid ho
        rcases hgo with hgo | ⟨hgo, hgo'⟩
        all_goals
          go_upto_if 45 with (fail)
          go_cut [11] (fun v wx => ∃ q : Nat, q + at_ ≤ n0 ∧ (n1 ≤ j → q + at_ = n0) ∧ v = .int .i64 q ∧ wx = wr)
          case first =>
            by_cases hp : j < n1
            · obtain ⟨ad1, y1, rfl, _, hm1, hcell1⟩ := (HR1.out _).elemn HS3 hp
              obtain ⟨hx1, hx1'⟩ := hb1.out y1 hm1
              clear hm1
              go_wp2
              all_goals
                go_meet
                case rel =>
                  first
                  | exact ⟨y1.toNat, by omega, by omega, by rw [Int.toNat_of_nonneg hx1], rfl⟩
                  | exact ⟨n0 - at_, by omega, by omega, by first | rfl | (congr 1; omega), rfl⟩
            · go_wp2
              go_meet
              case rel => exact ⟨n0 - at_, by omega, by omega, by first | rfl | (congr 1; omega), rfl⟩
          case rest =>
            obtain ⟨q, hq, hq', rfl, rfl⟩ := hcut
            have hlen : (x0.take at_).length = at_ := by have := HN0.out; rw [List.length_take]; omega
            have HJ : (x0.take at_).drop o ++ (x0.drop at_).take q = (x0.take (at_ + q)).drop o := parts_join (by have := HN0.out; omega) ho
            have hll : ((x0.take at_).drop o).length + q ≤ 20000 := by rw [List.length_drop, hlen]; omega
            have hL0 : ((x0.take (at_ + q)).drop o).length = at_ + q - o := by have := HN0.out; rw [List.length_drop, List.length_take]; omega
            have HX0 : ∀ k, k ≤ at_ + q - o → by8 (x0.take o) ++ by8 (((x0.take (at_ + q)).drop o).take k) = by8 (x0.take (o + k)) := fun k hk => by rw [by8_append, parts_take hk]
            have HD0 : ∀ k, k ≤ at_ + q - o → ((x0.take (at_ + q)).drop o).drop k = (x0.take (at_ + q)).drop (o + k) := fun k hk => by rw [List.drop_drop]
            obtain ⟨T, hT⟩ : ∃ T, T = (x0.take (at_ + q)).drop o := ⟨_, rfl⟩
            rw [← hT] at HJ hL0 HX0 HD0
            have HX := hid HX0
            have HD := hid HD0
            have HL := hid hL0
            have HP' : Aside (∀ A' c', Rb w (fun _ => False) [own 5 1 B o cb (by8 (x0.take o))] 1 A' q (by8 ((x0.drop at_).take q)) → Calls Try.prog 15 #[.pointer (some ⟨g, 0, none⟩), .slice A' q c'] wc fun e w' => e = .returned (.tuple #[]) ∧ Sep w w' (fun _ => False) (tape g T :: own 5 1 B o cb (by8 (x0.take o)) :: [])) := ⟨by
              intro A' c' hr'
              rw [← HJ]
              exact push_calls HS3.up1 hr' (by omega)⟩
            have HC : Aside (Rb w (fun _ => False) [own 5 1 B o cb (by8 (x0.take o))] 1 (if c0 = at_ then A0 else A0.map (·.add at_)) q (by8 ((x0.drop at_).take q))) := ⟨by
              have := (HR0.out [own 5 1 B o cb (by8 (x0.take o))]).kcut (j := at_) (m := at_ + q) (by omega) (by omega) hc0
              rwa [show at_ + q - at_ = q from by omega] at this⟩
            clear hll HJ hL0 HX0 HD0 hT hlen
            rcases (show ¬ c0 = at_ ∨ at_ = c0 by omega) with hca | rfl
            all_goals
              have HC' := hid HC.out
              first | rw [if_neg hca] at HC' | rw [if_pos rfl] at HC'
              clear HC
              first | (exfalso; omega) | skip
            all_goals
              go_wp2_with fail
              refine (HP'.out _ _ HC'.out).mono ?_
              rintro e w4 ⟨rfl, HS4⟩
              clear HS3
              go_wp2_with fail
              refine (len_calls HS4).mono ?_
              rintro e w5 ⟨rfl, rfl⟩
              rw [HL.out]
              go_upto_if 69 with (fail)
              go_cut [12] (fun v wx => ∃ k : Nat, k ≤ at_ + q - o ∧ (n2 ≤ j → k = at_ + q - o) ∧ v = .int .i64 k ∧ wx = w4)
              case first =>
                by_cases hp : j < n2
                · obtain ⟨ad2, y2, rfl, _, hm2, hcell2⟩ := (HR2.out _).elemn HS4 hp
                  obtain ⟨hx2, hx2'⟩ := hb2.out y2 hm2
                  clear hm2
                  go_wp2
                  all_goals
                    go_meet
                    case rel =>
                      first
                      | exact ⟨y2.toNat, by omega, by omega, by rw [Int.toNat_of_nonneg hx2], rfl⟩
                      | exact ⟨at_ + q - o, by omega, by omega, by first | rfl | (congr 1; omega), rfl⟩
                · go_wp2
                  go_meet
                  case rel => exact ⟨at_ + q - o, by omega, by omega, by first | rfl | (congr 1; omega), rfl⟩
              case rest =>
                obtain ⟨k, hk, hk', rfl, rfl⟩ := hcut
                go_wp2_with fail
                refine (take_yes HS4 (by rw [HL.out]; exact hk) (by rw [HL.out]; omega)).mono ?_
                rintro e w6 ⟨A6, c6, rfl, HS6⟩
                rw [HD.out k hk] at HS6
                clear HS4
                go_wp2_with (at_builtin; go_loud (refine wpList_append_sep rfl (.tmp 91) (.tmp 92) 22 rfl 5 i0 _ 1 1 Try.underlying22 hi0 hz0 hz1 hz2 rfl (by decide) rfl HS6.up2 rfl HS6.rd0 (by8_one _) (by simp only [maxLen]; omega) (by omega) rfl (HX.out k hk) ?_); intro A7 c7 w7 HS7 hsz7)
                go_roundw
                case rel => exact ⟨j + 1, at_ + q, o + k, A7, c7, by go_num, by go_num, rfl, by omega, by omega, by omega, by omega, HS7.up1.drop⟩
                case measure => simp [intOf]; omega
end Go.Proofs.Ytkjlhifppjgieaa
