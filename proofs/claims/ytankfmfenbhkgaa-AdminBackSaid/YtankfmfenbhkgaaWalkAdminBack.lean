/-
  The walk of AdminBack.
-/
import Derived.Test.YtankfmfenbhkgaaLaw24
import Derived.Test.YtankfmfenbhkgaaAdmLaw2
import Derived.Test.YtankfmfenbhkgaaView
import Derived.Deep.DeepCutAuto
import Derived.Deep.QuietTactic
import Derived.BigQuiet
import Derived.Deep.RegionHeldLaw
namespace Go.Proofs.Ytankfmfenbhkgaa
open Go.RowKit
set_option linter.unusedVariables false
set_option linter.unusedSimpArgs false

set_option maxHeartbeats 4000000 in
set_option maxRecDepth 100000 in
theorem adminBack_walk (A0 : Option Addr) (n0 c0 : Nat) (x0 : Sh.V (.slice (.int .u8) 1)) (w : World) (s0 : Sees w.heap (.slice (.int .u8) 1) [.slice A0 n0 c0] x0) (y0 : Light (.slice (.int .u8) 1) x0) :
    Calls Try.prog 7 #[.slice A0 n0 c0] w fun e w' => e = .returned (.bool true) ∧ Below w.heap.size w w' := by
  obtain ⟨hn0, hr0, hc0, _, hw0⟩ := sees_ints s0
  obtain ⟨l, rfl⟩ : ∃ l : List Int, l = x0 := ⟨_, rfl⟩
  have hb0 := kv_byt hw0
  have ly0 : n0 ≤ 140737488351232 := by have := y0.1; omega
  have HR0 := hid (fun L => Rb.came (L := L) hr0)
  have HN0 := hid hn0
  clear s0 y0 hw0 hr0
  have hL : l.length ≤ 140737488355328 := by omega
  have H1 := hid (adm_cases (w0 := w) (O := fun _ => False) hb0 hL)
  have H2 := hid (ans_cases (w0 := w) (O := fun _ => False) hb0 hL)
  have HS := Sep.start w
  clear hb0 hn0
  go_enter Try.func7, Try.ntmps7
  go_wp2_with fail
  refine (ltape_calls HS (HR0.out _) hL).mono ?_
  rintro e w2 ⟨g2, rfl, HS2⟩
  go_wp2_with fail
  rcases H1.out with ⟨E1, HT1⟩ | ⟨kd, ck, nm, au, size, fixed, gn, hg, HT1, HP1⟩
  · refine (HT1 HS2).mono ?_
    rintro e w3 ⟨rfl, HS3⟩
    have HS4 := HS3.alloc zAdm 24
    clear HT1
    have a0 := HS4.blk_at 0 rfl
    have a1 := HS4.blk_at 1 rfl
    have a2 := HS4.blk_at 2 rfl
    have a3 := HS4.blk_at 3 rfl
    have a4 := HS4.blk_at 4 rfl
    have a5 := HS4.blk_at 5 rfl
    have hl0' : ((l.length : Int) != n0) = false := by rw [HN0.out]; simp
    go_wp2_with fail
    refine (len_calls HS4.up1).mono ?_
    rintro e w4 ⟨rfl, rfl⟩
    go_wp2_with fail
    refine (ltape_calls HS4 (HR0.out _) hL).mono ?_
    rintro e w5 ⟨u5, rfl, HU5⟩
    go_wp2_with fail
    rcases H2.out with ⟨E2, HT2⟩ | ⟨ck2, er2, id2, N2, gn2, vs2, hg2, hv2, HT2, HP2⟩
    · refine (HT2 HU5).mono ?_
      rintro e w6 ⟨rfl, HU6⟩
      have HU7 := HU6.alloc zAns 45
      have a0 := HU7.blk_at 0 rfl
      have a3 := HU7.blk_at 3 rfl
      have hl0 : ((l.length : Int) == n0) = true := by rw [HN0.out]; simp
      go_wp2_with fail
      refine (len_calls HU7.up1).mono ?_
      rintro e w8 ⟨rfl, rfl⟩
      go_wp2_with fail
      refine (wakes_calls HU7).mono ?_
      rintro e w9 ⟨rfl, HU9⟩
      go_wp2
      go_ret
      exact ⟨rfl, HU9.below⟩
    · refine (HT2 HU5).mono ?_
      rintro e w6 ⟨X2, x2, rfl, HU6⟩
      have HU7 := HU6.alloc #[.int .u64 ck2, .int .u32 er2, .int .u64 id2, .slice X2 N2 x2] 45
      have HP := hid @HP2
      clear HT2 HP2
      have a0 := HU7.blk_at 0 rfl
      have a1 := HU7.blk_at 1 rfl
      have a2 := HU7.blk_at 2 rfl
      have a3 := HU7.blk_at 3 rfl
      go_wp2_with fail
      refine (HP.out HU7 Rb.i1).mono ?_
      rintro e w8 ⟨P, pc, rfl, HU8⟩
      clear a0 a1 a2 a3
      obtain ⟨sz, hsz⟩ : ∃ sz, sz = gn2 := ⟨_, rfl⟩
      subst hsz
      obtain ⟨st, hst⟩ : ∃ st, st = strOfNums (l.take sz) := ⟨_, rfl⟩
      have HC : ∀ (LL : List Asr) (wx : World), Sep w wx (fun _ => False) (own 5 1 P sz pc (by8 (l.take sz)) :: LL) → (convert 25 9 (.slice P sz pc)).run Try.prog wx = .ok (.string st) wx ∧ (convert 25 9 (.slice A0 sz c0)).run Try.prog wx = .ok (.string st) wx := by
        intro LL wx h
        rw [hst]
        exact ⟨run_str (Rb.i0.read h) 25 9 5 Try.underlying25 Try.underlying5 Try.underlying9, run_str (((HR0.out _).ktake (m := sz) (by have := HN0.out; omega)).read h) 25 9 5 Try.underlying25 Try.underlying5 Try.underlying9⟩
      have HCC := hid HC
      clear hst HC
      have hdl : ((l.drop sz).length : Int) = n0 - sz := by have := HN0.out; rw [List.length_drop]; omega
      generalize l.drop sz = tl at HU8 hdl
      have i1 : (sz : Int) ≤ c0 := by have := HN0.out; omega
      have i2 : (0 : Int) ≤ sz := by omega
      have i4 : IntKind.i64.wrap ((sz : Int) + tl.length) = n0 := by have := HN0.out; rw [IntKind.wrap_i64]; omega
      have i3 : (sz : Int) + tl.length ≤ 9223372036854775807 := by omega
      clear hdl
      go_upto_region 14 with (fail)
      go_region_held_law (fun w' => (convert 25 9 (.slice P sz pc)).run Try.prog w' = .ok (.string st) w' ∧ (convert 25 9 (.slice A0 sz c0)).run Try.prog w' = .ok (.string st) w') (first | exact HCC.out _ _ HU8.drew | exact HCC.out _ _ HU9)
        (first
          | (go_at_call 14; refine (len_calls HU8.drew.up3).mono ?_; rintro e wy ⟨rfl, rfl⟩)
          | (go_at_call 15; refine (wakes_calls HU8.drew).mono ?_; rintro e w9 ⟨rfl, HU9⟩))
      all_goals
        go_wp2
        go_ret
        exact ⟨rfl, HU9.below⟩
  · refine (HT1 HS2).mono ?_
    rintro e w3 ⟨rfl, HS3⟩
    have HS4 := HS3.alloc #[.int .i64 kd, .int .u64 ck, .string nm, .string au, .int .u64 size, .bool fixed] 24
    have HP0 := hid @HP1
    clear HT1 HP1
    have a0 := HS4.blk_at 0 rfl
    have a1 := HS4.blk_at 1 rfl
    have a2 := HS4.blk_at 2 rfl
    have a3 := HS4.blk_at 3 rfl
    have a4 := HS4.blk_at 4 rfl
    have a5 := HS4.blk_at 5 rfl
    go_wp2_with fail
    refine (HP0.out HS4).mono ?_
    rintro e w4 ⟨P, pc, rfl, HS5⟩
    clear a0 a1 a2 a3 a4 a5
    obtain ⟨sz, hsz⟩ : ∃ sz, sz = gn := ⟨_, rfl⟩
    subst hsz
    have hdl : ((l.drop sz).length : Int) = n0 - sz := by have := HN0.out; rw [List.length_drop]; omega
    generalize l.drop sz = tl at HS5 hdl
    have hs1 := fun q => run_str (P := Try.prog) (c := pc) (Rb.i0.read (HS5.drewN q)) 25 9 5 Try.underlying25 Try.underlying5 Try.underlying9
    have hs2 := fun q => run_str (P := Try.prog) (c := c0) (((HR0.out _).ktake (m := sz) (by have := HN0.out; omega)).read (HS5.drewN q)) 25 9 5 Try.underlying25 Try.underlying5 Try.underlying9
    generalize strOfNums (l.take sz) = st at hs1 hs2
    have i1 : (sz : Int) ≤ c0 := by have := HN0.out; omega
    have i2 : (0 : Int) ≤ sz := by omega
    have i3 : (sz : Int) + tl.length ≤ 9223372036854775807 := by omega
    have i4 : ((sz : Int) + tl.length != n0) = false := by simp; omega
    clear hdl
    go_upto_region 5 with (fail)
    go_quiet (first | (go_at_call 14; exact Calls.quiet_of_same ((len_calls (HS5.up2.drewN _)).mono fun e w' h => ⟨h.1, h.2.symm⟩)))
    have HS6 := HS5.drewN nq
    clear hs1 hs2 HS5 i1 i2 i3 i4 hg
    go_wp2_with fail
    refine (ltape_calls HS6 (HR0.out _) hL).mono ?_
    rintro e w5 ⟨u5, rfl, HU5⟩
    go_wp2_with fail
    rcases H2.out with ⟨E2, HT2⟩ | ⟨ck2, er2, id2, N2, gn2, vs2, hg2, hv2, HT2, HP2⟩
    · refine (HT2 HU5).mono ?_
      rintro e w6 ⟨rfl, HU6⟩
      have HU7 := HU6.alloc zAns 45
      have a0 := HU7.blk_at 0 rfl
      have a3 := HU7.blk_at 3 rfl
      have hl0 : ((l.length : Int) == n0) = true := by rw [HN0.out]; simp
      go_wp2_with fail
      refine (len_calls HU7.up1).mono ?_
      rintro e w8 ⟨rfl, rfl⟩
      go_wp2_with fail
      refine (wakes_calls HU7).mono ?_
      rintro e w9 ⟨rfl, HU9⟩
      go_wp2
      go_ret
      exact ⟨rfl, HU9.below⟩
    · refine (HT2 HU5).mono ?_
      rintro e w6 ⟨X2, x2, rfl, HU6⟩
      have HU7 := HU6.alloc #[.int .u64 ck2, .int .u32 er2, .int .u64 id2, .slice X2 N2 x2] 45
      have HP := hid @HP2
      clear HT2 HP2
      have a0 := HU7.blk_at 0 rfl
      have a1 := HU7.blk_at 1 rfl
      have a2 := HU7.blk_at 2 rfl
      have a3 := HU7.blk_at 3 rfl
      go_wp2_with fail
      refine (HP.out HU7 Rb.i1).mono ?_
      rintro e w8 ⟨P, pc, rfl, HU8⟩
      clear a0 a1 a2 a3
      obtain ⟨sy, hsy⟩ : ∃ sy, sy = gn2 := ⟨_, rfl⟩
      subst hsy
      obtain ⟨st, hst⟩ : ∃ st, st = strOfNums (l.take sy) := ⟨_, rfl⟩
      have HC : ∀ (LL : List Asr) (wx : World), Sep w wx (fun _ => False) (own 5 1 P sy pc (by8 (l.take sy)) :: LL) → (convert 25 9 (.slice P sy pc)).run Try.prog wx = .ok (.string st) wx ∧ (convert 25 9 (.slice A0 sy c0)).run Try.prog wx = .ok (.string st) wx := by
        intro LL wx h
        rw [hst]
        exact ⟨run_str (Rb.i0.read h) 25 9 5 Try.underlying25 Try.underlying5 Try.underlying9, run_str (((HR0.out _).ktake (m := sy) (by have := HN0.out; omega)).read h) 25 9 5 Try.underlying25 Try.underlying5 Try.underlying9⟩
      have HCC := hid HC
      clear hst HC
      have hdl : ((l.drop sy).length : Int) = n0 - sy := by have := HN0.out; rw [List.length_drop]; omega
      generalize l.drop sy = tl at HU8 hdl
      have i1 : (sy : Int) ≤ c0 := by have := HN0.out; omega
      have i2 : (0 : Int) ≤ sy := by omega
      have i4 : IntKind.i64.wrap ((sy : Int) + tl.length) = n0 := by have := HN0.out; rw [IntKind.wrap_i64]; omega
      have i3 : (sy : Int) + tl.length ≤ 9223372036854775807 := by omega
      clear hdl
      go_upto_region 14 with (fail)
      go_region_held_law (fun w' => (convert 25 9 (.slice P sy pc)).run Try.prog w' = .ok (.string st) w' ∧ (convert 25 9 (.slice A0 sy c0)).run Try.prog w' = .ok (.string st) w') (first | exact HCC.out _ _ HU8.drew | exact HCC.out _ _ HU9)
        (first
          | (go_at_call 14; refine (len_calls HU8.drew.up3).mono ?_; rintro e wy ⟨rfl, rfl⟩)
          | (go_at_call 15; refine (wakes_calls HU8.drew).mono ?_; rintro e w9 ⟨rfl, HU9⟩))
      all_goals
        go_wp2
        go_ret
        exact ⟨rfl, HU9.below⟩
end Go.Proofs.Ytankfmfenbhkgaa
