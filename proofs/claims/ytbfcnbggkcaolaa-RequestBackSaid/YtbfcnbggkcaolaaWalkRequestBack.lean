/-
  The walk of RequestBack.
-/
import Derived.Test.YtbfcnbggkcaolaaLaw23
import Derived.Test.YtbfcnbggkcaolaaReqLaw
import Derived.Test.YtbfcnbggkcaolaaView
import Derived.Deep.QuietTactic
import Derived.Deep.DeepCutAuto
import Derived.BigQuiet
import Derived.Deep.RegionHeldLaw
namespace Go.Proofs.Ytbfcnbggkcaolaa
open Go.RowKit
set_option linter.unusedVariables false
set_option linter.unusedSimpArgs false

theorem wrapI {x : Int} (h0 : 0 ≤ x) (h1 : x < 9223372036854775808) : IntKind.i64.wrap x = x := by
  unfold IntKind.wrap; simp [IntKind.signed, IntKind.bits]; omega
theorem rep_bds {l : List Int} {z : Int} (hb : Byt l) : (0 ≤ (takeRep l z).er ∧ (takeRep l z).er < 4294967296) ∧ (0 ≤ (takeRep l z).ck ∧ (takeRep l z).ck < 18446744073709551616) := by
  have d1 := rqN_bd hb 4 4
  have d2 := rqN_bd hb 8 8
  simp only [show (256 : Int) ^ 8 = 18446744073709551616 from rfl, show (256 : Int) ^ 4 = 4294967296 from rfl] at d1 d2
  have h0 : (0 : Int) ≤ 0 ∧ (0 : Int) < 4294967296 := by decide
  have h1 : (0 : Int) ≤ 0 ∧ (0 : Int) < 18446744073709551616 := by decide
  unfold takeRep
  split
  · exact ⟨h0, h1⟩
  · split
    · exact ⟨h0, h1⟩
    · split
      · exact ⟨h0, h1⟩
      · split
        · exact ⟨h0, h1⟩
        · exact ⟨d1, d2⟩
theorem req_bds {l : List Int} (hb : Byt l) : (0 ≤ (takeReq l).len ∧ (takeReq l).len < 4294967296) ∧ (0 ≤ (takeReq l).ck ∧ (takeReq l).ck < 18446744073709551616) ∧ (0 ≤ (takeReq l).off ∧ (takeReq l).off < 18446744073709551616) := by
  have d1 := rqN_bd hb 24 4
  have d2 := rqN_bd hb 8 8
  have d3 := rqN_bd hb 16 8
  simp only [show (256 : Int) ^ 8 = 18446744073709551616 from rfl, show (256 : Int) ^ 4 = 4294967296 from rfl] at d1 d2 d3
  have h0 : (0 : Int) ≤ 0 ∧ (0 : Int) < 4294967296 := by decide
  have h1 : (0 : Int) ≤ 0 ∧ (0 : Int) < 18446744073709551616 := by decide
  unfold takeReq
  split
  · exact ⟨h0, h1, h1⟩
  · split
    · exact ⟨h0, h1, h1⟩
    · split
      · exact ⟨h0, h1, h1⟩
      · split
        · exact ⟨h0, h1, h1⟩
        · exact ⟨d1, d2, d3⟩

set_option maxHeartbeats 4000000 in
theorem requestBack_walk (A0 : Option Addr) (n0 c0 : Nat) (a1 : Int) (x0 : Sh.V (.slice (.int .u8) 1)) (x1 : Sh.V (.int .i64)) (w : World) (s0 : Sees w.heap (.slice (.int .u8) 1) [.slice A0 n0 c0] x0) (s1 : Sees w.heap (.int .i64) [.int .i64 a1] x1) (y0 : Light (.slice (.int .u8) 1) x0) (y1 : Light (.int .i64) x1) :
    Calls Try.prog 9 #[.slice A0 n0 c0, .int .i64 a1] w fun e w' => e = .returned (.bool true) ∧ Below w.heap.size w w' := by
  obtain ⟨hn0, hr0, hc0, _, hw0⟩ := sees_ints s0
  obtain ⟨l, rfl⟩ : ∃ l : List Int, l = x0 := ⟨_, rfl⟩
  obtain ⟨z, rfl⟩ : ∃ z : Int, z = a1 := ⟨_, rfl⟩
  have hb0 := hid (kv_byt hw0)
  have ly0 : n0 ≤ 140737488351232 := by have := y0.1; omega
  have HR0 := hid (fun L => Rb.came (L := L) hr0)
  have HN0 := hid hn0
  clear s0 s1 y0 y1 hw0 hr0 hn0
  have hL : l.length ≤ 140737488355328 := by rw [← HN0.out]; omega
  have HS := Sep.start w
  go_enter Try.func9, Try.ntmps9
  go_wp2_with fail
  refine (ltape_calls HS (HR0.out _) (by omega)).mono ?_
  rintro e w2 ⟨g2, rfl, HS2⟩
  go_wp2_with fail
  refine (reqtake_calls HS2 hb0.out hL).mono ?_
  rintro e w3 ⟨X, xc, rfl, HS3⟩
  have HS4 := HS3.alloc #[.int .i64 (takeReq l).fl, .int .i64 (takeReq l).kd, .int .u64 (takeReq l).ck, .int .u64 (takeReq l).off, .int .u32 (takeReq l).len, .slice X (takeReq l).d.length xc] 26
  have hnot := @takeReq_not l
  have hback := takeReq_back hb0.out
  have hbd := req_bds hb0.out
  generalize takeReq l = t at *
  obtain ⟨ok, err, fl, kd, ck, off, len, d, tl⟩ := t
  dsimp only at hnot hback hbd HS4 HS3
  obtain ⟨⟨l0, l1⟩, ⟨ck0, ck1⟩, ⟨o0, o1⟩⟩ := hbd
  clear HS3
  cases ok
  · obtain ⟨h1, rfl, rfl⟩ := hnot rfl
    rw [h1] at HS4
    clear hback hnot h1
    have a0 := HS4.blk_at 0 rfl
    have a1 := HS4.blk_at 1 rfl
    have a2 := HS4.blk_at 2 rfl
    have a3 := HS4.blk_at 3 rfl
    have a4 := HS4.blk_at 4 rfl
    have a5 := HS4.blk_at 5 rfl
    have hl0 : ((l.length : Int) != n0) = false := by rw [HN0.out]; simp
    go_wp2_with fail
    refine (len_calls HS4.up2).mono ?_
    rintro e w4 ⟨rfl, rfl⟩
    go_wp2_with fail
    refine (ltape_calls HS4 (HR0.out _) (by omega)).mono ?_
    rintro e w5 ⟨u5, rfl, HU5⟩
    go_wp2_with fail
    refine (reptake_calls HU5 hb0.out hL).mono ?_
    rintro e w6 ⟨Y, yc, rfl, HU6⟩
    have HU7 := HU6.alloc #[.int .u32 (takeRep l z).er, .int .u64 (takeRep l z).ck, .slice Y (takeRep l z).d.length yc] 51
    have hnot := @takeRep_not l z
    have hback := takeRep_back (z := z) hb0.out
    have hbd := rep_bds (z := z) hb0.out
    generalize takeRep l z = t at *
    obtain ⟨ok, err, er, ck, d, tl⟩ := t
    dsimp only at hnot hback hbd HU7 HU6
    obtain ⟨⟨e0, e1⟩, ⟨ck0, ck1⟩⟩ := hbd
    clear HU6 HU5
    cases ok
    · obtain ⟨h1, rfl, rfl⟩ := hnot rfl
      rw [h1] at HU7
      clear hback hnot h1
      have a0 := HU7.blk_at 0 rfl
      have a1 := HU7.blk_at 1 rfl
      have a2 := HU7.blk_at 2 rfl
      have hl0 : ((l.length : Int) == n0) = true := by rw [HN0.out]; simp
      go_wp2_with fail
      refine (len_calls HU7.up2).mono ?_
      rintro e w8 ⟨rfl, rfl⟩
      go_wp2_with fail
      refine (wakes_calls HU7).mono ?_
      rintro e w9 ⟨rfl, HU9⟩
      go_wp2
      go_ret
      exact ⟨rfl, HU9.below⟩
    · obtain ⟨h1, h2, h3, h4, h5⟩ := hback rfl
      subst h5
      clear hnot hback
      have a0 := HU7.blk_at 0 rfl
      have a1 := HU7.blk_at 1 rfl
      have a2 := HU7.blk_at 2 rfl
      go_wp2_with fail
      refine (repput_calls HU7 (Rb.r0.cons) e0 e1 ck0 ck1).mono ?_
      rintro e w8 ⟨P, pc, rfl, HU8⟩
      have hpl : (l.take (rpSize l z)).length = rpSize l z := by rw [List.length_take]; omega
      have hln : l.length = n0 := HN0.out.symm
      rw [h2, hpl] at HU8 ⊢
      rw [h1]
      have htl : rpSize l z + tl.length = n0 := by rw [h4, List.length_drop]; omega
      clear h1 h2 h4
      generalize rpSize l z = sz at *
      clear hpl a0 a1 a2
      obtain ⟨st, hst⟩ : ∃ st, st = strOfNums (l.take sz) := ⟨_, rfl⟩
      have HC : ∀ (LL : List Asr) (wx : World), Sep w wx (fun _ => False) (own 5 1 P sz pc (by8 (l.take sz)) :: LL) → (convert 24 9 (.slice P sz pc)).run Try.prog wx = .ok (.string st) wx ∧ (convert 24 9 (.slice A0 sz c0)).run Try.prog wx = .ok (.string st) wx := by
        intro LL wx h
        rw [hst]
        exact ⟨run_str (Rb.i0.read h) 24 9 5 Try.underlying24 Try.underlying5 Try.underlying9, run_str (((HR0.out _).ktake (m := sz) (by omega)).read h) 24 9 5 Try.underlying24 Try.underlying5 Try.underlying9⟩
      have HCC := hid HC
      clear hst HC
      have i1 : (sz : Int) ≤ c0 := by omega
      have i2 : (0 : Int) ≤ sz := by omega
      have i3 : (sz : Int) + tl.length ≤ 9223372036854775807 := by omega
      have i4 : IntKind.i64.wrap ((sz : Int) + tl.length) = n0 := by
        rw [wrapI (by omega) (by omega)]; omega
      go_upto_region 14 with (fail)
      go_region_held_law (fun w' => (convert 24 9 (.slice P sz pc)).run Try.prog w' = .ok (.string st) w' ∧ (convert 24 9 (.slice A0 sz c0)).run Try.prog w' = .ok (.string st) w') (first | exact HCC.out _ _ HU8.drew | exact HCC.out _ _ HU9)
        (first
          | (go_at_call 20; refine (len_calls HU8.drew.up3).mono ?_; rintro e wy ⟨rfl, rfl⟩)
          | (go_at_call 13; refine (wakes_calls HU8.drew).mono ?_; rintro e w9 ⟨rfl, HU9⟩))
      all_goals
        go_wp2
        go_ret
        exact ⟨rfl, HU9.below⟩
  · obtain ⟨h1, h2, h3, h4, h5⟩ := hback rfl
    subst h5
    clear hnot hback
    have a0 := HS4.blk_at 0 rfl
    have a1 := HS4.blk_at 1 rfl
    have a2 := HS4.blk_at 2 rfl
    have a3 := HS4.blk_at 3 rfl
    have a4 := HS4.blk_at 4 rfl
    have a5 := HS4.blk_at 5 rfl
    go_wp2_with fail
    refine (reqput_calls HS4 (Rb.r0.cons) (by have := (reqErr_ok h1).2.2.2.2.1; omega) l0 l1 ck0 ck1 o0 o1).mono ?_
    rintro e w4 ⟨P, pc, rfl, HS5⟩
    have hpl : (l.take (rqSize l)).length = rqSize l := by rw [List.length_take]; omega
    have hln : l.length = n0 := HN0.out.symm
    rw [h2, hpl] at HS5 ⊢
    rw [h1]
    have htl : rqSize l + tl.length = n0 := by rw [h4, List.length_drop]; omega
    clear h1 h2 h4
    generalize rqSize l = sz at *
    clear hpl a0 a1 a2 a3 a4 a5
    have hs1 := fun q => run_str (P := Try.prog) (c := pc) (Rb.i0.read (HS5.drewN q)) 24 9 5 Try.underlying24 Try.underlying5 Try.underlying9
    have hs2 := fun q => run_str (P := Try.prog) (c := c0) (((HR0.out _).ktake (m := sz) (by omega)).read (HS5.drewN q)) 24 9 5 Try.underlying24 Try.underlying5 Try.underlying9
    generalize strOfNums (l.take sz) = st at hs1 hs2
    have i1 : (sz : Int) ≤ c0 := by omega
    have i2 : (0 : Int) ≤ sz := by omega
    have i3 : (sz : Int) + tl.length ≤ 9223372036854775807 := by omega
    have i4 : ((sz : Int) + tl.length != n0) = false := by simp; omega
    go_upto_region 5 with (fail)
    go_quiet (first | (go_at_call 20; exact Calls.quiet_of_same ((len_calls (HS5.up3.drewN _)).mono fun e w' h => ⟨h.1, h.2.symm⟩)))
    have HS6 := HS5.drewN nq
    clear hs1 hs2
    go_wp2_with fail
    refine (ltape_calls HS6 (HR0.out _) (by omega)).mono ?_
    rintro e w5 ⟨u5, rfl, HU5⟩
    go_wp2_with fail
    refine (reptake_calls HU5 hb0.out hL).mono ?_
    rintro e w6 ⟨Y, yc, rfl, HU6⟩
    have HU7 := HU6.alloc #[.int .u32 (takeRep l z).er, .int .u64 (takeRep l z).ck, .slice Y (takeRep l z).d.length yc] 51
    have hnot := @takeRep_not l z
    have hback := takeRep_back (z := z) hb0.out
    have hbd := rep_bds (z := z) hb0.out
    generalize takeRep l z = t at *
    obtain ⟨ok, err, er, ck, d, tl⟩ := t
    dsimp only at hnot hback hbd HU7 HU6
    obtain ⟨⟨e0, e1⟩, ⟨ck0, ck1⟩⟩ := hbd
    clear HU6 HU5
    cases ok
    · obtain ⟨h1, rfl, rfl⟩ := hnot rfl
      rw [h1] at HU7
      clear hback hnot h1
      have a0 := HU7.blk_at 0 rfl
      have a1 := HU7.blk_at 1 rfl
      have a2 := HU7.blk_at 2 rfl
      have hl0 : ((l.length : Int) == n0) = true := by rw [HN0.out]; simp
      go_wp2_with fail
      refine (len_calls HU7.up2).mono ?_
      rintro e w8 ⟨rfl, rfl⟩
      go_wp2_with fail
      refine (wakes_calls HU7).mono ?_
      rintro e w9 ⟨rfl, HU9⟩
      go_wp2
      go_ret
      exact ⟨rfl, HU9.below⟩
    · obtain ⟨h1, h2, h3, h4, h5⟩ := hback rfl
      subst h5
      clear hnot hback
      have a0 := HU7.blk_at 0 rfl
      have a1 := HU7.blk_at 1 rfl
      have a2 := HU7.blk_at 2 rfl
      go_wp2_with fail
      refine (repput_calls HU7 (Rb.r0.cons) e0 e1 ck0 ck1).mono ?_
      rintro e w8 ⟨P, pc, rfl, HU8⟩
      have hpl : (l.take (rpSize l z)).length = rpSize l z := by rw [List.length_take]; omega
      have hln : l.length = n0 := HN0.out.symm
      rw [h2, hpl] at HU8 ⊢
      rw [h1]
      have htl : rpSize l z + tl.length = n0 := by rw [h4, List.length_drop]; omega
      clear h1 h2 h4
      generalize rpSize l z = sz at *
      clear hpl a0 a1 a2
      obtain ⟨st, hst⟩ : ∃ st, st = strOfNums (l.take sz) := ⟨_, rfl⟩
      have HC : ∀ (LL : List Asr) (wx : World), Sep w wx (fun _ => False) (own 5 1 P sz pc (by8 (l.take sz)) :: LL) → (convert 24 9 (.slice P sz pc)).run Try.prog wx = .ok (.string st) wx ∧ (convert 24 9 (.slice A0 sz c0)).run Try.prog wx = .ok (.string st) wx := by
        intro LL wx h
        rw [hst]
        exact ⟨run_str (Rb.i0.read h) 24 9 5 Try.underlying24 Try.underlying5 Try.underlying9, run_str (((HR0.out _).ktake (m := sz) (by omega)).read h) 24 9 5 Try.underlying24 Try.underlying5 Try.underlying9⟩
      have HCC := hid HC
      clear hst HC
      have i1 : (sz : Int) ≤ c0 := by omega
      have i2 : (0 : Int) ≤ sz := by omega
      have i3 : (sz : Int) + tl.length ≤ 9223372036854775807 := by omega
      have i4 : IntKind.i64.wrap ((sz : Int) + tl.length) = n0 := by
        rw [wrapI (by omega) (by omega)]; omega
      go_upto_region 14 with (fail)
      go_region_held_law (fun w' => (convert 24 9 (.slice P sz pc)).run Try.prog w' = .ok (.string st) w' ∧ (convert 24 9 (.slice A0 sz c0)).run Try.prog w' = .ok (.string st) w') (first | exact HCC.out _ _ HU8.drew | exact HCC.out _ _ HU9)
        (first
          | (go_at_call 20; refine (len_calls HU8.drew.up3).mono ?_; rintro e wy ⟨rfl, rfl⟩)
          | (go_at_call 13; refine (wakes_calls HU8.drew).mono ?_; rintro e w9 ⟨rfl, HU9⟩))
      all_goals
        go_wp2
        go_ret
        exact ⟨rfl, HU9.below⟩
end Go.Proofs.Ytbfcnbggkcaolaa
