/-
  The walk of RequestReplies.
-/
import Derived.Test.YtbfcnbggkcaolaaLaw23
import Derived.Test.YtbfcnbggkcaolaaRef23PutR
import Derived.Test.YtbfcnbggkcaolaaRef23TakeR
import Derived.Test.YtbfcnbggkcaolaaRef23Same
import Derived.Test.YtbfcnbggkcaolaaReqSees
namespace Go.Proofs.Ytbfcnbggkcaolaa
open Go.RowKit
set_option linter.unusedVariables false
set_option linter.unusedSimpArgs false

theorem takeRep_ok (l : List Int) (z : Int) : (takeRep l z).ok = decide ((0 : Int) < ((takeRep l z).gone l z : Nat)) ∧ ((takeRep l z).left.length : Int) = l.length - ((takeRep l z).gone l z : Nat) := by
  unfold Tr.gone takeRep
  have h : 16 ≤ rpSize l z := by unfold rpSize; omega
  split
  · simp [noTr]
  · split
    · simp [noTr]
    · split
      · simp [noTr]
      · split
        · simp [noTr]
        · simp only [if_true, List.length_drop]
          exact ⟨(decide_eq_true (by omega)).symm, by omega⟩

set_option maxHeartbeats 4000000 in
theorem requestReplies_walk (cs0 : Array Value) (A1 : Option Addr) (n1 c1 : Nat) (a2 : Int) (x0 : Sh.V (.agg (.pair (.int .u32) (.pair (.int .u64) (.pair (.slice (.int .u8) 1) .unit))))) (x1 : Sh.V (.slice (.int .u8) 1)) (x2 : Sh.V (.int .i64)) (w : World) (s0 : Sees w.heap (.agg (.pair (.int .u32) (.pair (.int .u64) (.pair (.slice (.int .u8) 1) .unit)))) cs0.toList x0) (s1 : Sees w.heap (.slice (.int .u8) 1) [.slice A1 n1 c1] x1) (s2 : Sees w.heap (.int .i64) [.int .i64 a2] x2) (y0 : Light (.agg (.pair (.int .u32) (.pair (.int .u64) (.pair (.slice (.int .u8) 1) .unit)))) x0) (y1 : Light (.slice (.int .u8) 1) x1) (y2 : Light (.int .i64) x2) :
    Calls Try.prog 7 #[.agg cs0, .slice A1 n1 c1, .int .i64 a2] w fun e w' => e = .returned (.bool true) ∧ Below w.heap.size w w' := by
  obtain ⟨er, ck, A, c, d, rfl, ⟨e0, e1⟩, ⟨ck0, ck1⟩, hr0, hc0, hb, hd⟩ := sees_rep s0 y0
  obtain ⟨hn1, hr1, hc1, _, hw1⟩ := sees_ints s1
  obtain ⟨l, rfl⟩ : ∃ l : List Int, l = x1 := ⟨_, rfl⟩
  obtain ⟨z, rfl⟩ : ∃ z : Int, z = a2 := ⟨_, rfl⟩
  have hb1 := hid (kv_byt hw1)
  have ly1 : n1 ≤ 140737488351232 := by have := y1.1; omega
  have HR0 := hid (fun L => Rb.came (L := L) hr0)
  have HR1 := hid (fun L => Rb.came (L := L) hr1)
  have HN1 := hid hn1
  clear s0 s1 y0 y1 hw1 hr0 hr1 hb hn1 s2 y2
  generalize hn : d.length = n at *
  have HN := hid hn
  clear hn
  have HX := (Sep.start w).alloc #[.int .u32 er, .int .u64 ck, .slice A n c] 55
  have a0 := HX.blk_at 0 rfl
  have a1 := HX.blk_at 1 rfl
  have a2 := HX.blk_at 2 rfl
  have hL : l.length ≤ 140737488355328 := by rw [← HN1.out]; omega
  go_enter Try.func7, Try.ntmps7
  go_wp2_with fail
  refine (repput_calls HX (HR0.out _) e0 e1 ck0 ck1).mono ?_
  rintro e w2 ⟨P, pc, rfl, HS2⟩
  clear a0 a1 a2
  have a0 := HS2.up1.blk_at 0 rfl
  have a1 := HS2.up1.blk_at 1 rfl
  have a2 := HS2.up1.blk_at 2 rfl
  go_wp2_with fail
  refine (rputr23_calls HS2 (HR0.out _) e0 e1 ck0 ck1).mono ?_
  rintro e w3 ⟨Q, qc, rfl, HS3⟩
  clear a0 a1 a2
  have hp1 := run_str (P := Try.prog) (c := pc) HS3.rd1 24 9 5 Try.underlying24 Try.underlying5 Try.underlying9
  have hp2 := run_str (P := Try.prog) (c := qc) HS3.rd0 24 9 5 Try.underlying24 Try.underlying5 Try.underlying9
  generalize strOfNums (repOut er ck d) = st at hp1 hp2
  go_wp2_with fail
  refine (ltape_calls HS3 (HR1.out _) (by omega)).mono ?_
  rintro e w5 ⟨g5, rfl, HS5⟩
  clear hp1 hp2
  go_wp2_with fail
  refine (reptake_calls HS5 hb1.out hL).mono ?_
  rintro e w6 ⟨X, xc, rfl, HS6⟩
  have HS7 := HS6.alloc #[.int .u32 (takeRep l z).er, .int .u64 (takeRep l z).ck, .slice X (takeRep l z).d.length xc] 51
  go_wp2_with fail
  refine (rtaker23_calls HS7 (HR1.out _) hb1.out hc1 (by omega)).mono ?_
  rintro e w8 ⟨Y, yc, rfl, HS8⟩
  have HS9 := HS8.alloc #[.int .u32 (takeRep l z).er, .int .u64 (takeRep l z).ck, .slice Y (takeRep l z).d.length yc] 55
  obtain ⟨g6, hg6⟩ : ∃ g6, g6 = w6.heap.size := ⟨_, rfl⟩
  obtain ⟨g8, hg8⟩ : ∃ g8, g8 = w8.heap.size := ⟨_, rfl⟩
  obtain ⟨h1, h2⟩ := takeRep_ok l z
  have hll : (l.length : Int) = n1 := by rw [HN1.out]
  rw [hll] at h2
  have HT1 := hid h1
  have HT2 := hid h2
  clear h1 h2
  go_upto_region 8 with (fail)
  rw [← hg6, ← hg8] at HS9 ⊢
  obtain ⟨wy, hwy⟩ : ∃ wy, wy = w8.alloc (.cells #[.int .u32 (takeRep l z).er, .int .u64 (takeRep l z).ck, .slice Y (takeRep l z).d.length yc] 55) := ⟨_, rfl⟩
  rw [← hwy] at HS9 ⊢
  clear hg6 hg8 hwy HS8 HS7 HS6 HS5 HS3 HS2 HX
  have h7 := HT1.out
  have h8 := HT2.out
  generalize (takeRep l z).ok = ok at *
  generalize (takeRep l z).gone l z = gn at *
  generalize (takeRep l z).err = ee at *
  generalize (takeRep l z).er = t1 at *
  generalize (takeRep l z).ck = t2 at *
  generalize (takeRep l z).d = td at *
  generalize (takeRep l z).left = tl at *
  subst h7
  have ee0 := HS9.blk_at 0 rfl
  have ee1 := HS9.blk_at 1 rfl
  have ee2 := HS9.blk_at 2 rfl
  have a0 := HS9.up2.blk_at 0 rfl
  have a1 := HS9.up2.blk_at 1 rfl
  have a2 := HS9.up2.blk_at 2 rfl
  have i0 : 0 ≤ (n1 : Int) - gn := by omega
  have i1 : (n1 : Int) - gn ≤ 9223372036854775807 := by omega
  have h9 : ((tl.length : Int) == (n1 : Int) - gn) = true := by simp [h8]
  clear h8 hll
  go_wp2_with fail
  refine (rsamer_true (d := td) HS9 (Rb.r0.cons.cons.cons) Rb.i1).mono ?_
  rintro e w10 ⟨rfl, HS10⟩
  go_wp2_with fail
  refine (len_calls (l := tl) HS10.up4).mono ?_
  rintro e w11 ⟨rfl, rfl⟩
  go_wp2_with fail
  refine (wakes_calls HS10).mono ?_
  rintro e w12 ⟨rfl, HS12⟩
  go_wp2
  go_ret
  exact ⟨rfl, HS12.below⟩
end Go.Proofs.Ytbfcnbggkcaolaa
