/-
  The walk of RefsKnown.
-/
import Derived.Test.YtepooiiaijbljaaLaw07
namespace Go.Proofs.Ytepooiiaijbljaa
open Go.RowKit
set_option linter.unusedVariables false
set_option linter.unusedSimpArgs false

theorem zeros (n : Nat) : (Array.replicate n (Value.int .u8 0)).toList = kv .u8 (List.replicate n 0) := by simp [kv]
section
variable {w0 w : World} {O : Nat → Prop} {L : List Asr} {g : Nat} {now was : List Int}
theorem rbecome_no {gx : Nat} {nx wx : List Int} (HS : Sep w0 w O (refsA g now was :: refsA gx nx wx :: L)) (hn : ¬ nx.length = now.length) :
    Calls Try.prog 20 #[.pointer (some ⟨g, 0, none⟩), .pointer (some ⟨gx, 0, none⟩)] w fun e w' => e = .returned (.int .i64 1) ∧ Sep w0 w' O (refsA g now was :: refsA gx nx wx :: L) := by
  have hR := rright_refs HS
  obtain ⟨hok, a0, a1, a2, c0, c1, c2, gs, H⟩ := HS.unrefs
  obtain ⟨hokx, x0, x1, x2, d0, d1, d2, gsx, Hx⟩ := HS.up1.unrefs
  have b0 := H.blkAt 0 rfl
  have bx0 := Hx.blkAt 0 rfl
  have hb : ((nx.length : Int) == now.length) = false := beq_eq_false_iff_ne.2 (by omega)
  clear hok hokx H Hx
  go_enter Try.func20, Try.ntmps20
  go_wp2_with fail
  refine hR.mono ?_
  rintro e w' ⟨rfl, rfl⟩
  clear hR
  go_upto_region 3 with (fail)
  go_quiet (first | (go_at_call 32; exact Calls.quiet_of_same ((rright_refs (HS.drewN _).up1).mono fun _ _ h => ⟨h.1, h.2.symm⟩)))
  have HQ := HS.drewN nq
  go_wp2
  go_ret
  exact ⟨rfl, HQ⟩
theorem rbecome_none (HS : Sep w0 w O (refsA g now was :: L)) :
    Calls Try.prog 20 #[.pointer (some ⟨g, 0, none⟩), .pointer none] w fun e w' => e = .returned (.int .i64 1) ∧ Sep w0 w' O (refsA g now was :: L) := by
  have hR := rright_refs HS
  go_enter Try.func20, Try.ntmps20
  go_wp2_with fail
  refine hR.mono ?_
  rintro e w' ⟨rfl, rfl⟩
  clear hR
  go_upto_region 3 with (fail)
  go_quiet (first | (go_at_call 32; exact Calls.quiet_of_same (rright_nil.mono fun _ _ h => ⟨h.1, h.2.symm⟩)))
  have HQ := HS.drewN nq
  go_wp2
  go_ret
  exact ⟨rfl, HQ⟩
end

set_option maxHeartbeats 8000000 in
set_option maxRecDepth 100000 in
theorem refsKnown_walk (w : World) :
    Calls Try.prog 5 #[] w fun e w' => e = .returned (.bool true) ∧ Below w.heap.size w w' := by
  have HS := Sep.start w
  have H0 := HS.lit #[.int .u8 0, .int .u8 254, .int .u8 255] 5 1 3 rfl (by decide)
  obtain ⟨Z1, hZ1⟩ : ∃ Z1, Z1 = Array.replicate 1025 (Value.int .u8 0) := ⟨_, rfl⟩
  obtain ⟨Z2, hZ2⟩ : ∃ Z2, Z2 = Array.replicate 1024 (Value.int .u8 0) := ⟨_, rfl⟩
  have mk1 : ∀ w, (Instr.makeSlice 22 (.int .i64 1025) (.int .i64 1025)).run Try.prog w = .ok (.slice (some ⟨w.heap.size, 0, none⟩) 1025 1025) (w.alloc (.cells Z1 5)) := fun w => by rw [hZ1]; exact mk_u8 1025 (by decide) w
  have mk2 : ∀ w, (Instr.makeSlice 22 (.int .i64 1024) (.int .i64 1024)).run Try.prog w = .ok (.slice (some ⟨w.heap.size, 0, none⟩) 1024 1024) (w.alloc (.cells Z2 5)) := fun w => by rw [hZ2]; exact mk_u8 1024 (by decide) w
  have HZ1 := hid hZ1
  have HZ2 := hid hZ2
  clear hZ1 hZ2
  go_enter Try.func5, Try.ntmps5
  go_wp2_with fail
  refine (rnew_calls (l := [0, 254, 255]) H0 Rb.i0 (by decide) (by decide) (by decide)).mono ?_
  rintro e w1 ⟨g, rfl, H1⟩
  have H1 := H1.sel 2 [0]
  replace H1 : Sep w w1 (fun _ => False) (refsA g [0, 254, 255] [0, 254, 255] :: []) := H1
  go_wp2_with fail
  refine (awake_calls H1).mono ?_
  rintro e w2 ⟨rfl, H2⟩
  go_wp2_with fail
  refine (rinc_calls (x := 1) H2).mono ?_
  rintro e w3 ⟨rfl, H3⟩
  rw [show inErr [0, 254, 255] 1 = 0 from rfl]
  replace H3 : Sep w w3 (fun _ => False) (refsA g [0, 255, 255] [0, 254, 255] :: []) := H3
  go_wp2_with fail
  refine (rinc_calls (x := 1) H3).mono ?_
  rintro e w4 ⟨rfl, H4⟩
  rw [show inErr [0, 255, 255] 1 = 8 from rfl]
  replace H4 : Sep w w4 (fun _ => False) (refsA g [0, 255, 255] [0, 254, 255] :: []) := H4
  go_wp2_with fail
  refine (rinc_calls (x := 2) H4).mono ?_
  rintro e w5 ⟨rfl, H5⟩
  rw [show inErr [0, 255, 255] 2 = 8 from rfl]
  replace H5 : Sep w w5 (fun _ => False) (refsA g [0, 255, 255] [0, 254, 255] :: []) := H5
  go_wp2_with fail
  refine ralloc_nil.mono ?_
  rintro e w6 ⟨rfl, rfl⟩
  go_wp2_with fail
  refine rdec_nil.mono ?_
  rintro e w6 ⟨rfl, rfl⟩
  go_wp2_with fail
  refine (rnew_bad (n := 0) (.inl (by decide))).mono ?_
  rintro e w6 ⟨rfl, rfl⟩
  have K1 := H5.lit Z1 5 1 1025 (by rw [HZ1.out, Array.size_replicate]) (by decide)
  go_wp2_with fail
  refine (rnew_bad (n := 1025) (.inr (by decide))).mono ?_
  rintro e w7 ⟨rfl, rfl⟩
  have K2 := K1.litB Z2 5 1 1024 (by rw [HZ2.out, Array.size_replicate]) (by decide) (B := w5.heap.size + 1) (by simp)
  have hz : Z2.toList = kv .u8 (List.replicate 1024 0) := by rw [HZ2.out]; exact zeros 1024
  rw [hz] at K2
  obtain ⟨big, hbig⟩ : ∃ big : List Int, big = List.replicate 1024 0 := ⟨_, rfl⟩
  have hbl : big.length = 1024 := by rw [hbig, List.length_replicate]
  have hbb : Byt big := by
    intro x hx
    rw [hbig] at hx
    have := List.eq_of_mem_replicate hx
    subst this; decide
  rw [← hbig] at K2
  clear hz hbig mk1
  rw [← hbl] at K2
  have hNB := rnew_calls (c := 1024) K2 Rb.i0 hbb (by omega) (by omega)
  rw [hbl] at hNB
  have HNB := hid hNB
  clear hNB
  go_wp2_with fail
  refine HNB.out.mono ?_
  rintro e w8 ⟨gb, rfl, H8⟩
  have H9 := H8.sel 4 [3, 0]
  replace H9 : Sep w w8 (fun _ => False) (refsA g [0, 255, 255] [0, 254, 255] :: refsA gb big big :: []) := H9
  have hne : ¬ big.length = ([0, 255, 255] : List Int).length := by rw [hbl]; decide
  go_wp2_with fail
  refine (rbecome_no H9 hne).mono ?_
  rintro e w9 ⟨rfl, H10⟩
  clear HNB hbl K1 K2 hne
  go_wp2_with fail
  refine (rinc_calls (x := 0) H10).mono ?_
  rintro e w10 ⟨rfl, H11⟩
  rw [show inErr [0, 255, 255] 0 = 6 from rfl]
  replace H11 : Sep w w10 (fun _ => False) (refsA g [0, 255, 255] [0, 254, 255] :: refsA gb big big :: []) := H11
  go_wp2_with fail
  refine (rinc_calls (x := 3) H11).mono ?_
  rintro e w11 ⟨rfl, H12⟩
  rw [show inErr [0, 255, 255] 3 = 1 from rfl]
  replace H12 : Sep w w11 (fun _ => False) (refsA g [0, 255, 255] [0, 254, 255] :: refsA gb big big :: []) := H12
  go_wp2_with fail
  refine rinc_nil.mono ?_
  rintro e w12 ⟨rfl, rfl⟩
  go_wp2_with fail
  refine rcommit_nil.mono ?_
  rintro e w12 ⟨rfl, rfl⟩
  go_wp2_with fail
  refine rabort_nil.mono ?_
  rintro e w12 ⟨rfl, rfl⟩
  go_wp2_with fail
  refine rcount_nil.mono ?_
  rintro e w12 ⟨rfl, rfl⟩
  go_wp2_with fail
  refine rfresh_nil.mono ?_
  rintro e w12 ⟨rfl, rfl⟩
  go_wp2_with fail
  refine rfree_nil.mono ?_
  rintro e w12 ⟨rfl, rfl⟩
  go_wp2_with fail
  refine rcounts_nil.mono ?_
  rintro e w12 ⟨rfl, rfl⟩
  go_wp2_with fail
  refine rcopy_nil.mono ?_
  rintro e w12 ⟨rfl, rfl⟩
  go_wp2_with fail
  refine rbecome_nil.mono ?_
  rintro e w12 ⟨rfl, rfl⟩
  go_wp2_with fail
  refine (rbecome_none H12).mono ?_
  rintro e w13 ⟨rfl, H13⟩
  go_wp2
  go_ret
  exact ⟨rfl, H13.below⟩
end Go.Proofs.Ytepooiiaijbljaa
