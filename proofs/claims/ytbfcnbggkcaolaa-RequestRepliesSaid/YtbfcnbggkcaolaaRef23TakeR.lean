/-
  Contract of cisternref23.TakeReply: what request.TakeReply does, of a slice.
-/
import Derived.Test.YtbfcnbggkcaolaaRef23Take
import Derived.Test.YtbfcnbggkcaolaaReqTakeR
namespace Go.Proofs.Ytbfcnbggkcaolaa
open Go.RowKit
set_option linter.unusedVariables false
set_option linter.unusedSimpArgs false

def Tr.gone (t : Tr) (l : List Int) (n : Int) : Nat := if t.ok then rpSize l n else 0
abbrev rtrV (t : Tr) (k : Nat) (A : Option Addr) (c : Nat) : Value := .tuple #[repV t.er t.ck (.slice A t.d.length c), .int .i64 k, .int .i64 t.err]
theorem info_rrep : (Try.prog.info? 55).map (·.size) = some 3 := by kernel_rfl

section
variable {w0 w : World} {O : Nat → Prop} {L : List Asr}

set_option maxHeartbeats 1000000 in
theorem rtaker23_few {A : Option Addr} {n c : Nat} {l : List Int} {z : Int} (HS : Sep w0 w O L) (hr : Rb w0 O L 1 A n (by8 l)) (hb : Byt l) (hc : n ≤ c) {E : Int}
    (h : ((z < 0 ∨ 4096 < z) ∧ E = 1) ∨ (¬ (z < 0 ∨ 4096 < z) ∧ otherB l 1732535960 = true ∧ E = 33) ∨ (¬ (z < 0 ∨ 4096 < z) ∧ otherB l 1732535960 = false ∧ n < 16 ∧ E = 0)) :
    Calls Try.prog 24 #[.slice A n c, .int .i64 z] w fun e w' => e = .returned (rtrV (noTr E l) 0 none 0) ∧ Sep w0 w' O L := by
  have hn := hr.klen HS
  have HSa := HS.alloc #[.int .u32 0, .int .u64 0, .slice none 0 0] 55
  have key : (z < 0 ∧ E = 1) ∨ (¬ z < 0 ∧ 4096 < z ∧ E = 1) ∨ (¬ z < 0 ∧ ¬ 4096 < z ∧ n < 4 ∧ E = 0) ∨ (¬ z < 0 ∧ ¬ 4096 < z ∧ ¬ n < 4 ∧ num (l.take 4) ≠ 1732535960 ∧ E = 33) ∨ (¬ z < 0 ∧ ¬ 4096 < z ∧ ¬ n < 4 ∧ num (l.take 4) = 1732535960 ∧ n < 16 ∧ E = 0) := by
    unfold otherB at h
    by_cases h4 : 4 ≤ l.length <;> by_cases hm : num (l.take 4) = 1732535960 <;> simp [h4, hm] at h ⊢ <;> omega
  clear h
  rcases key with ⟨h1, rfl⟩ | ⟨h1, h2, rfl⟩ | ⟨h1, h2, h4, rfl⟩ | ⟨h1, h2, h4, hm, rfl⟩ | ⟨h1, h2, h4, hm, h16, rfl⟩
  · skip
    go_enter Try.func24, Try.ntmps24
    go_wp2
    (try simp only [Exit.inBlock, Exit.then])
    refine bodyPost_ret (results_row2 rfl _ _ _ _ _ _ _ rfl HSa.blk_heap Try.underlying55 rfl info_rrep) rfl ?_
    exact ⟨rfl, HSa.drop⟩
  · skip
    go_enter Try.func24, Try.ntmps24
    go_wp2
    (try simp only [Exit.inBlock, Exit.then])
    refine bodyPost_ret (results_row2 rfl _ _ _ _ _ _ _ rfl HSa.blk_heap Try.underlying55 rfl info_rrep) rfl ?_
    exact ⟨rfl, HSa.drop⟩
  · skip
    have h16 : n < 16 := by omega
    go_enter Try.func24, Try.ntmps24
    go_wp2
    (try simp only [Exit.inBlock, Exit.then])
    refine bodyPost_ret (results_row2 rfl _ _ _ _ _ _ _ rfl HSa.blk_heap Try.underlying55 rfl info_rrep) rfl ?_
    exact ⟨rfl, HSa.drop⟩
  · have hm' : (num (l.take 4) != 1732535960) = true := bne_iff_ne.2 hm
    clear hm
    have i1 : (4 : Int) ≤ n := by omega
    have i2 : (n : Int) ≤ c := by omega
    have i3 : (0 : Int) ≤ 4 := by decide
    have hrt := hr.ktake (m := 4) (by omega)
    go_enter Try.func24, Try.ntmps24
    go_wp2_with fail
    refine (rnum_calls HSa (hrt.cons) (hb.take 4) (by decide)).mono ?_
    rintro e w1 ⟨rfl, rfl⟩
    go_wp2
    (try simp only [Exit.inBlock, Exit.then])
    refine bodyPost_ret (results_row2 rfl _ _ _ _ _ _ _ rfl HSa.blk_heap Try.underlying55 rfl info_rrep) rfl ?_
    exact ⟨rfl, HSa.drop⟩
  · have hm1 := hid hm
    clear hm
    have i1 : (4 : Int) ≤ n := by omega
    have i2 : (n : Int) ≤ c := by omega
    have i3 : (0 : Int) ≤ 4 := by decide
    have hrt := hr.ktake (m := 4) (by omega)
    go_enter Try.func24, Try.ntmps24
    go_wp2_with fail
    refine (rnum_calls HSa (hrt.cons) (hb.take 4) (by decide)).mono ?_
    rintro e w1 ⟨rfl, rfl⟩
    rw [hm1.out]
    go_wp2
    (try simp only [Exit.inBlock, Exit.then])
    refine bodyPost_ret (results_row2 rfl _ _ _ _ _ _ _ rfl HSa.blk_heap Try.underlying55 rfl info_rrep) rfl ?_
    exact ⟨rfl, HSa.drop⟩

set_option maxHeartbeats 4000000 in
theorem rtaker23_16 {A : Option Addr} {n c m : Nat} {l : List Int} (HS : Sep w0 w O L) (hr : Rb w0 O L 1 A n (by8 l)) (hb : Byt l) (hc : n ≤ c) (hl : n ≤ 140737488355328) (hm : m ≤ 4096) (h : otherB l 1732535960 = false) (h16 : 16 ≤ n) :
    Calls Try.prog 24 #[.slice A n c, .int .i64 m] w fun e w' => ∃ A' c', e = .returned (rtrV (takeRep l m) ((takeRep l m).gone l m) A' c') ∧ Sep w0 w' O (own 5 1 A' (takeRep l m).d.length c' (by8 (takeRep l m).d) :: L) := by
  have hn := hr.klen HS
  have HSa := HS.alloc #[.int .u32 0, .int .u64 0, .slice none 0 0] 55
  have k0 : ¬ (m : Int) < 0 := by omega
  have k1 : ¬ 4096 < (m : Int) := by omega
  have hm0 : num (l.take 4) = 1732535960 := by
    unfold otherB at h
    have := of_decide_eq_false h
    by_cases e : num (l.take 4) = 1732535960
    · exact e
    · exact absurd ⟨by omega, e⟩ this
  have hm1 := hid hm0
  have hT : takeRep l m = if l.length < rpSize l m then noTr 0 l else ⟨true, 0, rqN l 4 4, rqN l 8 8, (l.take (rpSize l m)).drop 16, l.drop (rpSize l m)⟩ := by
    unfold takeRep; rw [h, if_neg (by omega), if_neg (by decide), if_neg (by omega)]
  have hsize : rpSize l m = 16 + if rqN l 4 4 = 0 then m else 0 := rfl
  have HT := hid hT
  have HZ := hid hsize
  clear h hm0 hT hsize
  have hrt := hr.ktake (m := 4) (by omega)
  obtain ⟨ad, rfl⟩ : ∃ ad, A = some ad := by
    obtain ⟨ad, y, e, _⟩ := hr.elemn HS (j := 0) (by omega)
    exact ⟨ad, e⟩
  have d1 := rqN_bd hb 4 4
  have d2 := rqN_bd hb 8 8
  simp only [show (256 : Int) ^ 8 = 18446744073709551616 from rfl, show (256 : Int) ^ 4 = 4294967296 from rfl] at d1 d2
  have s5 := wrap32 d1.1 d1.2
  have i0 : ¬ (n : Int) < 16 := by omega
  have i1 : (4 : Int) ≤ n := by omega
  have i2 : (n : Int) ≤ c := by omega
  have j2 : (8 : Int) ≤ c := by omega
  have j3 : (16 : Int) ≤ c := by omega
  have m1 : ¬ c = 4 := by omega
  have m3 : ¬ c = 8 := by omega
  go_enter Try.func24, Try.ntmps24
  go_wp2_with fail
  refine (rnum_calls HSa (hrt.cons) (hb.take 4) (by decide)).mono ?_
  rintro e w1 ⟨rfl, rfl⟩
  rw [hm1.out]
  obtain ⟨g0, hg0⟩ : ∃ g0, g0 = w.heap.size := ⟨_, rfl⟩
  rw [← hg0] at HSa ⊢
  obtain ⟨wa, hwa⟩ : ∃ wa, wa = w.alloc (.cells #[.int .u32 0, .int .u64 0, .slice none 0 0] 55) := ⟨_, rfl⟩
  have hsz : wa.heap.size = g0 + 1 := by rw [hwa, hg0]; simp
  rw [← hwa] at HSa ⊢
  clear hwa hg0 HS
  go_upto_region 7 with (fail)
  go_cut [7] (fun v wx => v = .pointer (some ⟨g0 + 1, 0, none⟩) ∧ Sep w0 wx O (blk (g0 + 1) 55 #[.int .u32 (rqN l 4 4), .int .u64 (rqN l 8 8), .slice none 0 0] :: blk g0 55 #[.int .u32 0, .int .u64 0, .slice none 0 0] :: L))
  case first =>
    have HF := HSa.allocB #[.int .u32 (rqN l 4 4), .int .u64 (rqN l 8 8), .slice none 0 0] 55 hsz
    go_region_held_law (fun w' => Sep w0 w' O (blk g0 55 #[.int .u32 0, .int .u64 0, .slice none 0 0] :: L)) (first | exact HSa.drew | exact (HSa.alloc_ _).drew)
      (first
        | (go_at_call 41; refine (rnum_sub (by assumption) hr.cons hb h16 (by rfl)).mono ?_; rintro e w1 ⟨rfl, rfl⟩))
    all_goals
      go_wp2
      go_meet
      case rel => exact ⟨by first | rfl | rw [hsz], HF.drew⟩
  case rest =>
    obtain ⟨rfl, HS1⟩ := hcut
    have hgone : ∀ t : Tr, t.ok = true → t.gone l m = rpSize l m := fun t h => by unfold Tr.gone; rw [h]; rfl
    have HGN := hid hgone
    clear hgone HSa hsz hrt
    generalize rqN l 4 4 = x1 at *
    generalize rqN l 8 8 = x2 at *
    generalize rpSize l m = sz at *
    obtain ⟨i0', hi0, hz0, hz1, hz2⟩ := info_parts info_u8
    have a0 := HS1.blk_at 0 rfl
    have r0 := HS1.up1.blk_at 0 rfl
    have f0 := HS1.up1.blk_frozen 0
    have a1 := HS1.blk_at 1 rfl
    have r1 := HS1.up1.blk_at 1 rfl
    have f1 := HS1.up1.blk_frozen 1
    have a2 := HS1.blk_at 2 rfl
    have r2 := HS1.up1.blk_at 2 rfl
    have f2 := HS1.up1.blk_frozen 2
    have fa2 := HS1.blk_frozen 2
    by_cases h3 : x1 = 0
    · subst h3
      have z1 : sz = 16 + m := by rw [HZ.out, if_pos rfl]
      subst z1
      by_cases h5 : n < 16 + m
      · have e3 : takeRep l m = noTr 0 l := by rw [HT.out, if_pos (by omega)]
        have E3 := hid e3
        have h5' : (n : Int) < 16 + m := by omega
        clear e3
        have HR := HS1.up1.blk_set3 (.int .u32 0) (.int .u64 0) (.slice none 0 0)
        go_wp2
        (try simp only [Exit.inBlock, Exit.then])
        refine bodyPost_ret (results_row2 rfl _ _ _ _ _ _ _ rfl HR.blk_heap Try.underlying55 rfl info_rrep) rfl ?_
        rw [E3.out]
        first | exact ⟨none, 0, rfl, (HR.drop.drop).nil _ _⟩ | exact ⟨none, ⟨0, rfl⟩, (HR.drop.drop).nil _ _⟩
      · have e3 : takeRep l m = ⟨true, 0, 0, x2, (l.take (16 + m)).drop 16, l.drop (16 + m)⟩ := by rw [HT.out, if_neg (by omega)]
        have E3 := hid e3
        have h5' : ¬ (n : Int) < 16 + m := by omega
        have q1 : (16 : Int) ≤ 16 + m := by omega
        have q2 : (16 : Int) + m ≤ c := by omega
        have q3 : (0 : Int) ≤ 16 + m := by omega
        clear e3
        rcases Nat.eq_zero_or_pos m with rfl | hy0
        · replace E3 : Aside (takeRep l (0 : Int) = ⟨true, 0, 0, x2, (l.take 16).drop 16, l.drop 16⟩) := ⟨E3.out⟩
          replace HGN : Aside (∀ t : Tr, t.ok = true → t.gone l (0 : Int) = 16) := ⟨HGN.out⟩
          by_cases m28 : c = 16
          all_goals
            go_upto_region 13 with (fail)
            go_region_law (fail)
            all_goals
              have HR := (((HS1.blk_set 2 (.slice none 0 0)).up1).blk_set3 (.int .u32 0) (.int .u64 x2) (.slice none 0 0)).drew
              go_wp2
              (try simp only [Exit.inBlock, Exit.then])
              refine bodyPost_ret (results_row2 rfl _ _ _ _ _ _ _ rfl HR.blk_heap Try.underlying55 rfl info_rrep) rfl ?_
              have hdl : ((l.take 16).drop 16) = [] := by rw [List.drop_eq_nil_iff, List.length_take]; omega
              rw [E3.out, HGN.out _ rfl]
              refine ⟨none, ?_⟩
              first | refine ⟨0, ?_, ?_⟩ | refine ⟨⟨0, ?_⟩, ?_⟩
              · show _ = Ending.returned (.tuple #[repV _ _ (.slice none ((l.take 16).drop 16).length 0), .int .i64 _, .int .i64 0])
                rw [hdl]
                rfl
              · show Sep w0 _ O (own 5 1 none ((l.take 16).drop 16).length 0 (by8 ((l.take 16).drop 16)) :: L)
                rw [hdl]
                exact (HR.drop.drop).nil _ _
        · have m28 : ¬ c = 16 := by omega
          have u1 : ((16 : Int) + m).toNat = 16 + m := by omega
          have u2 : 16 + m - 16 = m := by omega
          have hHN := (HS1.drew).nil 5 1
          have hq := hr.ksub 16 (16 + m) (by omega) (by omega)
          rw [show 16 + m - 16 = m by omega] at hq
          have hq' : Rb w0 O L 1 (some ⟨ad.block, ad.off + 16, none⟩) m (by8 ((l.drop 16).take m)) := hq
          have hrd := hq'.cons.cons.cons.read hHN
          have hp1 : 0 + m ≤ maxLen := by simp only [maxLen]; omega
          have hp2 : (0 + m) * 1 ≤ 140737488355328 := by omega
          have hdl : ((l.take (16 + m)).drop 16) = (l.drop 16).take m := by rw [List.drop_take, Nat.add_sub_cancel_left]
          have hdn : ((l.drop 16).take m).length = m := by rw [List.length_take, List.length_drop]; omega
          have HDL := hid hdl
          have HDN := hid hdn
          clear hdl hdn
          go_upto_region 13 with (fail)
          go_region_law (refine step_append_sep (by rfl) (.tmp 49) (.tmp 52) 24 (by rfl) 5 i0' _ 1 1 Try.underlying24 hi0 hz0 hz1 hz2 rfl (by decide) (by rfl) hHN (by rfl) hrd (kv_one _ _) hp1 hp2 (Nat.zero_add m) rfl ?_; intro A9 c9 w9 HS9 hsz9; have b5 := HS9.up1.blk_frozen 2; have b6 := HS9.up1.blk_at 2 rfl)
          all_goals
            have HX := HS9.up1.blk_set 2 (.slice A9 m c9)
            have HR := (HX.up2.blk_set3 (.int .u32 0) (.int .u64 x2) (.slice A9 m c9))
            have y0 := HS9.up1.blk_at 0 rfl
            have y1 := HS9.up1.blk_at 1 rfl
            have u0 := HS9.up2.blk_at 0 rfl
            have u1' := HS9.up2.blk_at 1 rfl
            have u2' := HS9.up2.blk_at 2 rfl
            have t0 := HS9.up2.blk_frozen 0
            have t1 := HS9.up2.blk_frozen 1
            have t2 := HS9.up2.blk_frozen 2
            go_wp2
            (try simp only [Exit.inBlock, Exit.then])
            refine bodyPost_ret (results_row2 rfl _ _ _ _ _ _ _ rfl HR.blk_heap Try.underlying55 rfl info_rrep) rfl ?_
            rw [E3.out, HGN.out _ rfl]
            refine ⟨A9, ?_⟩
            first | refine ⟨c9, ?_, ?_⟩ | refine ⟨⟨c9, ?_⟩, ?_⟩
            · show _ = Ending.returned (.tuple #[repV _ _ (.slice A9 ((l.take (16 + m)).drop 16).length c9), .int .i64 _, .int .i64 0])
              rw [HDL.out, HDN.out]
              rfl
            · show Sep w0 _ O (own 5 1 A9 ((l.take (16 + m)).drop 16).length c9 (by8 ((l.take (16 + m)).drop 16)) :: L)
              rw [HDL.out, HDN.out]
              exact HR.sel 3 [2]
    · have r1 : (x1 == 0) = false := beq_eq_false_iff_ne.2 h3
      have z1 : sz = 16 := by rw [HZ.out, if_neg h3]
      subst z1
      have e3 : takeRep l m = ⟨true, 0, x1, x2, (l.take 16).drop 16, l.drop 16⟩ := by rw [HT.out, if_neg (by omega)]
      have E3 := hid e3
      clear e3 h3
      by_cases m28 : c = 16
      all_goals
        go_upto_region 13 with (fail)
        go_region_law (fail)
        all_goals
          have HR := (((HS1.blk_set 2 (.slice none 0 0)).up1).blk_set3 (.int .u32 x1) (.int .u64 x2) (.slice none 0 0)).drew
          go_wp2
          (try simp only [Exit.inBlock, Exit.then])
          refine bodyPost_ret (results_row2 rfl _ _ _ _ _ _ _ rfl HR.blk_heap Try.underlying55 rfl info_rrep) rfl ?_
          have hdl : ((l.take 16).drop 16) = [] := by rw [List.drop_eq_nil_iff, List.length_take]; omega
          rw [E3.out, HGN.out _ rfl]
          refine ⟨none, ?_⟩
          first | refine ⟨0, ?_, ?_⟩ | refine ⟨⟨0, ?_⟩, ?_⟩
          · show _ = Ending.returned (.tuple #[repV _ _ (.slice none ((l.take 16).drop 16).length 0), .int .i64 _, .int .i64 0])
            rw [hdl]
            rfl
          · show Sep w0 _ O (own 5 1 none ((l.take 16).drop 16).length 0 (by8 ((l.take 16).drop 16)) :: L)
            rw [hdl]
            exact (HR.drop.drop).nil _ _

theorem rtaker23_calls {A : Option Addr} {n c : Nat} {l : List Int} {z : Int} (HS : Sep w0 w O L) (hr : Rb w0 O L 1 A n (by8 l)) (hb : Byt l) (hc : n ≤ c) (hl : n ≤ 140737488355328) :
    Calls Try.prog 24 #[.slice A n c, .int .i64 z] w fun e w' => ∃ A' c', e = .returned (rtrV (takeRep l z) ((takeRep l z).gone l z) A' c') ∧ Sep w0 w' O (own 5 1 A' (takeRep l z).d.length c' (by8 (takeRep l z).d) :: L) := by
  have hn := hr.klen HS
  by_cases hz : z < 0 ∨ 4096 < z
  · have e : takeRep l z = noTr 1 l := by unfold takeRep; rw [if_pos hz]
    rw [e]
    refine (rtaker23_few HS hr hb hc (.inl ⟨hz, rfl⟩)).mono ?_
    rintro e w' ⟨rfl, HS'⟩
    exact ⟨none, 0, rfl, HS'.nil _ _⟩
  · cases h : otherB l 1732535960
    · by_cases h16 : l.length < 16
      · have e : takeRep l z = noTr 0 l := by unfold takeRep; rw [if_neg hz, h, if_neg (by decide), if_pos h16]
        rw [e]
        refine (rtaker23_few HS hr hb hc (.inr (.inr ⟨hz, h, by omega, rfl⟩))).mono ?_
        rintro e w' ⟨rfl, HS'⟩
        exact ⟨none, 0, rfl, HS'.nil _ _⟩
      · obtain ⟨m, rfl⟩ : ∃ m : Nat, z = m := ⟨z.toNat, by omega⟩
        exact rtaker23_16 HS hr hb hc hl (by omega) h (by omega)
    · have e : takeRep l z = noTr 33 l := by unfold takeRep; rw [if_neg hz, h, if_pos rfl]
      rw [e]
      refine (rtaker23_few HS hr hb hc (.inr (.inl ⟨hz, h, rfl⟩))).mono ?_
      rintro e w' ⟨rfl, HS'⟩
      exact ⟨none, 0, rfl, HS'.nil _ _⟩
end
end Go.Proofs.Ytbfcnbggkcaolaa
