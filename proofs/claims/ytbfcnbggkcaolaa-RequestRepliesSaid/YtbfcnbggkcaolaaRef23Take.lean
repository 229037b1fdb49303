/-
  Contract of cisternref23.Take: what request.Take does, of a slice.
-/
import Derived.Test.YtbfcnbggkcaolaaRef22
import Derived.Test.YtbfcnbggkcaolaaReqTake
import Derived.Test.YtbfcnbggkcaolaaReqCheck
import Derived.Deep.RegionHeldLaw
import Derived.Deep.RegionLaw
namespace Go.Proofs.Ytbfcnbggkcaolaa
open Go.RowKit
set_option linter.unusedVariables false
set_option linter.unusedSimpArgs false

def Tk.gone (t : Tk) (l : List Int) : Nat := if t.ok then rqSize l else 0
abbrev rtkV (t : Tk) (k : Nat) (A : Option Addr) (c : Nat) : Value := .tuple #[reqV t.fl t.kd t.ck t.off t.len (.slice A t.d.length c), .int .i64 k, .int .i64 t.err]

section
variable {w0 w : World} {O : Nat → Prop} {L : List Asr}
theorem Rb.ksub {ad : Addr} {n : Nat} {l : List Int} (hr : Rb w0 O L 1 (some ad) n (by8 l)) (j m : Nat) (hj : j < m) (hm : m ≤ n) : Rb w0 O L 1 (some (ad.add j)) (m - j) (by8 ((l.drop j).take (m - j))) := by
  have := hr.kcut (j := j) (m := m) (cap := n) (by omega) hm (Nat.le_refl _)
  rw [if_neg (by omega)] at this
  exact this

def subOk (o k m : Nat) : Bool := decide (0 < o ∧ 0 < k ∧ k ≤ 8 ∧ o + k ≤ m)
theorem rnum_sub {ad : Addr} {n c o k m : Nat} {l : List Int} (HS : Sep w0 w O L) (hr : Rb w0 O L 1 (some ad) n (by8 l)) (hb : Byt l) (hm : m ≤ n) (h : subOk o k m = true) :
    Calls Try.prog 41 #[.slice (some ⟨ad.block, ad.off + o, none⟩) k c] w fun e w' => e = .returned (.int .u64 (rqN l o k)) ∧ w = w' := by
  obtain ⟨h1, h2, h3, h4⟩ := of_decide_eq_true h
  have q := hr.ksub o (o + k) (by omega) (by omega)
  rw [Nat.add_sub_cancel_left] at q
  have e : ad.add o = ⟨ad.block, ad.off + o, none⟩ := by unfold Addr.add; rw [if_neg (by omega)]
  rw [e] at q
  exact rnum_calls HS q ((hb.drop o).take k) h3

set_option maxHeartbeats 1000000 in
/-- a head of its own kind is missing, or the bytes are too few -/
theorem rtake23_few {A : Option Addr} {n c : Nat} {l : List Int} (HS : Sep w0 w O L) (hr : Rb w0 O L 1 A n (by8 l)) (hb : Byt l) (hc : n ≤ c) (h : otherB l 627086611 = true ∨ (otherB l 627086611 = false ∧ n < 28)) {E : Int} (hE : E = if otherB l 627086611 then 33 else 0) :
    Calls Try.prog 19 #[.slice A n c] w fun e w' => e = .returned (rtkV (noTk E l) 0 none 0) ∧ Sep w0 w' O L := by
  have hn := hr.klen HS
  have HSa := ((HS.alloc #[.int .i64 0, .int .i64 0, .int .u64 0, .int .u64 0, .int .u32 0, .slice none 0 0] 26).allocB #[.int .i64 0, .int .i64 0, .int .u64 0, .int .u64 0, .int .u32 0, .slice none 0 0] 26 (B := w.heap.size + 1) (by simp))
  have key : (n < 4 ∧ E = 0) ∨ (¬ n < 4 ∧ num (l.take 4) ≠ 627086611 ∧ E = 33) ∨ (¬ n < 4 ∧ num (l.take 4) = 627086611 ∧ n < 28 ∧ E = 0) := by
    rw [hE]
    unfold otherB at h ⊢
    by_cases h4 : 4 ≤ l.length <;> by_cases hm : num (l.take 4) = 627086611 <;> simp [h4, hm] at h ⊢ <;> omega
  clear hE h
  rcases key with ⟨h4, rfl⟩ | ⟨h4, hm, rfl⟩ | ⟨h4, hm, h28, rfl⟩
  · have h28 : n < 28 := by omega
    go_enter Try.func19, Try.ntmps19
    go_wp2
    (try simp only [Exit.inBlock, Exit.then])
    refine bodyPost_ret (results_row2 rfl _ _ _ _ _ _ _ rfl HSa.up1.blk_heap Try.underlying26 rfl info_req) rfl ?_
    exact ⟨rfl, HSa.drop.drop⟩
  · have hm' : (num (l.take 4) != 627086611) = true := bne_iff_ne.2 hm
    clear hm
    have i1 : (4 : Int) ≤ n := by omega
    have i2 : (n : Int) ≤ c := by omega
    have i3 : (0 : Int) ≤ 4 := by decide
    have hrt := hr.ktake (m := 4) (by omega)
    go_enter Try.func19, Try.ntmps19
    go_wp2_with fail
    refine (rnum_calls HSa (hrt.cons.cons) (hb.take 4) (by decide)).mono ?_
    rintro e w1 ⟨rfl, rfl⟩
    go_wp2
    (try simp only [Exit.inBlock, Exit.then])
    refine bodyPost_ret (results_row2 rfl _ _ _ _ _ _ _ rfl HSa.up1.blk_heap Try.underlying26 rfl info_req) rfl ?_
    exact ⟨rfl, HSa.drop.drop⟩
  · have hm1 := hid hm
    clear hm
    have i1 : (4 : Int) ≤ n := by omega
    have i2 : (n : Int) ≤ c := by omega
    have i3 : (0 : Int) ≤ 4 := by decide
    have hrt := hr.ktake (m := 4) (by omega)
    go_enter Try.func19, Try.ntmps19
    go_wp2_with fail
    refine (rnum_calls HSa (hrt.cons.cons) (hb.take 4) (by decide)).mono ?_
    rintro e w1 ⟨rfl, rfl⟩
    rw [hm1.out]
    go_wp2
    (try simp only [Exit.inBlock, Exit.then])
    refine bodyPost_ret (results_row2 rfl _ _ _ _ _ _ _ rfl HSa.up1.blk_heap Try.underlying26 rfl info_req) rfl ?_
    exact ⟨rfl, HSa.drop.drop⟩

set_option maxHeartbeats 4000000 in
theorem rtake23_28 {A : Option Addr} {n c : Nat} {l : List Int} (HS : Sep w0 w O L) (hr : Rb w0 O L 1 A n (by8 l)) (hb : Byt l) (hc : n ≤ c) (hl : n ≤ 140737488355328) (h : otherB l 627086611 = false) (h28 : 28 ≤ n) :
    Calls Try.prog 19 #[.slice A n c] w fun e w' => ∃ A' c', e = .returned (rtkV (takeReq l) ((takeReq l).gone l) A' c') ∧ Sep w0 w' O (own 5 1 A' (takeReq l).d.length c' (by8 (takeReq l).d) :: L) := by
  have hn := hr.klen HS
  have HSa := ((HS.alloc #[.int .i64 0, .int .i64 0, .int .u64 0, .int .u64 0, .int .u32 0, .slice none 0 0] 26).allocB #[.int .i64 0, .int .i64 0, .int .u64 0, .int .u64 0, .int .u32 0, .slice none 0 0] 26 (B := w.heap.size + 1) (by simp))
  have hm : num (l.take 4) = 627086611 := by
    unfold otherB at h
    have := of_decide_eq_false h
    by_cases e : num (l.take 4) = 627086611
    · exact e
    · exact absurd ⟨by omega, e⟩ this
  have hm1 := hid hm
  have hT : takeReq l = if rqN l 6 2 = 1 ∧ 4096 < rqN l 24 4 then noTk 3 l else if l.length < rqSize l then noTk 0 l else ⟨true, 0, rqN l 4 2, rqN l 6 2, rqN l 8 8, rqN l 16 8, rqN l 24 4, (l.take (rqSize l)).drop 28, l.drop (rqSize l)⟩ := by
    unfold takeReq; rw [h, if_neg (by decide), if_neg (by omega)]
  have hsize : rqSize l = 28 + if rqN l 6 2 = 1 then (rqN l 24 4).toNat else 0 := rfl
  have HT := hid hT
  have HZ := hid hsize
  clear h hm hT hsize
  have hrt := hr.ktake (m := 4) (by omega)
  obtain ⟨ad, rfl⟩ : ∃ ad, A = some ad := by
    obtain ⟨ad, y, e, _⟩ := hr.elemn HS (j := 0) (by omega)
    exact ⟨ad, e⟩
  have d1 := rqN_bd hb 4 2
  have d2 := rqN_bd hb 6 2
  have d3 := rqN_bd hb 8 8
  have d4 := rqN_bd hb 16 8
  have d5 := rqN_bd hb 24 4
  simp only [show (256 : Int) ^ 8 = 18446744073709551616 from rfl, show (256 : Int) ^ 4 = 4294967296 from rfl, show (256 : Int) ^ 2 = 65536 from rfl] at d1 d2 d3 d4 d5
  have s1 := wrapi d1.1 d1.2
  have s2 := wrapi d2.1 d2.2
  have s5 := wrap32 d5.1 d5.2
  have i0 : ¬ (n : Int) < 28 := by omega
  have i1 : (4 : Int) ≤ n := by omega
  have i2 : (n : Int) ≤ c := by omega
  have j1 : (6 : Int) ≤ c := by omega
  have j2 : (8 : Int) ≤ c := by omega
  have j3 : (16 : Int) ≤ c := by omega
  have j4 : (24 : Int) ≤ c := by omega
  have j5 : (28 : Int) ≤ c := by omega
  have m1 : ¬ c = 4 := by omega
  have m2 : ¬ c = 6 := by omega
  have m3 : ¬ c = 8 := by omega
  have m4 : ¬ c = 16 := by omega
  have m5 : ¬ c = 24 := by omega
  go_enter Try.func19, Try.ntmps19
  go_wp2_with fail
  refine (rnum_calls HSa (hrt.cons.cons) (hb.take 4) (by decide)).mono ?_
  rintro e w1 ⟨rfl, rfl⟩
  rw [hm1.out]
  obtain ⟨g0, hg0⟩ : ∃ g0, g0 = w.heap.size := ⟨_, rfl⟩
  rw [← hg0] at HSa ⊢
  obtain ⟨wa, hwa⟩ : ∃ wa, wa = (w.alloc (.cells #[.int .i64 0, .int .i64 0, .int .u64 0, .int .u64 0, .int .u32 0, .slice none 0 0] 26)).alloc (.cells #[.int .i64 0, .int .i64 0, .int .u64 0, .int .u64 0, .int .u32 0, .slice none 0 0] 26) := ⟨_, rfl⟩
  have hsz : wa.heap.size = g0 + 1 + 1 := by rw [hwa, hg0]; simp
  rw [← hwa] at HSa ⊢
  clear hwa hg0 HS
  go_upto_region 6 with (fail)
  go_cut [6] (fun v wx => v = .pointer (some ⟨g0 + 1 + 1, 0, none⟩) ∧ Sep w0 wx O (blk (g0 + 1 + 1) 26 #[.int .i64 (rqN l 4 2), .int .i64 (rqN l 6 2), .int .u64 (rqN l 8 8), .int .u64 (rqN l 16 8), .int .u32 (rqN l 24 4), .slice none 0 0] :: blk (g0 + 1) 26 #[.int .i64 0, .int .i64 0, .int .u64 0, .int .u64 0, .int .u32 0, .slice none 0 0] :: blk g0 26 #[.int .i64 0, .int .i64 0, .int .u64 0, .int .u64 0, .int .u32 0, .slice none 0 0] :: L))
  case first =>
    have HF := HSa.allocB #[.int .i64 (rqN l 4 2), .int .i64 (rqN l 6 2), .int .u64 (rqN l 8 8), .int .u64 (rqN l 16 8), .int .u32 (rqN l 24 4), .slice none 0 0] 26 hsz
    go_region_held_law (fun w' => Sep w0 w' O (blk (g0 + 1) 26 #[.int .i64 0, .int .i64 0, .int .u64 0, .int .u64 0, .int .u32 0, .slice none 0 0] :: blk g0 26 #[.int .i64 0, .int .i64 0, .int .u64 0, .int .u64 0, .int .u32 0, .slice none 0 0] :: L)) (first | exact HSa.drew | exact (HSa.alloc_ _).drew)
      (first
        | (go_at_call 41; refine (rnum_sub (by assumption) hr.cons.cons hb h28 (by rfl)).mono ?_; rintro e w1 ⟨rfl, rfl⟩))
    all_goals
      go_wp2
      go_meet
      case rel => exact ⟨by first | rfl | rw [hsz], HF.drew⟩
  case rest =>
    obtain ⟨rfl, HS1⟩ := hcut
    have hgone : ∀ t : Tk, t.ok = true → t.gone l = rqSize l := fun t h => by unfold Tk.gone; rw [h]; rfl
    have HGN := hid hgone
    clear hgone HSa hsz hrt
    generalize rqN l 4 2 = x1 at *
    generalize rqN l 6 2 = x2 at *
    generalize rqN l 8 8 = x3 at *
    generalize rqN l 16 8 = x4 at *
    generalize rqN l 24 4 = x5 at *
    generalize rqSize l = sz at *
    obtain ⟨i0', hi0, hz0, hz1, hz2⟩ := info_parts info_u8
    have a0 := HS1.blk_at 0 rfl
    have a1 := HS1.blk_at 1 rfl
    have a2 := HS1.blk_at 2 rfl
    have a3 := HS1.blk_at 3 rfl
    have a4 := HS1.blk_at 4 rfl
    have a5 := HS1.blk_at 5 rfl
    have fa5 := HS1.blk_frozen 5
    have z0 := HS1.up1.blk_at 0 rfl
    have z1 := HS1.up1.blk_at 1 rfl
    have z2 := HS1.up1.blk_at 2 rfl
    have z3 := HS1.up1.blk_at 3 rfl
    have z4 := HS1.up1.blk_at 4 rfl
    have z5 := HS1.up1.blk_at 5 rfl
    have r0 := HS1.up2.blk_at 0 rfl
    have f0 := HS1.up2.blk_frozen 0
    have r1 := HS1.up2.blk_at 1 rfl
    have f1 := HS1.up2.blk_frozen 1
    have r2 := HS1.up2.blk_at 2 rfl
    have f2 := HS1.up2.blk_frozen 2
    have r3 := HS1.up2.blk_at 3 rfl
    have f3 := HS1.up2.blk_frozen 3
    have r4 := HS1.up2.blk_at 4 rfl
    have f4 := HS1.up2.blk_frozen 4
    have r5 := HS1.up2.blk_at 5 rfl
    have f5 := HS1.up2.blk_frozen 5
    by_cases h3 : x2 = 1
    · subst h3
      by_cases h4 : 4096 < x5
      · have e3 : takeReq l = noTk 3 l := by rw [HT.out, if_pos ⟨rfl, h4⟩]
        have E3 := hid e3
        clear e3
        have HR := HS1.up2.blk_set6 (.int .i64 0) (.int .i64 0) (.int .u64 0) (.int .u64 0) (.int .u32 0) (.slice none 0 0)
        go_wp2
        (try simp only [Exit.inBlock, Exit.then])
        refine bodyPost_ret (results_row2 rfl _ _ _ _ _ _ _ rfl HR.blk_heap Try.underlying26 rfl info_req) rfl ?_
        rw [E3.out]
        first | exact ⟨none, 0, rfl, (HR.drop.drop.drop).nil _ _⟩ | exact ⟨none, ⟨0, rfl⟩, (HR.drop.drop.drop).nil _ _⟩
      · obtain ⟨y, rfl⟩ : ∃ y : Nat, x5 = y := ⟨x5.toNat, by omega⟩
        have z1 : sz = 28 + y := by rw [HZ.out, if_pos rfl, Int.toNat_natCast]
        subst z1
        have hy : y ≤ 4096 := by omega
        have hy' : ¬ 4096 < (y : Int) := h4
        by_cases h5 : n < 28 + y
        · have e3 : takeReq l = noTk 0 l := by rw [HT.out, if_neg (fun e => h4 e.2), if_pos (by omega)]
          have E3 := hid e3
          have h5' : (n : Int) < 28 + y := by omega
          clear e3
          have HR := HS1.up2.blk_set6 (.int .i64 0) (.int .i64 0) (.int .u64 0) (.int .u64 0) (.int .u32 0) (.slice none 0 0)
          go_wp2
          (try simp only [Exit.inBlock, Exit.then])
          refine bodyPost_ret (results_row2 rfl _ _ _ _ _ _ _ rfl HR.blk_heap Try.underlying26 rfl info_req) rfl ?_
          rw [E3.out]
          first | exact ⟨none, 0, rfl, (HR.drop.drop.drop).nil _ _⟩ | exact ⟨none, ⟨0, rfl⟩, (HR.drop.drop.drop).nil _ _⟩
        · have e3 : takeReq l = ⟨true, 0, x1, 1, x3, x4, y, (l.take (28 + y)).drop 28, l.drop (28 + y)⟩ := by rw [HT.out, if_neg (fun e => h4 e.2), if_neg (by omega)]
          have E3 := hid e3
          have h5' : ¬ (n : Int) < 28 + y := by omega
          have k1 : (28 : Int) ≤ 28 + y := by omega
          have k2 : (28 : Int) + y ≤ c := by omega
          have k3 : (0 : Int) ≤ 28 + y := by omega
          clear e3
          rcases Nat.eq_zero_or_pos y with rfl | hy0
          · skip
            by_cases m28 : c = 28
            all_goals
              go_upto_region 14 with (fail)
              go_region_law (fail)
              all_goals
                have HR := (((HS1.blk_set 5 (.slice none 0 0)).up2).blk_set6 (.int .i64 x1) (.int .i64 1) (.int .u64 x3) (.int .u64 x4) (.int .u32 0) (.slice none 0 0)).drew
                go_wp2
                (try simp only [Exit.inBlock, Exit.then])
                refine bodyPost_ret (results_row2 rfl _ _ _ _ _ _ _ rfl HR.blk_heap Try.underlying26 rfl info_req) rfl ?_
                have hdl : ((l.take 28).drop 28) = [] := by rw [List.drop_eq_nil_iff, List.length_take]; omega
                rw [E3.out, HGN.out _ rfl]
                refine ⟨none, ?_⟩
                first | refine ⟨0, ?_, ?_⟩ | refine ⟨⟨0, ?_⟩, ?_⟩
                · show _ = Ending.returned (.tuple #[reqV _ _ _ _ _ (.slice none ((l.take 28).drop 28).length 0), .int .i64 _, .int .i64 0])
                  rw [hdl]
                  rfl
                · show Sep w0 _ O (own 5 1 none ((l.take 28).drop 28).length 0 (by8 ((l.take 28).drop 28)) :: L)
                  rw [hdl]
                  exact (HR.drop.drop.drop).nil _ _
          · have m28 : ¬ c = 28 := by omega
            have u1 : ((28 : Int) + y).toNat = 28 + y := by omega
            have u2 : 28 + y - 28 = y := by omega
            have hHN := (HS1.drew).nil 5 1
            have hq := hr.ksub 28 (28 + y) (by omega) (by omega)
            rw [show 28 + y - 28 = y by omega] at hq
            have hq' : Rb w0 O L 1 (some ⟨ad.block, ad.off + 28, none⟩) y (by8 ((l.drop 28).take y)) := hq
            have hrd := hq'.cons.cons.cons.cons.read hHN
            have hp1 : 0 + y ≤ maxLen := by simp only [maxLen]; omega
            have hp2 : (0 + y) * 1 ≤ 140737488355328 := by omega
            have hdl : ((l.take (28 + y)).drop 28) = (l.drop 28).take y := by rw [List.drop_take, Nat.add_sub_cancel_left]
            have hdn : ((l.drop 28).take y).length = y := by rw [List.length_take, List.length_drop]; omega
            have HDL := hid hdl
            have HDN := hid hdn
            clear hdl hdn
            go_upto_region 14 with (fail)
            go_region_law (refine step_append_sep (by rfl) (.tmp 60) (.tmp 63) 24 (by rfl) 5 i0' _ 1 1 Try.underlying24 hi0 hz0 hz1 hz2 rfl (by decide) (by rfl) hHN (by rfl) hrd (kv_one _ _) hp1 hp2 (Nat.zero_add y) rfl ?_; intro A9 c9 w9 HS9 hsz9; have b5 := HS9.up1.blk_frozen 5; have b6 := HS9.up1.blk_at 5 rfl)
            all_goals
              have HX := HS9.up1.blk_set 5 (.slice A9 y c9)
              have HR := (HX.up3.blk_set6 (.int .i64 x1) (.int .i64 1) (.int .u64 x3) (.int .u64 x4) (.int .u32 y) (.slice A9 y c9))
              have y0 := HS9.up1.blk_at 0 rfl
              have y1 := HS9.up1.blk_at 1 rfl
              have y2 := HS9.up1.blk_at 2 rfl
              have y3 := HS9.up1.blk_at 3 rfl
              have y4 := HS9.up1.blk_at 4 rfl
              have u0 := HS9.up3.blk_at 0 rfl
              have u1' := HS9.up3.blk_at 1 rfl
              have u2' := HS9.up3.blk_at 2 rfl
              have u3 := HS9.up3.blk_at 3 rfl
              have u4 := HS9.up3.blk_at 4 rfl
              have u5 := HS9.up3.blk_at 5 rfl
              have t0 := HS9.up3.blk_frozen 0
              have t1 := HS9.up3.blk_frozen 1
              have t2 := HS9.up3.blk_frozen 2
              have t3 := HS9.up3.blk_frozen 3
              have t4 := HS9.up3.blk_frozen 4
              have t5 := HS9.up3.blk_frozen 5
              go_wp2
              (try simp only [Exit.inBlock, Exit.then])
              refine bodyPost_ret (results_row2 rfl _ _ _ _ _ _ _ rfl HR.blk_heap Try.underlying26 rfl info_req) rfl ?_
              rw [E3.out, HGN.out _ rfl]
              refine ⟨A9, ?_⟩
              first | refine ⟨c9, ?_, ?_⟩ | refine ⟨⟨c9, ?_⟩, ?_⟩
              · show _ = Ending.returned (.tuple #[reqV _ _ _ _ _ (.slice A9 ((l.take (28 + y)).drop 28).length c9), .int .i64 _, .int .i64 0])
                rw [HDL.out, HDN.out]
                rfl
              · show Sep w0 _ O (own 5 1 A9 ((l.take (28 + y)).drop 28).length c9 (by8 ((l.take (28 + y)).drop 28)) :: L)
                rw [HDL.out, HDN.out]
                exact HR.sel 4 [2]
    · have r1 : (x2 == 1) = false := beq_eq_false_iff_ne.2 h3
      have z1 : sz = 28 := by rw [HZ.out, if_neg h3]
      subst z1
      have e3 : takeReq l = ⟨true, 0, x1, x2, x3, x4, x5, (l.take 28).drop 28, l.drop 28⟩ := by rw [HT.out, if_neg (fun e => h3 e.1), if_neg (by omega)]
      have E3 := hid e3
      clear e3 h3
      by_cases m28 : c = 28
      all_goals
        go_upto_region 14 with (fail)
        go_region_law (fail)
        all_goals
          have HR := (((HS1.blk_set 5 (.slice none 0 0)).up2).blk_set6 (.int .i64 x1) (.int .i64 x2) (.int .u64 x3) (.int .u64 x4) (.int .u32 x5) (.slice none 0 0)).drew
          go_wp2
          (try simp only [Exit.inBlock, Exit.then])
          refine bodyPost_ret (results_row2 rfl _ _ _ _ _ _ _ rfl HR.blk_heap Try.underlying26 rfl info_req) rfl ?_
          have hdl : ((l.take 28).drop 28) = [] := by rw [List.drop_eq_nil_iff, List.length_take]; omega
          rw [E3.out, HGN.out _ rfl]
          refine ⟨none, ?_⟩
          first | refine ⟨0, ?_, ?_⟩ | refine ⟨⟨0, ?_⟩, ?_⟩
          · show _ = Ending.returned (.tuple #[reqV _ _ _ _ _ (.slice none ((l.take 28).drop 28).length 0), .int .i64 _, .int .i64 0])
            rw [hdl]
            rfl
          · show Sep w0 _ O (own 5 1 none ((l.take 28).drop 28).length 0 (by8 ((l.take 28).drop 28)) :: L)
            rw [hdl]
            exact (HR.drop.drop.drop).nil _ _

/-- Take, whatever the bytes -/
theorem rtake23_calls {A : Option Addr} {n c : Nat} {l : List Int} (HS : Sep w0 w O L) (hr : Rb w0 O L 1 A n (by8 l)) (hb : Byt l) (hc : n ≤ c) (hl : n ≤ 140737488355328) :
    Calls Try.prog 19 #[.slice A n c] w fun e w' => ∃ A' c', e = .returned (rtkV (takeReq l) ((takeReq l).gone l) A' c') ∧ Sep w0 w' O (own 5 1 A' (takeReq l).d.length c' (by8 (takeReq l).d) :: L) := by
  have hn := hr.klen HS
  cases h : otherB l 627086611
  · by_cases h28 : l.length < 28
    · have e : takeReq l = noTk 0 l := by unfold takeReq; rw [h, if_neg (by decide), if_pos h28]
      rw [e]
      refine (rtake23_few HS hr hb hc (.inr ⟨h, by omega⟩) (E := 0) (by rw [h]; rfl)).mono ?_
      rintro e w' ⟨rfl, HS'⟩
      exact ⟨none, 0, rfl, HS'.nil _ _⟩
    · exact rtake23_28 HS hr hb hc hl h (by omega)
  · have e : takeReq l = noTk 33 l := by unfold takeReq; rw [h, if_pos rfl]
    rw [e]
    refine (rtake23_few HS hr hb hc (.inl h) (E := 33) (by rw [h]; rfl)).mono ?_
    rintro e w' ⟨rfl, HS'⟩
    exact ⟨none, 0, rfl, HS'.nil _ _⟩
end
end Go.Proofs.Ytbfcnbggkcaolaa
