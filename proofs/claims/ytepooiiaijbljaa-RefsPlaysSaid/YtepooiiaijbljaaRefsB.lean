/-
  Contracts of Refs: Alloc, Inc, Dec, Count, Fresh, Free, Counts, Commit, Abort.
-/
import Derived.Test.YtepooiiaijbljaaRefsA
namespace Go.Proofs.Ytepooiiaijbljaa
open Go.RowKit
set_option linter.unusedVariables false
set_option linter.unusedSimpArgs false
def cntAt (now : List Int) (x : Int) : Int := if x < 0 ∨ (now.length : Int) ≤ x then 0 else gat now x.toNat
def frAt (now was : List Int) (x : Int) : Bool := if x < 0 ∨ (now.length : Int) ≤ x then false else !(gat now x.toNat == 0) && gat was x.toNat == 0
section
variable {w0 w : World} {O : Nat → Prop} {L : List Asr} {g : Nat} {now was : List Int}

set_option maxHeartbeats 2000000 in
theorem ralloc_calls (HS : Sep w0 w O (refsA g now was :: L)) :
    Calls Try.prog 14 #[.pointer (some ⟨g, 0, none⟩)] w fun e w' => e = .returned (.tuple #[.int .i64 (takeAt (isOf now was)), .int .i64 (takeErr (isOf now was))]) ∧ Sep w0 w' O (refsA g (alNow now was) was :: L) := by
  have hR := rright_refs HS
  obtain ⟨hok, a0, a1, a2, c0, c1, c2, gs, H⟩ := HS.unrefs
  have b3 := H.blkAt 3 rfl
  have hT := take_calls H.up4
  have HOK := hid hok
  clear HS hok
  cases hl : leastOf (isOf now was) with
  | none =>
    have e0 : takeAt (isOf now was) = 0 := by unfold takeAt; rw [hl]; rfl
    have e1 : takeErr (isOf now was) = 8 := by unfold takeErr; rw [hl]; rfl
    have e2 : takeIs (isOf now was) = isOf now was := by unfold takeIs; rw [hl]
    have e3 : alNow now was = now := by unfold alNow; rw [hl]
    rw [e0, e1, e2] at hT
    rw [e0, e1, e3]
    have HT := hid hT
    clear hT e0 e1 e2 e3 hl
    go_enter Try.func14, Try.ntmps14
    go_wp2_with fail
    refine hR.mono ?_
    rintro e w1 ⟨rfl, rfl⟩
    go_wp2_with fail
    refine HT.out.mono ?_
    rintro e w2 ⟨rfl, H2⟩
    go_wp2
    go_ret2
    exact ⟨rfl, Sep.refsd HOK.out rfl rfl rfl (H2.sel 5 [1, 2, 3, 4, 0])⟩
  | some k =>
    have e0 : takeAt (isOf now was) = k := by unfold takeAt; rw [hl]; rfl
    have e1 : takeErr (isOf now was) = 0 := by unfold takeErr; rw [hl]; rfl
    have e2 : takeIs (isOf now was) = (isOf now was).set k false := by unfold takeIs; rw [hl]
    have e3 : alNow now was = now.set k 1 := by unfold alNow; rw [hl]
    obtain ⟨hk, g1, g2, s1, s2, s3⟩ := alloc_step HOK.out hl
    rw [e0, e1, e2] at hT
    rw [e0, e1, e3]
    have HT := hid hT
    have HS1 := hid s1
    have HS2 := hid s2
    have HS3 := hid s3
    have hfl := frOf_len HOK.out.len
    have HLW := hid HOK.out.len
    have hk1 : (k : Int) < now.length := by omega
    clear hT e0 e1 e2 e3 hl s1 s2 s3 g1 g2
    go_enter Try.func14, Try.ntmps14
    go_wp2_with fail
    refine hR.mono ?_
    rintro e w1 ⟨rfl, rfl⟩
    go_wp2_with fail
    refine HT.out.mono ?_
    rintro e w2 ⟨rfl, H2⟩
    clear b3 hR HT H
    have d0 := H2.drew.up1.blkAt 0 rfl
    have d2 := H2.drew.up1.blkAt 2 rfl
    have H3 : Sep w0 w2 O (own 5 1 (some ⟨a0, 0, none⟩) now.length c0 (kv .u8 now) :: blk g 61 #[.slice (some ⟨a0, 0, none⟩) now.length c0, .slice (some ⟨a1, 0, none⟩) now.length c1, .slice (some ⟨a2, 0, none⟩) now.length c2, .pointer (some ⟨gs, 0, none⟩)] :: own 5 1 (some ⟨a1, 0, none⟩) now.length c1 (kv .u8 was) :: own 4 1 (some ⟨a2, 0, none⟩) now.length c2 (bv (frOf now was)) :: space gs ((isOf now was).set k false) :: L) := H2.sel 5 [2, 1, 3, 4, 0]
    have ck := H3.drew.kcell hk rfl
    have zk := H3.drew.own_frozen k
    have H4 := H3.own_set k (.int .u8 1)
    rw [kv_set] at H4
    have d2b := H4.up1.blkAt 2 rfl
    have d2c := H4.drew.up1.blkAt 2 rfl
    have H5 := H4.up3
    rw [show now.length = (frOf now was).length by rw [hfl]] at H5
    have fk := H5.bcell (show k < (frOf now was).length by omega)
    have fk2 := H5.drew.bcell (show k < (frOf now was).length by omega)
    have fz := H5.own_frozen k
    have fz2 := H5.drew.own_frozen k
    have H6 := H5.bset k true
    rw [hfl] at H6
    clear H2 H3 H4 H5
    go_upto_region 6 with (fail)
    go_region_law (fail)
    all_goals
      go_wp2
      go_ret2
      refine ⟨rfl, Sep.refsd (now := now.set k 1) (A0 := some ⟨a0, 0, none⟩) (A1 := some ⟨a1, 0, none⟩) (A2 := some ⟨a2, 0, none⟩) (c0 := c0) (c1 := c1) (c2 := c2) (gs := gs) HS3.out (by rw [List.length_set]) (by rw [List.length_set]) (by rw [List.length_set]) ?_⟩
      rw [HS1.out, HS2.out]
      exact H6.sel 5 [2, 1, 3, 0, 4]

theorem rmore_calls {k : Nat} (HS : Sep w0 w O (refsA g now was :: L)) (hk : k < now.length) (h1 : ¬ gat now k = 0) :
    Calls Try.prog 39 #[.pointer (some ⟨g, 0, none⟩), .int .i64 k] w fun e w' => e = .returned (.int .i64 (if gat now k = 255 then 8 else 0)) ∧ Sep w0 w' O (refsA g (if gat now k = 255 then now else now.set k (gat now k + 1)) was :: L) := by
  obtain ⟨hok, a0, a1, a2, c0, c1, c2, gs, H⟩ := HS.unrefs
  have b0 := H.blkAt 0 rfl
  have ck := H.up1.kcell hk rfl
  rw [gat_int hk] at ck
  have zk := H.up1.own_frozen k
  have hk1 : (k : Int) < now.length := by omega
  obtain ⟨g0, g1⟩ := gat_byt hok.bn hk
  by_cases h255 : gat now k = 255
  · rw [if_pos h255, if_pos h255]
    rw [h255] at ck
    clear h255 g0 g1 h1 hok H
    go_enter Try.func39, Try.ntmps39
    go_wp2
    go_ret
    exact ⟨rfl, HS⟩
  · rw [if_neg h255, if_neg h255]
    obtain ⟨s1, s2, s3⟩ := keep_step hok hk (x := gat now k + 1) (by omega) (by
      rw [beq_eq_false_iff_ne.2 (show gat now k + 1 ≠ 0 by omega), beq_eq_false_iff_ne.2 h1])
    have H4 := H.up1.own_set k (.int .u8 (gat now k + 1))
    rw [kv_set] at H4
    have hb : (gat now k == 255) = false := beq_eq_false_iff_ne.2 h255
    have hw : IntKind.u8.wrap (gat now k + 1) = gat now k + 1 := by rw [IntKind.wrap_u8]; omega
    generalize gat now k = x at *
    have HS1 := hid s1
    have HS2 := hid s2
    have HS3 := hid s3
    clear s1 s2 s3 HS H hok
    go_enter Try.func39, Try.ntmps39
    go_wp2
    go_ret
    refine ⟨rfl, Sep.refsd (now := now.set k (x + 1)) (A0 := some ⟨a0, 0, none⟩) (A1 := some ⟨a1, 0, none⟩) (A2 := some ⟨a2, 0, none⟩) (c0 := c0) (c1 := c1) (c2 := c2) (gs := gs) HS3.out (by rw [List.length_set]) (by rw [List.length_set]) (by rw [List.length_set]) ?_⟩
    rw [HS1.out, HS2.out]
    exact H4.up1

set_option maxHeartbeats 1000000 in
theorem rless_calls {k : Nat} (HS : Sep w0 w O (refsA g now was :: L)) (hk : k < now.length) (h1 : ¬ gat now k = 0) :
    Calls Try.prog 36 #[.pointer (some ⟨g, 0, none⟩), .int .i64 k] w fun e w' => e = .returned (.int .i64 0) ∧ Sep w0 w' O (refsA g (now.set k (gat now k - 1)) was :: L) := by
  obtain ⟨hok, a0, a1, a2, c0, c1, c2, gs, H⟩ := HS.unrefs
  have b0 := H.blkAt 0 rfl
  have ck := H.up1.kcell hk rfl
  rw [gat_int hk] at ck
  have zk := H.up1.own_frozen k
  have hk1 : (k : Int) < now.length := by omega
  obtain ⟨g0, g1⟩ := gat_byt hok.bn hk
  have H4 := H.up1.own_set k (.int .u8 (gat now k - 1))
  rw [kv_set] at H4
  have hw : IntKind.u8.wrap (gat now k - 1) = gat now k - 1 := by rw [IntKind.wrap_u8]; omega
  have e0 := H4.up1.blkAt 0 rfl
  have e2 := H4.up1.blkAt 2 rfl
  have e3 := H4.up1.blkAt 3 rfl
  have hsl : k < (now.set k (gat now k - 1)).length := by rw [List.length_set]; exact hk
  have dk := H4.kcell hsl (by rw [List.length_set])
  rw [List.getElem_set_self] at dk
  have hfl := frOf_len hok.len
  have H5 := H4.up3
  by_cases hz : gat now k - 1 = 0
  · obtain ⟨hy, hn, hok2⟩ := gone_step hok hk h1
    rw [hz] at H4 H5 dk hw e0 e2 e3 ⊢
    have hg1 : gat now k = 1 := by omega
    rw [hg1] at ck
    by_cases hws : gat was k = 0
    · obtain ⟨f1, f2, f3, f4⟩ := hy hws
      have H5' := H5
      rw [show now.length = (frOf now was).length by rw [hfl]] at H5'
      have fk := H5'.bcell (show k < (frOf now was).length by omega)
      have fke : (frOf now was)[k] = true := by
        have := f1
        rw [List.getElem?_eq_getElem (show k < (frOf now was).length by omega)] at this
        injection this
      rw [fke] at fk
      have fz := H5'.own_frozen k
      have H6 := H5'.bset k false
      rw [hfl] at H6
      have q3 := H6.up2.blkAt 3 rfl
      have hil := isOf_len hok.len
      have eg1 : gvErr (isOf now was) k = 0 := by unfold gvErr; rw [if_neg (by rw [hil]; omega), Int.toNat_natCast, if_neg f4]
      have eg2 : gvIs (isOf now was) k = (isOf now was).set k true := by unfold gvIs; rw [eg1, if_pos rfl, Int.toNat_natCast]
      have hG := give_calls (x := (k : Int)) H6.up4
      rw [eg1, eg2] at hG
      have HG := hid hG
      have HF2 := hid f2
      have HF3 := hid f3
      have HOK := hid hok2
      clear hG eg1 eg2 f1 f2 f3 f4 hy hn hok hok2 H4 H5 H5' fke hws H HS hfl g0 g1 h1 hz hg1 hsl hil
      go_enter Try.func36, Try.ntmps36
      go_wp2_with fail
      refine HG.out.mono ?_
      rintro e w2 ⟨rfl, H7⟩
      go_wp2
      go_ret
      refine ⟨rfl, Sep.refsd (now := now.set k 0) (A0 := some ⟨a0, 0, none⟩) (A1 := some ⟨a1, 0, none⟩) (A2 := some ⟨a2, 0, none⟩) (c0 := c0) (c1 := c1) (c2 := c2) (gs := gs) HOK.out (by rw [List.length_set]) (by rw [List.length_set]) (by rw [List.length_set]) ?_⟩
      rw [HF2.out, HF3.out]
      exact H7.sel 5 [3, 2, 4, 1, 0]
    · obtain ⟨f1, f2, f3⟩ := hn hws
      rw [show now.length = (frOf now was).length by rw [hfl]] at H5
      have fk := H5.bcell (show k < (frOf now was).length by omega)
      have fke : (frOf now was)[k] = false := by
        have := f1
        rw [List.getElem?_eq_getElem (show k < (frOf now was).length by omega)] at this
        injection this
      rw [fke] at fk
      have HF2 := hid f2
      have HF3 := hid f3
      have HOK := hid hok2
      clear f1 f2 f3 hy hn hok hok2 H5 fke hws H HS hfl g0 g1 h1 hz hg1 hsl
      go_enter Try.func36, Try.ntmps36
      go_wp2
      go_ret
      refine ⟨rfl, Sep.refsd (now := now.set k 0) (A0 := some ⟨a0, 0, none⟩) (A1 := some ⟨a1, 0, none⟩) (A2 := some ⟨a2, 0, none⟩) (c0 := c0) (c1 := c1) (c2 := c2) (gs := gs) HOK.out (by rw [List.length_set]) (by rw [List.length_set]) (by rw [List.length_set]) ?_⟩
      rw [HF2.out, HF3.out]
      exact H4.up1
  · obtain ⟨s1, s2, s3⟩ := keep_step hok hk (x := gat now k - 1) (by omega) (by
      rw [beq_eq_false_iff_ne.2 hz, beq_eq_false_iff_ne.2 h1])
    have hb : (gat now k - 1 == 0) = false := beq_eq_false_iff_ne.2 hz
    have HS1 := hid s1
    have HS2 := hid s2
    have HS3 := hid s3
    generalize gat now k = x at *
    clear s1 s2 s3 HS H hok H5 hfl g0 g1 h1 hsl
    go_enter Try.func36, Try.ntmps36
    go_wp2
    go_ret
    refine ⟨rfl, Sep.refsd (now := now.set k (x - 1)) (A0 := some ⟨a0, 0, none⟩) (A1 := some ⟨a1, 0, none⟩) (A2 := some ⟨a2, 0, none⟩) (c0 := c0) (c1 := c1) (c2 := c2) (gs := gs) HS3.out (by rw [List.length_set]) (by rw [List.length_set]) (by rw [List.length_set]) ?_⟩
    rw [HS1.out, HS2.out]
    exact H4.up1
end
end Go.Proofs.Ytepooiiaijbljaa
