/-
  The walk of AdminParts (the bounded form).
-/
import Derived.Test.YtankfmfenbhkgaaComes24
namespace Go.Proofs.Ytankfmfenbhkgaa
open Go.RowKit
set_option linter.unusedVariables false
set_option linter.unusedSimpArgs false

theorem Sep.cell_old {w0 w : World} {L : List Asr} (HS : Sep w0 w (fun _ => False) L) {a : Addr} {v : Value} (h : cellH w0.heap a = some v) : w.cell? a = some v :=
  (cellH_same (HS.old _ (cellH_lt h) (fun e => e))).trans h
theorem cells_oneAd (r : Ad) : ∀ u ∈ (#[.int .i64 r.kd, .int .u64 r.ck, .string r.nm, .string r.au, .int .u64 r.size, .bool r.fixed] : Array Value).toList, u.oneCell' = true := by
  intro u hu
  simp at hu
  rcases hu with rfl | rfl | rfl | rfl | rfl | rfl <;> rfl
theorem cells_oneAn (r : An) : ∀ u ∈ (#[.int .u64 r.ck, .int .u32 r.er, .int .u64 r.id, .slice r.A r.vs.length r.c] : Array Value).toList, u.oneCell' = true := by
  intro u hu
  simp at hu
  rcases hu with rfl | rfl | rfl | rfl <;> rfl
theorem info_adm6 : (Try.prog.info? 24).map (fun i => (i.zero, i.size, i.bytes)) = some (some (.agg #[.int .i64 0, .int .u64 0, .string noStr, .string noStr, .int .u64 0, .bool false]), 6, 64) := by kernel_rfl
theorem info_ans4 : (Try.prog.info? 45).map (fun i => (i.zero, i.size, i.bytes)) = some (some (.agg #[.int .u64 0, .int .u32 0, .int .u64 0, .slice none 0 0]), 4, 48) := by kernel_rfl

set_option maxHeartbeats 20000000 in
set_option maxRecDepth 100000 in
theorem adminParts_walk (A0 : Option Addr) (n0 c0 : Nat) (A1 : Option Addr) (n1 c1 : Nat) (A2 : Option Addr) (n2 c2 : Nat) (A3 : Option Addr) (n3 c3 : Nat) (x0 : Sh.V (.slice (.agg (.pair (.int .i64) (.pair (.int .u64) (.pair .str (.pair .str (.pair (.int .u64) (.pair .bool .unit))))))) 64)) (x1 : Sh.V (.slice (.agg (.pair (.int .u64) (.pair (.int .u32) (.pair (.int .u64) (.pair (.slice (.agg (.pair (.int .u64) (.pair .str (.pair (.int .u64) (.pair (.int .u64) (.pair .bool (.pair (.int .u64) .unit))))))) 56) .unit))))) 48)) (x2 : Sh.V (.slice (.int .u8) 1)) (x3 : Sh.V (.slice (.int .u8) 1)) (w : World) (s0 : Sees w.heap (.slice (.agg (.pair (.int .i64) (.pair (.int .u64) (.pair .str (.pair .str (.pair (.int .u64) (.pair .bool .unit))))))) 64) [.slice A0 n0 c0] x0) (s1 : Sees w.heap (.slice (.agg (.pair (.int .u64) (.pair (.int .u32) (.pair (.int .u64) (.pair (.slice (.agg (.pair (.int .u64) (.pair .str (.pair (.int .u64) (.pair (.int .u64) (.pair .bool (.pair (.int .u64) .unit))))))) 56) .unit))))) 48) [.slice A1 n1 c1] x1) (s2 : Sees w.heap (.slice (.int .u8) 1) [.slice A2 n2 c2] x2) (s3 : Sees w.heap (.slice (.int .u8) 1) [.slice A3 n3 c3] x3)
    (hsum : bulk (.slice (.agg (.pair (.int .i64) (.pair (.int .u64) (.pair .str (.pair .str (.pair (.int .u64) (.pair .bool .unit))))))) 64) x0 + bulk (.slice (.agg (.pair (.int .u64) (.pair (.int .u32) (.pair (.int .u64) (.pair (.slice (.agg (.pair (.int .u64) (.pair .str (.pair (.int .u64) (.pair (.int .u64) (.pair .bool (.pair (.int .u64) .unit))))))) 56) .unit))))) 48) x1 + bulk (.slice (.int .u8) 1) x2 + bulk (.slice (.int .u8) 1) x3 ≤ 1048576) :
    Calls Try.prog 6 #[.slice A0 n0 c0, .slice A1 n1 c1, .slice A2 n2 c2, .slice A3 n3 c3] w fun e w' => e = .returned (.bool true) ∧ Below w.heap.size w w' := by
  obtain ⟨i0, hi0, hz0, hz1, hz2⟩ := info_parts info_u8
  obtain ⟨j0, hji, hj0, hj1', hj2⟩ := info_parts info_adm6
  obtain ⟨k0, hki, hk0, hk1', hk2⟩ := info_parts info_ans4
  obtain ⟨hc0, rs, hl0, hg0, hs0, hn0, hm0⟩ := sees_Ads s0 (by omega)
  obtain ⟨hc1, ps, hl1, hg1, hs1, hn1, hm1⟩ := sees_Ans s1 (by omega)
  obtain ⟨hn2, hr2, _, _, hw2⟩ := sees_ints s2
  obtain ⟨hn3, hr3, _, _, hw3⟩ := sees_ints s3
  have b2 : bulk (.slice (.int .u8) 1) x2 = List.length x2 + 1 := by show (List.map (bulk (.int .u8)) x2).sum + 1 = _; rw [bulk_ints]
  have b3 : bulk (.slice (.int .u8) 1) x3 = List.length x3 + 1 := by show (List.map (bulk (.int .u8)) x3).sum + 1 = _; rw [bulk_ints]
  have hn2' : n2 ≤ 1048576 := by omega
  have hn3' : n3 ≤ 1048576 := by omega
  have HLENAd := hid hl0
  have HLENAn := hid hl1
  have HGAd := hid hg0
  have HGAn := hid hg1
  have HMAd := hid hm0
  have HMAn := hid hm1
  have HR2 := hid (fun L => Rb.came (L := L) hr2)
  have HR3 := hid (fun L => Rb.came (L := L) hr3)
  have HW2 : Aside (∀ x ∈ (show List Int from x2), 0 ≤ x ∧ x ≤ 255) := ⟨fun x hx => by have := kv_byt hw2 x hx; omega⟩
  have HW3 := hid (kv_byt hw3)
  clear hl0 hl1 hg0 hg1 hm0 hm1 hr2 hr3 hw2 hw3 s0 s1 s2 s3 hsum b2 b3 hn2 hn3
  have HS := Sep.start w
  go_enter Try.func6, Try.ntmps6
  go_wp2
  go_loopw [9, 10, 11] (fun b a i wr => ∃ (k cb cq : Nat) (B Q : Option Addr), k ≤ n0 ∧ i = .int .i64 k ∧ b = .slice B (Ads (Adf rs k)).length cb ∧ a = .slice Q (Adf rs k).length cq ∧
    Sep w wr (fun _ => False) (own 5 1 B (Ads (Adf rs k)).length cb (by8 (Ads (Adf rs k))) :: own 24 6 Q (Adf rs k).length cq ((Adf rs k).flatMap Ad.cells) :: [])) (fun _ _ i _ => n0 - (intOf i).toNat)
  case atStart => exact ⟨0, 0, 0, none, none, Nat.zero_le _, rfl, rfl, rfl, by simpa [Adf, Ads, kv] using (HS.nil 24 6).nil 5 1⟩
  case round =>
    obtain ⟨k, cb, cq, B, Q, hk, rfl, rfl, rfl, HS1⟩ := hrel
    have hsl := Ads_len rs k
    have hsl1 := Ads_len rs (k + 1)
    have hfl := Adf_len rs k
    rw [HLENAd.out] at hfl
    by_cases hlt : k < n0
    · have hlt' : k < rs.length := by rw [HLENAd.out]; exact hlt
      have hr0 : rs[k]? = some rs[k] := List.getElem?_eq_getElem hlt'
      have hmem := List.getElem_mem hlt'
      generalize rs[k] = r at hr0 hmem
      have hgood := HGAd.out r hmem
      have HF := hid (Adf_succ hr0)
      obtain ⟨ad, rfl, _, hcc⟩ := HMAd.out.2 (by omega)
      have hce : ∀ i v, r.cells[i]? = some v → i < 6 → cellH w.heap ((ad.add (k * 6)).add i) = some v := by
        intro i v hv hi
        rw [add_add]
        refine hcc _ _ ?_
        rw [flat_get Ad.cells 6 Ad.cells_len _ _ _ hi, hr0]
        exact hv
      have hce' : ∀ i v, r.cells[i]? = some v → i < 6 → 0 < i → cellH w.heap ⟨(ad.add (k * 6)).block, (ad.add (k * 6)).off + i, none⟩ = some v := by
        intro i v hv hi h0
        have := hce i v hv hi
        rwa [show (ad.add (k * 6)).add i = ⟨(ad.add (k * 6)).block, (ad.add (k * 6)).off + i, none⟩ by unfold Addr.add; rw [if_neg (show ¬ i = 0 by omega)]] at this
      have x0 : wr.cell? (ad.add (k * 6)) = some (.int .i64 r.kd) := HS1.cell_old (hce 0 _ rfl (by decide))
      have x1 : wr.cell? ⟨(ad.add (k * 6)).block, (ad.add (k * 6)).off + 1, none⟩ = some (.int .u64 r.ck) := HS1.cell_old (hce' 1 _ rfl (by decide) (by decide))
      have x2 : wr.cell? ⟨(ad.add (k * 6)).block, (ad.add (k * 6)).off + 2, none⟩ = some (.string r.nm) := HS1.cell_old (hce' 2 _ rfl (by decide) (by decide))
      have x3 : wr.cell? ⟨(ad.add (k * 6)).block, (ad.add (k * 6)).off + 3, none⟩ = some (.string r.au) := HS1.cell_old (hce' 3 _ rfl (by decide) (by decide))
      have x4 : wr.cell? ⟨(ad.add (k * 6)).block, (ad.add (k * 6)).off + 4, none⟩ = some (.int .u64 r.size) := HS1.cell_old (hce' 4 _ rfl (by decide) (by decide))
      have x5 : wr.cell? ⟨(ad.add (k * 6)).block, (ad.add (k * 6)).off + 5, none⟩ = some (.bool r.fixed) := HS1.cell_old (hce' 5 _ rfl (by decide) (by decide))
      have hj1 : (k : Int) < n0 := by omega
      have HPUT := hid (Ad.put_calls (r := r) HS1 hgood)
      have HGD := hid hgood
      clear hgood
      go_wp2_with fail
      refine HPUT.out.mono ?_
      rintro e w4 ⟨P, pc, rfl, HS4⟩
      clear HPUT
      by_cases he : r.err = 0
      · have ho : r.out = r.bytes := by unfold Ad.out; rw [if_pos he]
        rw [he]
        rw [ho] at HS4 ⊢
        have e1 : Ads (Adf rs k) ++ r.bytes = Ads (Adf rs (k + 1)) := by rw [HF.out, if_pos he, Ads_app, Ads_one]
        have e2 : (Adf rs k).flatMap Ad.cells ++ r.cells = (Adf rs (k + 1)).flatMap Ad.cells := by rw [HF.out, if_pos he, List.flatMap_append]; simp
        have e3 : (Ads (Adf rs k)).length + r.bytes.length = (Ads (Adf rs (k + 1))).length := by rw [← e1, List.length_append]
        have e4 : (Adf rs k).length + 1 = (Adf rs (k + 1)).length := by rw [HF.out, if_pos he]; simp
        have E1 := hid e1
        have E2 := hid e2
        have E3 := hid e3
        have E4 := hid e4
        have hb1 : (Ads (Adf rs k)).length + r.bytes.length ≤ maxLen := by simp only [maxLen]; omega
        have hb2 : ((Ads (Adf rs k)).length + r.bytes.length) * 1 ≤ 140737488355328 := by omega
        have hb3 : (Adf rs k).length + 1 ≤ maxLen := by simp only [maxLen]; omega
        have hb4 : ((Adf rs k).length + 1) * 64 ≤ 140737488355328 := by omega
        clear e1 e2 e3 e4 he ho x0 x1 x2 x3 x4 x5 hsl hsl1 hfl
        generalize hB : Ads (Adf rs (k + 1)) = sb1 at *
        generalize hX : (Adf rs (k + 1)).flatMap Ad.cells = xs1 at *
        generalize hQ : (Adf rs (k + 1)).length = nq1 at *
        generalize Ads (Adf rs k) = sb at *
        generalize (Adf rs k).flatMap Ad.cells = xs0 at *
        generalize (Adf rs k).length = nq0 at *
        generalize r.bytes = rb at *
        have HB := hid hB
        have HX := hid hX
        have HQ := hid hQ
        clear hB hX hQ
        go_upto_region 9 with (at_builtin; go_loud (refine wpList_append_sep rfl (.tmp 34) (.tmp 35) 25 rfl 5 i0 _ 1 1 Try.underlying25 hi0 hz0 hz1 hz2 rfl (by decide) rfl HS4.up1 rfl HS4.up1.rd1 (kv_one _ _) hb1 hb2 E3.out ((by8_append _ _).trans (congrArg by8 E1.out)) ?_); intro B' cb' w5 HS5 hsz5)
        have x0 : w5.cell? (ad.add (k * 6)) = some (.int .i64 r.kd) := HS5.cell_old (hce 0 _ rfl (by decide))
        have x1 : w5.cell? ⟨(ad.add (k * 6)).block, (ad.add (k * 6)).off + 1, none⟩ = some (.int .u64 r.ck) := HS5.cell_old (hce' 1 _ rfl (by decide) (by decide))
        have x2 : w5.cell? ⟨(ad.add (k * 6)).block, (ad.add (k * 6)).off + 2, none⟩ = some (.string r.nm) := HS5.cell_old (hce' 2 _ rfl (by decide) (by decide))
        have x3 : w5.cell? ⟨(ad.add (k * 6)).block, (ad.add (k * 6)).off + 3, none⟩ = some (.string r.au) := HS5.cell_old (hce' 3 _ rfl (by decide) (by decide))
        have x4 : w5.cell? ⟨(ad.add (k * 6)).block, (ad.add (k * 6)).off + 4, none⟩ = some (.int .u64 r.size) := HS5.cell_old (hce' 4 _ rfl (by decide) (by decide))
        have x5 : w5.cell? ⟨(ad.add (k * 6)).block, (ad.add (k * 6)).off + 5, none⟩ = some (.bool r.fixed) := HS5.cell_old (hce' 5 _ rfl (by decide) (by decide))
        have HS6 := (HS5.lit #[.int .i64 r.kd, .int .u64 r.ck, .string r.nm, .string r.au, .int .u64 r.size, .bool r.fixed] 24 6 1 rfl (by decide)).up3
        clear HS4
        go_wp2_with (at_builtin; go_loud (refine wpList_append_sep rfl (.tmp 37) (.tmp 42) 58 rfl 24 j0 _ 6 64 Try.underlying58 hji hj0 hj1' hj2 rfl (by decide) rfl HS6 rfl HS6.rd1 (cells_oneAd r) hb3 hb4 E4.out E2.out ?_); intro Q' cq' w6 HS7 hsz7)
        go_roundw
        case rel => exact ⟨k + 1, cb', cq', B', Q', by omega, by go_num, by rw [HB.out], by rw [HQ.out], by rw [HB.out, HX.out, HQ.out]; exact HS7.sel 4 [2, 0]⟩
        case measure => simp [intOf]; omega
      · have he' : (r.err == 0) = false := beq_eq_false_iff_ne.2 he
        have e1 : Adf rs (k + 1) = Adf rs k := by rw [HF.out, if_neg he, List.append_nil]
        have E1 := hid e1
        clear e1 he
        generalize r.err = E at he' ⊢
        go_wp2
        go_roundw
        case rel => exact ⟨k + 1, cb, cq, B, Q, by omega, by go_num, by rw [E1.out], by rw [E1.out], by rw [E1.out]; exact HS4.drop⟩
        case measure => simp [intOf]; omega
    · obtain rfl : n0 = k := by omega
      have hfl2 : rs.length = n0 := HLENAd.out
      go_wp2_with fail
      refine (comes_Ad (rs := Adf rs _) HS1 HR2.out HW2.out HR3.out HW3.out (fun r hr => ⟨HGAd.out r (Adf_mem hr).1, (Adf_mem hr).2⟩) (by omega) hn2' hn3' (by omega) (Ads_byt fun r _ => r.bytes_byt)).mono ?_
      rintro e w9 ⟨rfl, HS9⟩
      go_wp2
      go_loopw [9, 14, 15] (fun b a i wr => ∃ (k cb cq : Nat) (B Q : Option Addr), k ≤ n1 ∧ i = .int .i64 k ∧ b = .slice B (Ans (Anf ps k)).length cb ∧ a = .slice Q (Anf ps k).length cq ∧
        Sep w wr (fun _ => False) (own 5 1 B (Ans (Anf ps k)).length cb (by8 (Ans (Anf ps k))) :: own 45 4 Q (Anf ps k).length cq ((Anf ps k).flatMap An.cells) :: [])) (fun _ _ i _ => n1 - (intOf i).toNat)
      case atStart => exact ⟨0, 0, 0, none, none, Nat.zero_le _, rfl, rfl, rfl, by simpa [Anf, Ans, kv] using (HS9.nil 45 4).nil 5 1⟩
      case round =>
        obtain ⟨k, cb, cq, B, Q, hk, rfl, rfl, rfl, HS1⟩ := hrel
        have hsl := Ans_len ps k
        have hsl1 := Ans_len ps (k + 1)
        have hfl := Anf_len ps k
        rw [HLENAn.out] at hfl
        by_cases hlt : k < n1
        · have hlt' : k < ps.length := by rw [HLENAn.out]; exact hlt
          have hr0 : ps[k]? = some ps[k] := List.getElem?_eq_getElem hlt'
          have hmem := List.getElem_mem hlt'
          generalize ps[k] = r at hr0 hmem
          have hgood := HGAn.out r hmem
          have HRD := hid (fun L => Rb.came (L := L) hgood.2.2.2.2.1)
          have hvl : (r.vs.length : Int) ≤ 1048576 := by have := hgood.2.2.2.2.2; omega
          have HF := hid (Anf_succ hr0)
          obtain ⟨ad, rfl, _, hcc⟩ := HMAn.out.2 (by omega)
          have hce : ∀ i v, r.cells[i]? = some v → i < 4 → cellH w.heap ((ad.add (k * 4)).add i) = some v := by
            intro i v hv hi
            rw [add_add]
            refine hcc _ _ ?_
            rw [flat_get An.cells 4 An.cells_len _ _ _ hi, hr0]
            exact hv
          have hce' : ∀ i v, r.cells[i]? = some v → i < 4 → 0 < i → cellH w.heap ⟨(ad.add (k * 4)).block, (ad.add (k * 4)).off + i, none⟩ = some v := by
            intro i v hv hi h0
            have := hce i v hv hi
            rwa [show (ad.add (k * 4)).add i = ⟨(ad.add (k * 4)).block, (ad.add (k * 4)).off + i, none⟩ by unfold Addr.add; rw [if_neg (show ¬ i = 0 by omega)]] at this
          have x0 : wr.cell? (ad.add (k * 4)) = some (.int .u64 r.ck) := HS1.cell_old (hce 0 _ rfl (by decide))
          have x1 : wr.cell? ⟨(ad.add (k * 4)).block, (ad.add (k * 4)).off + 1, none⟩ = some (.int .u32 r.er) := HS1.cell_old (hce' 1 _ rfl (by decide) (by decide))
          have x2 : wr.cell? ⟨(ad.add (k * 4)).block, (ad.add (k * 4)).off + 2, none⟩ = some (.int .u64 r.id) := HS1.cell_old (hce' 2 _ rfl (by decide) (by decide))
          have x3 : wr.cell? ⟨(ad.add (k * 4)).block, (ad.add (k * 4)).off + 3, none⟩ = some (.slice r.A r.vs.length r.c) := HS1.cell_old (hce' 3 _ rfl (by decide) (by decide))
          have hj1 : (k : Int) < n1 := by omega
          have HPUT := hid (An.put_calls (r := r) HS1 (HRD.out _) ⟨_, hgood⟩)
          have HGD := hid hgood
          clear hgood
          go_wp2_with fail
          refine HPUT.out.mono ?_
          rintro e w4 ⟨P, pc, rfl, HS4⟩
          clear HPUT
          by_cases he : r.err = 0
          · have ho : r.out = r.bytes := by unfold An.out; rw [if_pos he]
            rw [he]
            rw [ho] at HS4 ⊢
            have e1 : Ans (Anf ps k) ++ r.bytes = Ans (Anf ps (k + 1)) := by rw [HF.out, if_pos he, Ans_app, Ans_one]
            have e2 : (Anf ps k).flatMap An.cells ++ r.cells = (Anf ps (k + 1)).flatMap An.cells := by rw [HF.out, if_pos he, List.flatMap_append]; simp
            have e3 : (Ans (Anf ps k)).length + r.bytes.length = (Ans (Anf ps (k + 1))).length := by rw [← e1, List.length_append]
            have e4 : (Anf ps k).length + 1 = (Anf ps (k + 1)).length := by rw [HF.out, if_pos he]; simp
            have E1 := hid e1
            have E2 := hid e2
            have E3 := hid e3
            have E4 := hid e4
            have hb1 : (Ans (Anf ps k)).length + r.bytes.length ≤ maxLen := by simp only [maxLen]; omega
            have hb2 : ((Ans (Anf ps k)).length + r.bytes.length) * 1 ≤ 140737488355328 := by omega
            have hb3 : (Anf ps k).length + 1 ≤ maxLen := by simp only [maxLen]; omega
            have hb4 : ((Anf ps k).length + 1) * 48 ≤ 140737488355328 := by omega
            clear e1 e2 e3 e4 he ho x0 x1 x2 x3 hsl hsl1 hfl
            generalize hB : Ans (Anf ps (k + 1)) = sb1 at *
            generalize hX : (Anf ps (k + 1)).flatMap An.cells = xs1 at *
            generalize hQ : (Anf ps (k + 1)).length = nq1 at *
            generalize Ans (Anf ps k) = sb at *
            generalize (Anf ps k).flatMap An.cells = xs0 at *
            generalize (Anf ps k).length = nq0 at *
            generalize r.bytes = rb at *
            have HB := hid hB
            have HX := hid hX
            have HQ := hid hQ
            clear hB hX hQ
            go_upto_region 20 with (at_builtin; go_loud (refine wpList_append_sep rfl (.tmp 66) (.tmp 67) 25 rfl 5 i0 _ 1 1 Try.underlying25 hi0 hz0 hz1 hz2 rfl (by decide) rfl HS4.up1 rfl HS4.up1.rd1 (kv_one _ _) hb1 hb2 E3.out ((by8_append _ _).trans (congrArg by8 E1.out)) ?_); intro B' cb' w5 HS5 hsz5)
            have x0 : w5.cell? (ad.add (k * 4)) = some (.int .u64 r.ck) := HS5.cell_old (hce 0 _ rfl (by decide))
            have x1 : w5.cell? ⟨(ad.add (k * 4)).block, (ad.add (k * 4)).off + 1, none⟩ = some (.int .u32 r.er) := HS5.cell_old (hce' 1 _ rfl (by decide) (by decide))
            have x2 : w5.cell? ⟨(ad.add (k * 4)).block, (ad.add (k * 4)).off + 2, none⟩ = some (.int .u64 r.id) := HS5.cell_old (hce' 2 _ rfl (by decide) (by decide))
            have x3 : w5.cell? ⟨(ad.add (k * 4)).block, (ad.add (k * 4)).off + 3, none⟩ = some (.slice r.A r.vs.length r.c) := HS5.cell_old (hce' 3 _ rfl (by decide) (by decide))
            have HS6 := (HS5.lit #[.int .u64 r.ck, .int .u32 r.er, .int .u64 r.id, .slice r.A r.vs.length r.c] 45 4 1 rfl (by decide)).up3
            clear HS4
            go_wp2_with (at_builtin; go_loud (refine wpList_append_sep rfl (.tmp 69) (.tmp 74) 59 rfl 45 k0 _ 4 48 Try.underlying59 hki hk0 hk1' hk2 rfl (by decide) rfl HS6 rfl HS6.rd1 (cells_oneAn r) hb3 hb4 E4.out E2.out ?_); intro Q' cq' w6 HS7 hsz7)
            go_roundw
            case rel => exact ⟨k + 1, cb', cq', B', Q', by omega, by go_num, by rw [HB.out], by rw [HQ.out], by rw [HB.out, HX.out, HQ.out]; exact HS7.sel 4 [2, 0]⟩
            case measure => simp [intOf]; omega
          · have he' : (r.err == 0) = false := beq_eq_false_iff_ne.2 he
            have e1 : Anf ps (k + 1) = Anf ps k := by rw [HF.out, if_neg he, List.append_nil]
            have E1 := hid e1
            clear e1 he
            generalize r.err = E at he' ⊢
            go_wp2
            go_roundw
            case rel => exact ⟨k + 1, cb, cq, B, Q, by omega, by go_num, by rw [E1.out], by rw [E1.out], by rw [E1.out]; exact HS4.drop⟩
            case measure => simp [intOf]; omega
        · obtain rfl : n1 = k := by omega
          have hfl3 : ps.length = n1 := HLENAn.out
          go_wp2_with fail
          refine (comes_An (rs := Anf ps _) HS1 HR2.out HW2.out HR3.out HW3.out (fun r hr => ⟨HGAn.out r (Anf_mem hr).1, (Anf_mem hr).2⟩) (by omega) hn2' hn3' (by omega) (Ans_byt fun r _ => r.bytes_byt)).mono ?_
          rintro e w19 ⟨rfl, HS19⟩
          go_wp2_with fail
          refine (wakes_calls HS19).mono ?_
          rintro e w20 ⟨rfl, HS20⟩
          go_wp2
          go_ret
          exact ⟨rfl, HS20.below⟩
end Go.Proofs.Ytankfmfenbhkgaa
