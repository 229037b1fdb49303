/-
  The walk of RequestParts (the bounded form).
-/
import Derived.Test.YtbfcnbggkcaolaaComesRq
import Derived.Test.YtbfcnbggkcaolaaComesRr
import Derived.Test.YtbfcnbggkcaolaaReqSel
namespace Go.Proofs.Ytbfcnbggkcaolaa
open Go.RowKit
set_option linter.unusedVariables false
set_option linter.unusedSimpArgs false

theorem Sep.cell_old {w0 w : World} {L : List Asr} (HS : Sep w0 w (fun _ => False) L) {a : Addr} {v : Value} (h : cellH w0.heap a = some v) : w.cell? a = some v :=
  (cellH_same (HS.old _ (cellH_lt h) (fun e => e))).trans h
theorem cells_oneRq (r : Rq) : ∀ u ∈ (#[.int .i64 r.fl, .int .i64 r.kd, .int .u64 r.ck, .int .u64 r.off, .int .u32 r.len, .slice r.A r.d.length r.c] : Array Value).toList, u.oneCell' = true := by
  intro u hu
  simp at hu
  rcases hu with rfl | rfl | rfl | rfl | rfl | rfl <;> rfl
theorem cells_oneRr (r : Rr) : ∀ u ∈ (#[.int .u32 r.er, .int .u64 r.ck, .slice r.A r.d.length r.c] : Array Value).toList, u.oneCell' = true := by
  intro u hu
  simp at hu
  rcases hu with rfl | rfl | rfl <;> rfl
theorem info_req6 : (Try.prog.info? 26).map (fun i => (i.zero, i.size, i.bytes)) = some (some (.agg #[.int .i64 0, .int .i64 0, .int .u64 0, .int .u64 0, .int .u32 0, .slice none 0 0]), 6, 64) := by kernel_rfl
theorem info_rep3 : (Try.prog.info? 51).map (fun i => (i.zero, i.size, i.bytes)) = some (some (.agg #[.int .u32 0, .int .u64 0, .slice none 0 0]), 3, 40) := by kernel_rfl

set_option maxHeartbeats 20000000 in
set_option maxRecDepth 100000 in
theorem requestParts_walk (A0 : Option Addr) (n0 c0 : Nat) (A1 : Option Addr) (n1 c1 : Nat) (A2 : Option Addr) (n2 c2 : Nat) (A3 : Option Addr) (n3 c3 : Nat) (x0 : Sh.V (.slice (.agg (.pair (.int .i64) (.pair (.int .i64) (.pair (.int .u64) (.pair (.int .u64) (.pair (.int .u32) (.pair (.slice (.int .u8) 1) .unit))))))) 64)) (x1 : Sh.V (.slice (.agg (.pair (.int .u32) (.pair (.int .u64) (.pair (.slice (.int .u8) 1) .unit)))) 40)) (x2 : Sh.V (.slice (.int .u16) 2)) (x3 : Sh.V (.slice (.int .u8) 1)) (w : World) (s0 : Sees w.heap (.slice (.agg (.pair (.int .i64) (.pair (.int .i64) (.pair (.int .u64) (.pair (.int .u64) (.pair (.int .u32) (.pair (.slice (.int .u8) 1) .unit))))))) 64) [.slice A0 n0 c0] x0) (s1 : Sees w.heap (.slice (.agg (.pair (.int .u32) (.pair (.int .u64) (.pair (.slice (.int .u8) 1) .unit)))) 40) [.slice A1 n1 c1] x1) (s2 : Sees w.heap (.slice (.int .u16) 2) [.slice A2 n2 c2] x2) (s3 : Sees w.heap (.slice (.int .u8) 1) [.slice A3 n3 c3] x3)
    (hsum : bulk (.slice (.agg (.pair (.int .i64) (.pair (.int .i64) (.pair (.int .u64) (.pair (.int .u64) (.pair (.int .u32) (.pair (.slice (.int .u8) 1) .unit))))))) 64) x0 + bulk (.slice (.agg (.pair (.int .u32) (.pair (.int .u64) (.pair (.slice (.int .u8) 1) .unit)))) 40) x1 + bulk (.slice (.int .u16) 2) x2 + bulk (.slice (.int .u8) 1) x3 ≤ 1048576) :
    Calls Try.prog 8 #[.slice A0 n0 c0, .slice A1 n1 c1, .slice A2 n2 c2, .slice A3 n3 c3] w fun e w' => e = .returned (.bool true) ∧ Below w.heap.size w w' := by
  obtain ⟨i0, hi0, hz0, hz1, hz2⟩ := info_parts info_u8
  obtain ⟨j0, hji, hj0, hj1', hj2⟩ := info_parts info_req6
  obtain ⟨k0, hki, hk0, hk1', hk2⟩ := info_parts info_rep3
  obtain ⟨hc0, rs, hl0, hg0, hs0, hn0, hm0⟩ := sees_Rqs s0 (by omega)
  obtain ⟨hc1, ps, hl1, hg1, hs1, hn1, hm1⟩ := sees_Rrs s1 (by omega)
  obtain ⟨hn2, hr2, _, _, hw2⟩ := sees_ints s2
  obtain ⟨hn3, hr3, _, _, hw3⟩ := sees_ints s3
  have b2 : bulk (.slice (.int .u16) 2) x2 = List.length x2 + 1 := by show (List.map (bulk (.int .u16)) x2).sum + 1 = _; rw [bulk_ints]
  have b3 : bulk (.slice (.int .u8) 1) x3 = List.length x3 + 1 := by show (List.map (bulk (.int .u8)) x3).sum + 1 = _; rw [bulk_ints]
  have hn2' : n2 ≤ 1048576 := by omega
  have hn3' : n3 ≤ 1048576 := by omega
  have HLENRq := hid hl0
  have HLENRr := hid hl1
  have HGRq := hid hg0
  have HGRr := hid hg1
  have HMRq := hid hm0
  have HMRr := hid hm1
  have HR2 := hid (fun L => Rb.came (L := L) hr2)
  have HR3 := hid (fun L => Rb.came (L := L) hr3)
  have HW2 : Aside (∀ x ∈ (show List Int from x2), 0 ≤ x ∧ x ≤ 65535) := ⟨fun x hx => bounds_u16 (hw2 x hx)⟩
  have HW3 := hid (kv_byt hw3)
  clear hl0 hl1 hg0 hg1 hm0 hm1 hr2 hr3 hw2 hw3 s0 s1 s2 s3 hsum b2 b3 hn2 hn3
  have HS := Sep.start w
  go_enter Try.func8, Try.ntmps8
  go_wp2
  go_loopw [9, 10, 11] (fun b a i wr => ∃ (k cb cq : Nat) (B Q : Option Addr), k ≤ n0 ∧ i = .int .i64 k ∧ b = .slice B (Rqs (Rqf rs k)).length cb ∧ a = .slice Q (Rqf rs k).length cq ∧
    Sep w wr (fun _ => False) (own 5 1 B (Rqs (Rqf rs k)).length cb (by8 (Rqs (Rqf rs k))) :: own 26 6 Q (Rqf rs k).length cq ((Rqf rs k).flatMap Rq.cells) :: [])) (fun _ _ i _ => n0 - (intOf i).toNat)
  case atStart => exact ⟨0, 0, 0, none, none, Nat.zero_le _, rfl, rfl, rfl, by simpa [Rqf, Rqs, kv] using (HS.nil 26 6).nil 5 1⟩
  case round =>
    obtain ⟨k, cb, cq, B, Q, hk, rfl, rfl, rfl, HS1⟩ := hrel
    have hsl := Rqs_len rs k
    have hfl := Rqf_len rs k
    rw [HLENRq.out] at hfl
    by_cases hlt : k < n0
    · have hlt' : k < rs.length := by rw [HLENRq.out]; exact hlt
      have hr0 : rs[k]? = some rs[k] := List.getElem?_eq_getElem hlt'
      have hmem := List.getElem_mem hlt'
      generalize rs[k] = r at hr0 hmem
      have hgood := HGRq.out r hmem
      obtain ⟨f1, f2, f3, f4, f5, f6, f7, f8, f9, f10⟩ := hgood.1
      have hdl := hgood.2.2.2.2
      have HRD := hid (fun L => Rb.came (L := L) hgood.2.1)
      have HF := hid (Rqf_succ hr0)
      obtain ⟨ad, rfl, _, hcc⟩ := HMRq.out.2 (by omega)
      have hce : ∀ i v, r.cells[i]? = some v → i < 6 → cellH w.heap ((ad.add (k * 6)).add i) = some v := by
        intro i v hv hi
        rw [add_add]
        refine hcc _ _ ?_
        rw [flat_get Rq.cells 6 Rq.cells_len _ _ _ hi, hr0]
        exact hv
      have hce' : ∀ i v, r.cells[i]? = some v → i < 6 → 0 < i → cellH w.heap ⟨(ad.add (k * 6)).block, (ad.add (k * 6)).off + i, none⟩ = some v := by
        intro i v hv hi h0
        have := hce i v hv hi
        rwa [show (ad.add (k * 6)).add i = ⟨(ad.add (k * 6)).block, (ad.add (k * 6)).off + i, none⟩ by unfold Addr.add; rw [if_neg (show ¬ i = 0 by omega)]] at this
      have x0 : wr.cell? (ad.add (k * 6)) = some (.int .i64 r.fl) := HS1.cell_old (hce 0 _ rfl (by decide))
      have x1 : wr.cell? ⟨(ad.add (k * 6)).block, (ad.add (k * 6)).off + 1, none⟩ = some (.int .i64 r.kd) := HS1.cell_old (hce' 1 _ rfl (by decide) (by decide))
      have x2 : wr.cell? ⟨(ad.add (k * 6)).block, (ad.add (k * 6)).off + 2, none⟩ = some (.int .u64 r.ck) := HS1.cell_old (hce' 2 _ rfl (by decide) (by decide))
      have x3 : wr.cell? ⟨(ad.add (k * 6)).block, (ad.add (k * 6)).off + 3, none⟩ = some (.int .u64 r.off) := HS1.cell_old (hce' 3 _ rfl (by decide) (by decide))
      have x4 : wr.cell? ⟨(ad.add (k * 6)).block, (ad.add (k * 6)).off + 4, none⟩ = some (.int .u32 r.len) := HS1.cell_old (hce' 4 _ rfl (by decide) (by decide))
      have x5 : wr.cell? ⟨(ad.add (k * 6)).block, (ad.add (k * 6)).off + 5, none⟩ = some (.slice r.A r.d.length r.c) := HS1.cell_old (hce' 5 _ rfl (by decide) (by decide))
      have hj1 : (k : Int) < n0 := by omega
      go_wp2_with fail
      refine (reqput_calls (fl := r.fl) (kd := r.kd) (ck := r.ck) (off := r.off) (len := r.len) (d := r.d) HS1 (HRD.out _) (by omega) f9 f10 f5 f6 f7 f8).mono ?_
      rintro e w4 ⟨P, pc, rfl, HS4⟩
      by_cases he : reqErr r.fl r.kd r.len r.d = 0
      · have ho : reqOut r.fl r.kd r.ck r.off r.len r.d = r.bytes := by unfold reqOut; rw [if_pos he]; rfl
        have hbl : r.bytes.length = 28 + r.d.length := reqBytes_len ..
        rw [he]
        rw [ho] at HS4 ⊢
        have he' : r.err = 0 := he
        have e1 : Rqs (Rqf rs k) ++ r.bytes = Rqs (Rqf rs (k + 1)) := by rw [HF.out, if_pos he', Rqs_app, Rqs_one]
        have e2 : (Rqf rs k).flatMap Rq.cells ++ r.cells = (Rqf rs (k + 1)).flatMap Rq.cells := by rw [HF.out, if_pos he', List.flatMap_append]; simp
        have e3 : (Rqs (Rqf rs k)).length + r.bytes.length = (Rqs (Rqf rs (k + 1))).length := by rw [← e1, List.length_append]
        have e4 : (Rqf rs k).length + 1 = (Rqf rs (k + 1)).length := by rw [HF.out, if_pos he']; simp
        have E1 := hid e1
        have E2 := hid e2
        have E3 := hid e3
        have E4 := hid e4
        have hb1 : (Rqs (Rqf rs k)).length + r.bytes.length ≤ maxLen := by simp only [maxLen]; omega
        have hb2 : ((Rqs (Rqf rs k)).length + r.bytes.length) * 1 ≤ 140737488355328 := by omega
        have hb3 : (Rqf rs k).length + 1 ≤ maxLen := by simp only [maxLen]; omega
        have hb4 : ((Rqf rs k).length + 1) * 64 ≤ 140737488355328 := by omega
        clear e1 e2 e3 e4 he he' ho x0 x1 x2 x3 x4 x5 hsl hfl hbl
        generalize hB : Rqs (Rqf rs (k + 1)) = sb1 at *
        generalize hX : (Rqf rs (k + 1)).flatMap Rq.cells = xs1 at *
        generalize hQ : (Rqf rs (k + 1)).length = nq1 at *
        generalize Rqs (Rqf rs k) = sb at *
        generalize (Rqf rs k).flatMap Rq.cells = xs0 at *
        generalize (Rqf rs k).length = nq0 at *
        generalize r.bytes = rb at *
        have HB := hid hB
        have HX := hid hX
        have HQ := hid hQ
        clear hB hX hQ
        go_upto_region 9 with (at_builtin; go_loud (refine wpList_append_sep rfl (.tmp 34) (.tmp 35) 24 rfl 5 i0 _ 1 1 Try.underlying24 hi0 hz0 hz1 hz2 rfl (by decide) rfl HS4.up1 rfl HS4.up1.rd1 (kv_one _ _) hb1 hb2 E3.out ((by8_append _ _).trans (congrArg by8 E1.out)) ?_); intro B' cb' w5 HS5 hsz5)
        have x0 : w5.cell? (ad.add (k * 6)) = some (.int .i64 r.fl) := HS5.cell_old (hce 0 _ rfl (by decide))
        have x1 : w5.cell? ⟨(ad.add (k * 6)).block, (ad.add (k * 6)).off + 1, none⟩ = some (.int .i64 r.kd) := HS5.cell_old (hce' 1 _ rfl (by decide) (by decide))
        have x2 : w5.cell? ⟨(ad.add (k * 6)).block, (ad.add (k * 6)).off + 2, none⟩ = some (.int .u64 r.ck) := HS5.cell_old (hce' 2 _ rfl (by decide) (by decide))
        have x3 : w5.cell? ⟨(ad.add (k * 6)).block, (ad.add (k * 6)).off + 3, none⟩ = some (.int .u64 r.off) := HS5.cell_old (hce' 3 _ rfl (by decide) (by decide))
        have x4 : w5.cell? ⟨(ad.add (k * 6)).block, (ad.add (k * 6)).off + 4, none⟩ = some (.int .u32 r.len) := HS5.cell_old (hce' 4 _ rfl (by decide) (by decide))
        have x5 : w5.cell? ⟨(ad.add (k * 6)).block, (ad.add (k * 6)).off + 5, none⟩ = some (.slice r.A r.d.length r.c) := HS5.cell_old (hce' 5 _ rfl (by decide) (by decide))
        have HS6 := (HS5.lit #[.int .i64 r.fl, .int .i64 r.kd, .int .u64 r.ck, .int .u64 r.off, .int .u32 r.len, .slice r.A r.d.length r.c] 26 6 1 rfl (by decide)).up3
        clear HS4
        go_wp2_with (at_builtin; go_loud (refine wpList_append_sep rfl (.tmp 37) (.tmp 42) 61 rfl 26 j0 _ 6 64 Try.underlying61 hji hj0 hj1' hj2 rfl (by decide) rfl HS6 rfl HS6.rd1 (cells_oneRq r) hb3 hb4 E4.out E2.out ?_); intro Q' cq' w6 HS7 hsz7)
        go_roundw
        case rel => exact ⟨k + 1, cb', cq', B', Q', by omega, by go_num, by rw [HB.out], by rw [HQ.out], by rw [HB.out, HX.out, HQ.out]; exact HS7.sel 4 [2, 0]⟩
        case measure => simp [intOf]; omega
      · have he' : (reqErr r.fl r.kd r.len r.d == 0) = false := beq_eq_false_iff_ne.2 he
        have e1 : Rqf rs (k + 1) = Rqf rs k := by rw [HF.out, if_neg (show ¬ r.err = 0 from he), List.append_nil]
        have E1 := hid e1
        clear e1 he
        generalize reqErr r.fl r.kd r.len r.d = E at he' ⊢
        go_wp2
        go_roundw
        case rel => exact ⟨k + 1, cb, cq, B, Q, by omega, by go_num, by rw [E1.out], by rw [E1.out], by rw [E1.out]; exact HS4.drop⟩
        case measure => simp [intOf]; omega
    · obtain rfl : n0 = k := by omega
      have hfl2 : rs.length = n0 := HLENRq.out
      go_wp2_with fail
      refine (comes_Rq (rs := Rqf rs _) HS1 HR2.out HW2.out HR3.out HW3.out (fun r hr => ⟨HGRq.out r (Rqf_mem hr).1, (Rqf_mem hr).2⟩) (by omega) hn2' hn3' (by omega) (Rqs_byt fun r hr => Rq.bytes_byt (HGRq.out r (Rqf_mem hr).1).2.2.1)).mono ?_
      rintro e w9 ⟨rfl, HS9⟩
      go_wp2
      go_loopw [9, 14, 15] (fun b a i wr => ∃ (k cb cq : Nat) (B Q : Option Addr), k ≤ n1 ∧ i = .int .i64 k ∧ b = .slice B (Rrs (Rrf ps k)).length cb ∧ a = .slice Q (Rrf ps k).length cq ∧
        Sep w wr (fun _ => False) (own 5 1 B (Rrs (Rrf ps k)).length cb (by8 (Rrs (Rrf ps k))) :: own 51 3 Q (Rrf ps k).length cq ((Rrf ps k).flatMap Rr.cells) :: [])) (fun _ _ i _ => n1 - (intOf i).toNat)
      case atStart => exact ⟨0, 0, 0, none, none, Nat.zero_le _, rfl, rfl, rfl, by simpa [Rrf, Rrs, kv] using (HS9.nil 51 3).nil 5 1⟩
      case round =>
        obtain ⟨k, cb, cq, B, Q, hk, rfl, rfl, rfl, HS1⟩ := hrel
        have hsl := Rrs_len ps k
        have hfl := Rrf_len ps k
        rw [HLENRr.out] at hfl
        by_cases hlt : k < n1
        · have hlt' : k < ps.length := by rw [HLENRr.out]; exact hlt
          have hr0 : ps[k]? = some ps[k] := List.getElem?_eq_getElem hlt'
          have hmem := List.getElem_mem hlt'
          generalize ps[k] = r at hr0 hmem
          have hgood := HGRr.out r hmem
          obtain ⟨f1, f2, f3, f4⟩ := hgood.1
          have hdl := hgood.2.2.2.2
          have HRD := hid (fun L => Rb.came (L := L) hgood.2.1)
          have HF := hid (Rrf_succ hr0)
          obtain ⟨ad, rfl, _, hcc⟩ := HMRr.out.2 (by omega)
          have hce : ∀ i v, r.cells[i]? = some v → i < 3 → cellH w.heap ((ad.add (k * 3)).add i) = some v := by
            intro i v hv hi
            rw [add_add]
            refine hcc _ _ ?_
            rw [flat_get Rr.cells 3 Rr.cells_len _ _ _ hi, hr0]
            exact hv
          have hce' : ∀ i v, r.cells[i]? = some v → i < 3 → 0 < i → cellH w.heap ⟨(ad.add (k * 3)).block, (ad.add (k * 3)).off + i, none⟩ = some v := by
            intro i v hv hi h0
            have := hce i v hv hi
            rwa [show (ad.add (k * 3)).add i = ⟨(ad.add (k * 3)).block, (ad.add (k * 3)).off + i, none⟩ by unfold Addr.add; rw [if_neg (show ¬ i = 0 by omega)]] at this
          have x0 : wr.cell? (ad.add (k * 3)) = some (.int .u32 r.er) := HS1.cell_old (hce 0 _ rfl (by decide))
          have x1 : wr.cell? ⟨(ad.add (k * 3)).block, (ad.add (k * 3)).off + 1, none⟩ = some (.int .u64 r.ck) := HS1.cell_old (hce' 1 _ rfl (by decide) (by decide))
          have x2 : wr.cell? ⟨(ad.add (k * 3)).block, (ad.add (k * 3)).off + 2, none⟩ = some (.slice r.A r.d.length r.c) := HS1.cell_old (hce' 2 _ rfl (by decide) (by decide))
          have hj1 : (k : Int) < n1 := by omega
          go_wp2_with fail
          refine (repput_calls (er := r.er) (ck := r.ck) (d := r.d) HS1 (HRD.out _) f1 f2 f3 f4).mono ?_
          rintro e w4 ⟨P, pc, rfl, HS4⟩
          by_cases he : repErr r.er r.d = 0
          · have ho : repOut r.er r.ck r.d = r.bytes := by unfold repOut; rw [if_pos he]; rfl
            have hbl : r.bytes.length = 16 + r.d.length := repBytes_len ..
            rw [he]
            rw [ho] at HS4 ⊢
            have he' : r.err = 0 := he
            have e1 : Rrs (Rrf ps k) ++ r.bytes = Rrs (Rrf ps (k + 1)) := by rw [HF.out, if_pos he', Rrs_app, Rrs_one]
            have e2 : (Rrf ps k).flatMap Rr.cells ++ r.cells = (Rrf ps (k + 1)).flatMap Rr.cells := by rw [HF.out, if_pos he', List.flatMap_append]; simp
            have e3 : (Rrs (Rrf ps k)).length + r.bytes.length = (Rrs (Rrf ps (k + 1))).length := by rw [← e1, List.length_append]
            have e4 : (Rrf ps k).length + 1 = (Rrf ps (k + 1)).length := by rw [HF.out, if_pos he']; simp
            have E1 := hid e1
            have E2 := hid e2
            have E3 := hid e3
            have E4 := hid e4
            have hb1 : (Rrs (Rrf ps k)).length + r.bytes.length ≤ maxLen := by simp only [maxLen]; omega
            have hb2 : ((Rrs (Rrf ps k)).length + r.bytes.length) * 1 ≤ 140737488355328 := by omega
            have hb3 : (Rrf ps k).length + 1 ≤ maxLen := by simp only [maxLen]; omega
            have hb4 : ((Rrf ps k).length + 1) * 40 ≤ 140737488355328 := by omega
            clear e1 e2 e3 e4 he he' ho x0 x1 x2 hsl hfl hbl
            generalize hB : Rrs (Rrf ps (k + 1)) = sb1 at *
            generalize hX : (Rrf ps (k + 1)).flatMap Rr.cells = xs1 at *
            generalize hQ : (Rrf ps (k + 1)).length = nq1 at *
            generalize Rrs (Rrf ps k) = sb at *
            generalize (Rrf ps k).flatMap Rr.cells = xs0 at *
            generalize (Rrf ps k).length = nq0 at *
            generalize r.bytes = rb at *
            have HB := hid hB
            have HX := hid hX
            have HQ := hid hQ
            clear hB hX hQ
            go_upto_region 20 with (at_builtin; go_loud (refine wpList_append_sep rfl (.tmp 66) (.tmp 67) 24 rfl 5 i0 _ 1 1 Try.underlying24 hi0 hz0 hz1 hz2 rfl (by decide) rfl HS4.up1 rfl HS4.up1.rd1 (kv_one _ _) hb1 hb2 E3.out ((by8_append _ _).trans (congrArg by8 E1.out)) ?_); intro B' cb' w5 HS5 hsz5)
            have x0 : w5.cell? (ad.add (k * 3)) = some (.int .u32 r.er) := HS5.cell_old (hce 0 _ rfl (by decide))
            have x1 : w5.cell? ⟨(ad.add (k * 3)).block, (ad.add (k * 3)).off + 1, none⟩ = some (.int .u64 r.ck) := HS5.cell_old (hce' 1 _ rfl (by decide) (by decide))
            have x2 : w5.cell? ⟨(ad.add (k * 3)).block, (ad.add (k * 3)).off + 2, none⟩ = some (.slice r.A r.d.length r.c) := HS5.cell_old (hce' 2 _ rfl (by decide) (by decide))
            have HS6 := (HS5.lit #[.int .u32 r.er, .int .u64 r.ck, .slice r.A r.d.length r.c] 51 3 1 rfl (by decide)).up3
            clear HS4
            go_wp2_with (at_builtin; go_loud (refine wpList_append_sep rfl (.tmp 69) (.tmp 74) 62 rfl 51 k0 _ 3 40 Try.underlying62 hki hk0 hk1' hk2 rfl (by decide) rfl HS6 rfl HS6.rd1 (cells_oneRr r) hb3 hb4 E4.out E2.out ?_); intro Q' cq' w6 HS7 hsz7)
            go_roundw
            case rel => exact ⟨k + 1, cb', cq', B', Q', by omega, by go_num, by rw [HB.out], by rw [HQ.out], by rw [HB.out, HX.out, HQ.out]; exact HS7.sel 4 [2, 0]⟩
            case measure => simp [intOf]; omega
          · have he' : (repErr r.er r.d == 0) = false := beq_eq_false_iff_ne.2 he
            have e1 : Rrf ps (k + 1) = Rrf ps k := by rw [HF.out, if_neg (show ¬ r.err = 0 from he), List.append_nil]
            have E1 := hid e1
            clear e1 he
            generalize repErr r.er r.d = E at he' ⊢
            go_wp2
            go_roundw
            case rel => exact ⟨k + 1, cb, cq, B, Q, by omega, by go_num, by rw [E1.out], by rw [E1.out], by rw [E1.out]; exact HS4.drop⟩
            case measure => simp [intOf]; omega
        · obtain rfl : n1 = k := by omega
          have hfl3 : ps.length = n1 := HLENRr.out
          go_wp2_with fail
          refine (comes_Rr (rs := Rrf ps _) HS1 HR2.out HW2.out HR3.out HW3.out (fun r hr => ⟨HGRr.out r (Rrf_mem hr).1, (Rrf_mem hr).2⟩) (by omega) hn2' hn3' (by omega) (Rrs_byt fun r hr => Rr.bytes_byt (HGRr.out r (Rrf_mem hr).1).2.2.1)).mono ?_
          rintro e w19 ⟨rfl, HS19⟩
          go_wp2_with fail
          refine (wakes_calls HS19).mono ?_
          rintro e w20 ⟨rfl, HS20⟩
          go_wp2
          go_ret
          exact ⟨rfl, HS20.below⟩
end Go.Proofs.Ytbfcnbggkcaolaa
