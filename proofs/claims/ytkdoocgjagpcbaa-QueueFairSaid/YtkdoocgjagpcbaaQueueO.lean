/-
  A queue's Add.
-/
import Derived.Test.YtkdoocgjagpcbaaQueueN
import Derived.Deep.CutBlock
import Derived.Deep.DeepCutAuto
namespace Go.Proofs.Ytkdoocgjagpcbaa
open Go.RowKit
set_option linter.unusedVariables false
set_option linter.unusedSimpArgs false
section
variable {w0 w : World} {O : Nat → Prop} {L : List Asr} {g b : Nat} {q : Qu}
theorem ofL_ins (S : List Hd) (x : Hd) {k : Nat} (hk : k < 8) (hx : x.flow = k) : (ofL S).set k (cntF S k + 1) = ofL (insH x S) := by
  have e : ∀ f : Int, cntF (insH x S) f = cntF S f + if x.flow = f then 1 else 0 := fun f => by rw [cntF_perm (insH_perm x S), cntF_cons]
  unfold ofL
  simp only [e, hx]
  rcases (show k = 0 ∨ k = 1 ∨ k = 2 ∨ k = 3 ∨ k = 4 ∨ k = 5 ∨ k = 6 ∨ k = 7 by omega) with rfl | rfl | rfl | rfl | rfl | rfl | rfl | rfl <;> simp

set_option maxHeartbeats 2000000 in
set_option maxRecDepth 10000 in
theorem qadd_calls {f c id : Int} (HS : Sep w0 w O (quA g b q :: L)) (hb : b ≤ 8000000000000) : Calls Try.prog 9 #[.pointer (some ⟨g, 0, none⟩), .int .i64 f, .int .i64 c, .int .u64 id] w fun e w' => e = .returned (.int .i64 (adE q f c)) ∧ Sep w0 w' O (quA g (b + 1) (adQ q f c id) :: L) := by
  have hN := none_qu HS
  obtain ⟨hok, xs, A, cc, h2, h3, h4, H⟩ := HS.unqu
  have HMORE := hid (fun (W : World) (X : List Asr) (h : Sep w0 W O (own 65 5 A xs.length cc (hv xs) :: blk g 61 (qc q.time q.n q.last (ofL q.S) (.slice A xs.length cc)) :: X)) => Sep.qued (b := b + 1) (A := A) (c := cc) (o := ofL q.S) (hok.more (Nat.le_succ _)) h2 h3 rfl rfl h)
  have HOK := hid hok
  have HH := hid h2
  have HP := hid h3
  by_cases hbad : f < 0 ∨ 8 ≤ f ∨ c < 1 ∨ 1048576 < c
  · have e1 : adE q f c = 1 := by unfold adE; rw [if_pos hbad]
    have e2 : adQ q f c id = q := by unfold adQ; rw [if_neg (by rw [e1]; decide)]
    rw [e1, e2]
    have HB := hid hbad
    clear e1 e2 h2 h3 hok HS hbad
    have K := HMORE.out _ _ H
    by_cases h0 : f < 0
    · go_enter Try.func9, Try.ntmps9
      go_wp2_with fail
      refine hN.mono ?_
      rintro e w' ⟨rfl, rfl⟩
      go_wp2
      go_ret
      exact ⟨rfl, K⟩
    · by_cases h1 : 8 ≤ f
      · go_enter Try.func9, Try.ntmps9
        go_wp2_with fail
        refine hN.mono ?_
        rintro e w' ⟨rfl, rfl⟩
        go_wp2
        go_ret
        exact ⟨rfl, K⟩
      · by_cases h5 : c < 1
        · go_enter Try.func9, Try.ntmps9
          go_wp2_with fail
          refine hN.mono ?_
          rintro e w' ⟨rfl, rfl⟩
          go_wp2
          go_ret
          exact ⟨rfl, K⟩
        · have h6 : 1048576 < c := by have := HB.out; omega
          go_enter Try.func9, Try.ntmps9
          go_wp2_with fail
          refine hN.mono ?_
          rintro e w' ⟨rfl, rfl⟩
          go_wp2
          go_ret
          exact ⟨rfl, K⟩
  · obtain ⟨k, rfl⟩ := Int.eq_ofNat_of_zero_le (show 0 ≤ f by omega)
    have hk : k < 8 := by omega
    have hk0 : ¬ (k : Int) < 0 := by omega
    have hk1 : (k : Int) < 8 := by omega
    have hk2 : ¬ (8 : Int) ≤ k := by omega
    have hc1 : ¬ c < 1 := by omega
    have hc2 : ¬ 1048576 < c := by omega
    have bk := H.up1.blkAt (11 + k) (qc_o hok.len (ofL_len _) hk)
    rw [ofL_get _ hk] at bk
    by_cases h16 : 16 ≤ cntF q.S k
    · have e1 : adE q k c = 8 := by unfold adE; rw [if_neg hbad, if_pos h16]
      have e2 : adQ q k c id = q := by unfold adQ; rw [if_neg (by rw [e1]; decide)]
      rw [e1, e2]
      have h16i : (16 : Int) ≤ cntF q.S k := by omega
      generalize cntF q.S k = m at *
      clear e1 e2 h2 h3 hok HS hbad
      have K := HMORE.out _ _ H
      go_enter Try.func9, Try.ntmps9
      go_wp2_with fail
      refine hN.mono ?_
      rintro e w' ⟨rfl, rfl⟩
      go_wp2
      go_ret
      exact ⟨rfl, K⟩
    · have e1 : adE q k c = 0 := by unfold adE; rw [if_neg hbad, if_neg h16]
      have e2 : adQ q k c id = ⟨q.time, q.n + 1, q.last.set k (adTag q k c), insH ⟨k, c, id, adTag q k c, q.n + 1⟩ q.S⟩ := by unfold adQ; rw [if_pos e1, Int.toNat_natCast]
      have HQ2 := hid (adQ_ok hok k c id)
      rw [e1, e2]
      rw [e2] at HQ2
      have h16i : ¬ (16 : Int) ≤ cntF q.S k := by omega
      obtain ⟨m, hm⟩ : ∃ m, m = cntF q.S k := ⟨_, rfl⟩
      obtain ⟨tg, htg⟩ : ∃ tg, tg = adTag q k c := ⟨_, rfl⟩
      have htb := adTag_bd hok (f := (k : Int)) (c := c) ⟨by omega, by omega⟩ ⟨by omega, by omega⟩
      rw [← htg] at htb HQ2 ⊢
      rw [← hm] at bk h16i
      have hmb : m ≤ 16 := by omega
      obtain ⟨la, hla⟩ : ∃ la, la = gat q.last k := ⟨_, rfl⟩
      have htg2 : tg = max q.time la + c := by rw [htg]; unfold adTag; rw [Int.toNat_natCast, hla]
      have HT2 := hid htg2
      have hn0 := hok.n0
      have wn : IntKind.i64.wrap (q.n + 1) = q.n + 1 := by rw [IntKind.wrap_i64]; omega
      have wm : IntKind.i64.wrap ((m : Int) + 1) = (m : Int) + 1 := by rw [IntKind.wrap_i64]; omega
      have wt1 : q.time < la → IntKind.i64.wrap (la + c) = tg := fun h => by rw [IntKind.wrap_i64]; omega
      have wt2 : ¬ q.time < la → IntKind.i64.wrap (q.time + c) = tg := fun h => by rw [IntKind.wrap_i64]; omega
      have WT1 := hid wt1
      have WT2 := hid wt2
      clear wt1 wt2
      have b2 := H.up1.blkAt (v := .int .i64 q.n) 2 rfl
      have z2 := H.up1.blk_frozen 2
      have H1 := H.up1.blk_set 2 (.int .i64 (q.n + 1))
      rw [qc_sn] at H1
      obtain ⟨w1, hw1⟩ : ∃ w1, w1 = w.setCell ⟨g, 2, none⟩ (.int .i64 (q.n + 1)) := ⟨_, rfl⟩
      rw [← hw1] at H1
      have HW1 := hid hw1
      have HM := hid hm
      have HLA := hid hla
      clear e1 e2 h2 h3 hok HS hbad hw1 htg2 hm hla htg h16
      go_enter Try.func9, Try.ntmps9
      go_wp2_with fail
      refine hN.mono ?_
      rintro e w' ⟨rfl, rfl⟩
      go_upto_region 8 with (fail)
      rw [← HW1.out]
      clear b2 z2 bk H
      have c1 := H1.blkAt (v := .int .i64 q.time) 1 rfl
      have ck := H1.blkAt (3 + k) (qc_l HOK.out.len hk)
      rw [← HLA.out] at ck
      have zk := H1.blk_frozen (3 + k)
      have zkd := H1.drew.blk_frozen (3 + k)
      have H2 := H1.blk_set (3 + k) (.int .i64 tg)
      rw [qc_sl HOK.out.len hk] at H2
      go_cut [8] (fun v wx => v = .int .i64 0 ∧ Sep w0 wx O (blk g 61 (qc q.time (q.n + 1) (q.last.set k tg) (ofL q.S) (.slice A xs.length cc)) :: own 65 5 A xs.length cc (hv xs) :: L))
      case first =>
        by_cases hlt : q.time < la
        · have wt := WT1.out (by omega)
          go_region_law (fail)
          all_goals
            go_wp2
            go_meet
            case rel => exact ⟨rfl, H2.drew⟩
        · have wt := WT2.out (by omega)
          go_region_law (fail)
          all_goals
            go_wp2
            go_meet
            case rel => exact ⟨rfl, H2.drew⟩
      case rest =>
        obtain ⟨rfl, H3⟩ := hcut
        have hll : (q.last.set k tg).length = 8 := by rw [List.length_set]; exact HOK.out.len
        have HLL := hid hll
        clear H1 H2 c1 ck zk zkd
        have ck := H3.blkAt (11 + k) (qc_o hll (ofL_len _) hk)
        rw [ofL_get _ hk, ← HM.out] at ck
        have zk := H3.blk_frozen (11 + k)
        have zkd := H3.drew.blk_frozen (11 + k)
        have H4 := H3.blk_set (11 + k) (.int .i64 ((m : Int) + 1))
        rw [qc_so hll (ofL_len _) hk] at H4
        clear hll
        go_upto_region 9 with (fail)
        go_cut [8] (fun v wx => v = .int .i64 0 ∧ Sep w0 wx O (blk g 61 (qc q.time (q.n + 1) (q.last.set k tg) ((ofL q.S).set k ((m : Int) + 1)) (.slice A xs.length cc)) :: own 65 5 A xs.length cc (hv xs) :: L))
        case first =>
          go_region_law (fail)
          all_goals
            go_wp2
            go_meet
            case rel => exact ⟨rfl, H4.drew⟩
        case rest =>
          obtain ⟨rfl, H5⟩ := hcut
          clear H3 H4 ck zk zkd
          have hoo : ((ofL q.S).set k ((m : Int) + 1)).length = 8 := by rw [List.length_set]; rfl
          have HOO := hid hoo
          have c3 := H5.blkAt (3 + k) (qc_l HLL.out hk)
          have hg : gat (q.last.set k tg) k = tg := by
            unfold gat
            rw [List.getElem?_set, if_pos rfl, if_pos (by rw [HOK.out.len]; exact hk)]
            rfl
          rw [hg] at c3
          have c2 := H5.blkAt (v := .int .i64 (q.n + 1)) 2 rfl
          have H6 : Sep w0 wc O (heapB g 19 61 (qc q.time (q.n + 1) (q.last.set k tg) ((ofL q.S).set k ((m : Int) + 1)) (.slice none 0 0)) xs :: L) := by
            refine Sep.heapedB (A := A) (c := cc) ?_
            rw [qc_sv HLL.out HOO.out]
            exact H5.up1
          have ho : 19 < (qc q.time (q.n + 1) (q.last.set k tg) ((ofL q.S).set k ((m : Int) + 1)) (.slice none 0 0)).size := by rw [qc_size HLL.out HOO.out]; decide
          have hpu := heappush_calls (hmethB w0 O g 19 61 _ ho) (hmethBP w0 O g 19 61 _ ho) (x := (⟨k, c, id, tg, q.n + 1⟩ : Hd)) H6.drew (by omega)
          have hpu2 : Calls Try.prog 26 #[.iface 63 (.pointer (some ⟨g, 19, none⟩)), .iface 65 (.agg #[.int .i64 k, .int .i64 c, .int .u64 id, .int .i64 tg, .int .i64 (q.n + 1)])] wc.drew fun e w' => e = .returned (.tuple #[]) ∧ Sep w0 w' O (heapB g 19 61 (qc q.time (q.n + 1) (q.last.set k tg) ((ofL q.S).set k ((m : Int) + 1)) (.slice none 0 0)) (upL ltH xs.length (xs ++ [⟨k, c, id, tg, q.n + 1⟩]) xs.length) :: L) := hpu
          have HPU := hid hpu2
          clear hpu hpu2 H6 hoo ho hg
          go_upto_region 10 with (fail)
          go_region_law (first | (go_simp; go_at_call 26; refine HPU.out.mono ?_; rintro e w9 ⟨rfl, H9⟩))
          all_goals
            go_wp2
            go_ret
            have hpo := push_ok ltH_ordr (l := xs) (x := (⟨k, c, id, tg, q.n + 1⟩ : Hd)) HH.out
            refine ⟨rfl, Sep.ex _ (Sep.with_ ⟨HQ2.out, by rw [hpo.2.2]; exact hpo.1, ?_⟩ (?_ : Sep w0 w9 O (heapB g 19 61 (qc q.time (q.n + 1) (q.last.set k tg) (ofL (insH ⟨k, c, id, tg, q.n + 1⟩ q.S)) (.slice none 0 0)) (upL ltH xs.length (xs ++ [⟨k, c, id, tg, q.n + 1⟩]) xs.length) :: L)))⟩
            · exact hpo.2.1.trans ((List.perm_append_comm (l₁ := xs) (l₂ := [_])).trans ((HP.out.cons _).trans (insH_perm _ _).symm))
            · rw [← ofL_ins q.S ⟨k, c, id, tg, q.n + 1⟩ hk rfl, ← HM.out]
              exact H9
end
end Go.Proofs.Ytkdoocgjagpcbaa
