/-
  Contracts of cisternlaw24.comes, for commands and for answers.
-/
import Derived.Test.YtankfmfenbhkgaaAdmParts1
import Derived.Test.YtankfmfenbhkgaaLaw24
import Derived.Deep.DeepCutAuto
import Derived.Deep.RegionHeldLaw
import Derived.Deep.QuietTactic
import Derived.BigQuiet
namespace Go.Proofs.Ytankfmfenbhkgaa
open Go.RowKit
set_option linter.unusedVariables false
set_option linter.unusedSimpArgs false
theorem parts_join'Ad {l : List Int} {a o q : Nat} (ha : a ≤ l.length) (ho : o ≤ a) : (l.take a).drop o ++ (l.drop a).take q = (l.take (a + q)).drop o := by
  have hlen : (l.take a).length = a := by rw [List.length_take]; omega
  rw [List.take_add, List.drop_append, hlen, show o - a = 0 by omega, List.drop_zero]

section
variable {w0 w : World} {L : List Asr}

set_option maxHeartbeats 20000000 in
set_option maxRecDepth 100000 in
theorem comes_Ad {A Aq Ap Ab : Option Addr} {n c cq np cp nb cb : Nat} {rs : List Ad} {ps bh : List Int}
    (HS : Sep w0 w (fun _ => False) (own 5 1 A n c (by8 (Ads rs)) :: own 24 6 Aq rs.length cq (rs.flatMap Ad.cells) :: L))
    (hp : ∀ L, Rb w0 (fun _ => False) L 1 Ap np (kv .u8 ps)) (hps : ∀ x ∈ ps, 0 ≤ x ∧ x ≤ 255) (hbr : ∀ L, Rb w0 (fun _ => False) L 1 Ab nb (by8 bh)) (hbb : Byt bh)
    (hg : ∀ r ∈ rs, r.Good w0.heap ∧ r.err = 0) (hn : n ≤ 8388608) (hnp : np ≤ 1048576) (hnb : nb ≤ 1048576) (hrs : rs.length ≤ 1048576) (hbs : Byt (Ads rs)) :
    Calls Try.prog 23 #[.slice A n c, .slice Aq rs.length cq, .slice none 0 0, .slice Ap np cp, .slice Ab nb cb] w fun e w' => e = .returned (.bool true) ∧ Sep w0 w' (fun _ => False) L := by
  obtain ⟨i0, hi0, hz0, hz1, hz2⟩ := info_parts info_u8
  have hl := HS.klen
  have hlb : bh.length = nb := (hbr L).klen HS.drop.drop
  have hrd := (hbr (own 5 1 A n c (by8 (Ads rs)) :: own 24 6 Aq rs.length cq (rs.flatMap Ad.cells) :: L)).read HS
  have HP := hid hp
  have HPS := hid hps
  have HG := hid hg
  clear hp hps hg
  go_enter Try.func23, Try.ntmps23
  go_wp2_with (at_builtin; go_loud (refine wpList_append_sep rfl (.tmp 29) (.tmp 30) 25 rfl 5 i0 _ 1 1 Try.underlying25 hi0 hz0 hz1 hz2 rfl (by decide) rfl HS rfl hrd (kv_one _ _) (by simp only [maxLen]; omega) (by omega) rfl (by8_append _ _) ?_); intro B bc w1 HS1 hsz1)
  refine (new_calls HS1).mono ?_
  rintro e w2 ⟨g, rfl, HS2⟩
  have hbt : Byt (Ads rs ++ bh) := hbs.append hbb
  have htl : (Ads rs ++ bh).length = n + nb := by rw [List.length_append, hl, hlb]
  have hnl := Adn_le rs
  have hna := Adn_all rs
  rw [hl] at hnl hna
  have hle := own_le HS2.up1
  have HNL := hid hnl
  have HNA := hid hna
  have HTL := hid htl
  have HBT := hid hbt
  have HL := hid hl
  clear hnl hna htl hbt hl HS HS1 hrd hsz1
  go_wp2
  go_loopw [13, 14, 15] (fun n' a i wr => ∃ (j at_ q : Nat), i = .int .i64 j ∧ a = .int .i64 at_ ∧ n' = .int .i64 q ∧ at_ ≤ n + nb ∧ q ≤ rs.length ∧ Adn rs q ≤ at_ ∧ j ≤ np + 1 ∧ (np < j → at_ = n + nb ∧ q = rs.length) ∧
    Sep w0 wr (fun _ => False) (tape g (((Ads rs ++ bh).take at_).drop (Adn rs q)) :: own 5 1 B (n + nb) bc (by8 (Ads rs ++ bh)) :: own 24 6 Aq rs.length cq (rs.flatMap Ad.cells) :: L)) (fun _ _ i _ => np + 1 - (intOf i).toNat)
  case atStart => exact ⟨0, 0, 0, rfl, rfl, rfl, by omega, by omega, by rw [Adn_zero]; omega, by omega, by omega, by simpa using HS2⟩
  case round =>
    obtain ⟨j, at_, q, rfl, rfl, rfl, ha, hq, hc, hj, hfin, HS3⟩ := hrel
    clear HS2
    by_cases hjn : j ≤ np
    · clear hfin
      have hjn' : (j : Int) ≤ np := by omega
      go_upto_if 44 with (fail)
      go_cut [16] (fun v wx => ∃ t2 : Nat, at_ ≤ t2 ∧ t2 ≤ n + nb ∧ (np ≤ j → t2 = n + nb) ∧ v = .int .i64 t2 ∧ wx = wr)
      case first =>
        by_cases hp : j < np
        · obtain ⟨ad1, y1, rfl, _, hm1, hcell1⟩ := (HP.out _).elemn HS3 hp
          obtain ⟨hx1, hx1'⟩ := HPS.out y1 hm1
          clear hm1
          go_wp2
          all_goals
            go_meet
            case rel =>
              first
              | exact ⟨at_ + y1.toNat, by omega, by omega, by omega, by congr 1; omega, rfl⟩
              | exact ⟨n + nb, by omega, by omega, by omega, by first | rfl | (congr 1; omega), rfl⟩
        · go_wp2
          go_meet
          case rel => exact ⟨n + nb, by omega, by omega, by omega, by first | rfl | (congr 1; omega), rfl⟩
      case rest =>
        obtain ⟨t2, ht1, ht2, ht3, rfl, rfl⟩ := hcut
        have hpl : (Ads rs ++ bh).length = n + nb := HTL.out
        have HC := (Rb.i0 (w0 := w0) (O := fun _ => False) (L := own 24 6 Aq rs.length cq (rs.flatMap Ad.cells) :: L) (e := 5) (size := 1) (A := B) (n := n + nb) (k := bc) (xs := by8 (Ads rs ++ bh))).kcut (j := at_) (m := t2) (cap := bc) ht1 ht2 hle
        have HJ := parts_join'Ad (l := Ads rs ++ bh) (a := at_) (o := Adn rs q) (q := t2 - at_) (by omega) hc
        rw [show at_ + (t2 - at_) = t2 by omega] at HJ
        have HP' : Aside (∀ A' c', Rb w0 (fun _ => False) (own 5 1 B (n + nb) bc (by8 (Ads rs ++ bh)) :: own 24 6 Aq rs.length cq (rs.flatMap Ad.cells) :: L) 1 A' (t2 - at_) (by8 (((Ads rs ++ bh).drop at_).take (t2 - at_))) →
            Calls Try.prog 29 #[.pointer (some ⟨g, 0, none⟩), .slice A' (t2 - at_) c'] wc fun e w' => e = .returned (.tuple #[]) ∧ Sep w0 w' (fun _ => False) (tape g (((Ads rs ++ bh).take t2).drop (Adn rs q)) :: own 5 1 B (n + nb) bc (by8 (Ads rs ++ bh)) :: own 24 6 Aq rs.length cq (rs.flatMap Ad.cells) :: L)) := ⟨by
          intro A' c' hr'
          rw [← HJ]
          exact push_calls HS3 hr' (by rw [List.length_drop, List.length_take]; omega)⟩
        have HCC := hid HC
        have k1 : (0 : Int) ≤ at_ := by omega
        have k2 : (at_ : Int) ≤ t2 := by omega
        have k3 : (t2 : Int) ≤ bc := by omega
        clear HC HJ hpl HS3
        go_upto_region 11 with (fail)
        go_cut [59] (fun _ wx => Sep w0 wx (fun _ => False) (tape g (((Ads rs ++ bh).take t2).drop (Adn rs q)) :: own 5 1 B (n + nb) bc (by8 (Ads rs ++ bh)) :: own 24 6 Aq rs.length cq (rs.flatMap Ad.cells) :: L))
        case first =>
          rcases (show ¬ bc = at_ ∨ bc = at_ by omega) with hca | rfl
          all_goals
            have HC' := hid HCC.out
            first | rw [if_neg hca] at HC' | rw [if_pos rfl] at HC'
            clear HCC
          all_goals
            go_wp2_with fail
            refine (HP'.out _ _ HC'.out).mono ?_
            rintro e w4 ⟨rfl, HS4⟩
            clear HP' HC' k1 k2 k3
            go_wp2
            go_meet
            case rel => exact HS4
        case rest =>
          have HS4 := hcut
          clear hcut HP' HCC k1 k2 k3
          have hc2 : Adn rs q ≤ t2 := by omega
          go_wp2_with fail
          go_loopw [13] (fun n' wr => ∃ q' : Nat, n' = .int .i64 q' ∧ q' ≤ rs.length ∧ Adn rs q' ≤ t2 ∧
            Sep w0 wr (fun _ => False) (tape g (((Ads rs ++ bh).take t2).drop (Adn rs q')) :: own 5 1 B (n + nb) bc (by8 (Ads rs ++ bh)) :: own 24 6 Aq rs.length cq (rs.flatMap Ad.cells) :: L)) (fun n' _ => rs.length - (intOf n').toNat)
          case atStart => exact ⟨q, rfl, hq, hc2, HS4⟩
          case round =>
            obtain ⟨q', rfl, hq', hcq, HS5⟩ := hrel
            clear HS4 hc2
            have hrl : (rs.length : Int) ≤ 1048576 := by omega
            have hTl : (((Ads rs ++ bh).take t2).drop (Adn rs q')).length ≤ 140737488355328 := by
              have := HTL.out
              rw [List.length_drop, List.length_take]; omega
            by_cases hlt : q' < rs.length
            · obtain ⟨gq, rfl⟩ := (HS5.drop.drop).own_some (by omega)
              have hr0 : rs[q']? = some rs[q'] := List.getElem?_eq_getElem hlt
              have hmem := List.getElem_mem hlt
              generalize rs[q'] = r at hr0 hmem
              obtain ⟨hgood, herr⟩ := HG.out r hmem
              have hst := Ad_step (bh := bh) (a := t2) hr0 ⟨hgood, herr⟩ hcq (by have := HTL.out; omega)
              have HSUC := hid (Adn_succ hr0)
              have hj1 : (q' : Int) < rs.length := by omega
              have hj0 : (0 : Int) < rs.length := by omega
              have hcells : ∀ wx, Sep w0 wx (fun _ => False) (own 24 6 (some ⟨gq, 0, none⟩) rs.length cq (rs.flatMap Ad.cells) :: L) → ∀ i v, r.cells[i]? = some v → i < 6 → wx.cell? ⟨gq, q' * 6 + i, none⟩ = some v := by
                intro wx h i v hv hi
                have := (Rb.i0.read h).2 (by omega)
                obtain ⟨ad, hA, _, hcc⟩ := this
                injection hA with hA
                subst hA
                rw [← add_at]
                refine hcc _ _ ?_
                rw [flat_get Ad.cells 6 Ad.cells_len _ _ _ hi, hr0]
                exact hv
              have HCE := hid hcells
              clear hcells hgood herr hmem hr0
              have hTb : Byt (((Ads rs ++ bh).take t2).drop (Adn rs q')) := (HBT.out.take t2).drop _
              obtain ⟨T, hT⟩ : ∃ T, T = ((Ads rs ++ bh).take t2).drop (Adn rs q') := ⟨_, rfl⟩
              obtain ⟨T1, hT1⟩ : ∃ T1, T1 = ((Ads rs ++ bh).take t2).drop (Adn rs (q' + 1)) := ⟨_, rfl⟩
              rw [← hT] at HS5 hst hTl hTb
              rw [← hT1] at hst
              have HT := hid hT
              have HT1 := hid hT1
              have HTB := hid hTb
              clear hT hT1 hTb
              go_wp2_with fail
              refine (len_calls HS5).mono ?_
              rintro e w5 ⟨rfl, rfl⟩
              go_wp2_with fail
              have hz := admtake_calls HS5 HTB.out hTl
              rcases hst with ⟨hst1, hst2, hst3⟩ | ⟨hst1, hst2⟩
              · rw [hst2] at hz
                dsimp only [atkV] at hz
                rw [hst3] at hz
                refine hz.mono ?_
                clear hst2 hst3 hz
                rintro e w6 ⟨rfl, HS6⟩
                have HS7 := HS6.alloc (#[.int .i64 r.kd, .int .u64 r.ck, .string r.nm, .string r.au, .int .u64 r.size, .bool r.fixed]) 24
                obtain ⟨gx, hgx⟩ : ∃ gx, gx = w6.heap.size := ⟨_, rfl⟩
                go_upto_region 18 with (fail)
                obtain ⟨w7, hw7⟩ : ∃ w7, w7 = w6.alloc (.cells (#[.int .i64 r.kd, .int .u64 r.ck, .string r.nm, .string r.au, .int .u64 r.size, .bool r.fixed]) 24) := ⟨_, rfl⟩
                rw [← hgx, ← hw7] at HS7 ⊢
                clear hgx hw7 HS6
                have HS8 := HS7
                have p0 := HS7.blk_at 0 rfl
                have p1 := HS7.blk_at 1 rfl
                have p2 := HS7.blk_at 2 rfl
                have p3 := HS7.blk_at 3 rfl
                have p4 := HS7.blk_at 4 rfl
                have p5 := HS7.blk_at 5 rfl
                have y0 : w7.cell? ⟨gq, q' * 6, none⟩ = some (.int .i64 r.kd) := HCE.out _ (HS7.sel 3 []) 0 _ rfl (by decide)
                have y1 : w7.cell? ⟨gq, q' * 6 + 1, none⟩ = some (.int .u64 r.ck) := HCE.out _ (HS7.sel 3 []) 1 _ rfl (by decide)
                have y2 : w7.cell? ⟨gq, q' * 6 + 2, none⟩ = some (.string r.nm) := HCE.out _ (HS7.sel 3 []) 2 _ rfl (by decide)
                have y3 : w7.cell? ⟨gq, q' * 6 + 3, none⟩ = some (.string r.au) := HCE.out _ (HS7.sel 3 []) 3 _ rfl (by decide)
                have y4 : w7.cell? ⟨gq, q' * 6 + 4, none⟩ = some (.int .u64 r.size) := HCE.out _ (HS7.sel 3 []) 4 _ rfl (by decide)
                have y5 : w7.cell? ⟨gq, q' * 6 + 5, none⟩ = some (.bool r.fixed) := HCE.out _ (HS7.sel 3 []) 5 _ rfl (by decide)
                go_quiet (fail)
                go_wp2
                go_roundw
                case rel => exact ⟨q' + 1, by go_num, by omega, hst1, by rw [← HT1.out]; exact (HS7.drewN nq).drop⟩
                case measure => simp [intOf]; omega
              · rw [hst2] at hz
                replace hz : Calls Try.prog 12 #[.pointer (some ⟨g, 0, none⟩)] _ fun e w' => e = .returned (.tuple #[.agg zAdm, .bool false, .int .i64 0]) ∧ Sep w0 w' (fun _ => False) (Go.Proofs.Ytankfmfenbhkgaa.tape g T :: own 5 1 B (n + nb) bc (by8 (Ads rs ++ bh)) :: own 24 6 (some ⟨gq, 0, none⟩) rs.length cq (rs.flatMap Ad.cells) :: L) := hz
                refine hz.mono ?_
                clear hst2 hz
                rintro e w6 ⟨rfl, HS6⟩
                have HS7 := HS6
                go_upto_region 18 with (fail)
                go_quiet (fail)
                go_wp2_with fail
                refine (len_calls ((HS7.alloc_ _).drewN nq)).mono ?_
                rintro e w7 ⟨rfl, rfl⟩
                have hcn := HNL.out (q' + 1)
                rw [HT.out] at HS7
                go_wp2
                go_roundw
                case rel => exact ⟨j + 1, t2, q', by go_num, rfl, rfl, ht2, hq', hcq, by omega, fun h => by have := ht3 (by omega); omega, (HS7.alloc_ _).drewN nq⟩
                case measure => simp [intOf]; omega
            · obtain rfl : q' = rs.length := by omega
              go_wp2
              go_roundw
              case rel => exact ⟨j + 1, t2, rs.length, by go_num, rfl, rfl, ht2, Nat.le_refl _, hcq, by omega, fun h => ⟨ht3 (by omega), rfl⟩, HS5⟩
              case measure => simp [intOf]; omega
    · obtain ⟨h1, h2⟩ := hfin (by omega)
      subst h1
      subst h2
      have hjn' : ¬ (j : Int) ≤ np := by omega
      have hT : ((Ads rs ++ bh).take (n + nb)).drop (Adn rs rs.length) = bh := by rw [HNA.out, List.take_of_length_le (by rw [HTL.out]; exact Nat.le_refl _), List.drop_left' HL.out]
      rw [hT] at HS3
      clear hT hfin
      have hrl : (rs.length : Int) ≤ 1048576 := by omega
      go_wp2_with fail
      refine (len_calls HS3).mono ?_
      rintro e w4 ⟨rfl, rfl⟩
      rw [hlb]
      go_wp2_with fail
      have hall := askL_all false bh
      rw [hlb] at hall
      refine (peek_any (m := nb) HS3 (by omega)).mono ?_
      rintro e w5 ⟨R, rc, rfl, HS5⟩
      rw [hall.1]
      rw [hall.2] at HS5 ⊢
      rw [hlb] at HS5 ⊢
      have hq2 := (Rb.i0 (w0 := w0) (O := fun _ => False) (L := own 24 6 Aq rs.length cq (rs.flatMap Ad.cells) :: L) (e := 5) (size := 1) (A := B) (n := n + nb) (k := bc) (xs := by8 (Ads rs ++ bh))).kcut (j := n) (m := n + nb) (cap := bc) (by omega) (Nat.le_refl _) hle
      rw [List.drop_left' HL.out, Nat.add_sub_cancel_left, List.take_of_length_le (by omega)] at hq2
      have HQ2 := hid hq2
      clear hq2 hall
      have hs1 := fun q => run_str (P := Try.prog) (c := rc) (Rb.i0.read (HS5.drewN q)) 25 9 5 Try.underlying25 Try.underlying5 Try.underlying9
      have hs2 := fun q => run_str (P := Try.prog) (c := bc - n) (HQ2.out.cons.cons.read (HS5.drewN q)) 25 9 5 Try.underlying25 Try.underlying5 Try.underlying9
      generalize strOfNums bh = st at hs1 hs2
      have k1 : (n : Int) ≤ bc := by omega
      have k2 : (0 : Int) ≤ n := by omega
      have k3 : n + nb - n = nb := by omega
      rcases (show ¬ bc = n ∨ bc = n by omega) with hca | hca
      · rw [if_neg hca] at hs2
        go_upto_region 30 with (fail)
        go_quiet (fail)
        go_wp2
        go_ret
        exact ⟨rfl, HS5.drop.drop.drop.drop⟩
      · rw [if_pos hca] at hs2
        have hnb0 : nb = 0 := by omega
        subst hnb0
        subst hca
        simp only [Nat.sub_self, Nat.add_zero] at hs1 hs2 k3
        clear k3
        go_upto_region 30 with (fail)
        go_quiet (fail)
        go_wp2
        go_ret
        exact ⟨rfl, HS5.drop.drop.drop.drop⟩
end

theorem parts_join'An {l : List Int} {a o q : Nat} (ha : a ≤ l.length) (ho : o ≤ a) : (l.take a).drop o ++ (l.drop a).take q = (l.take (a + q)).drop o := by
  have hlen : (l.take a).length = a := by rw [List.length_take]; omega
  rw [List.take_add, List.drop_append, hlen, show o - a = 0 by omega, List.drop_zero]

section
variable {w0 w : World} {L : List Asr}

set_option maxHeartbeats 20000000 in
set_option maxRecDepth 100000 in
theorem comes_An {A Aq Ap Ab : Option Addr} {n c cq np cp nb cb : Nat} {rs : List An} {ps bh : List Int}
    (HS : Sep w0 w (fun _ => False) (own 5 1 A n c (by8 (Ans rs)) :: own 45 4 Aq rs.length cq (rs.flatMap An.cells) :: L))
    (hp : ∀ L, Rb w0 (fun _ => False) L 1 Ap np (kv .u8 ps)) (hps : ∀ x ∈ ps, 0 ≤ x ∧ x ≤ 255) (hbr : ∀ L, Rb w0 (fun _ => False) L 1 Ab nb (by8 bh)) (hbb : Byt bh)
    (hg : ∀ r ∈ rs, r.Good w0.heap ∧ r.err = 0) (hn : n ≤ 8388608) (hnp : np ≤ 1048576) (hnb : nb ≤ 1048576) (hrs : rs.length ≤ 1048576) (hbs : Byt (Ans rs)) :
    Calls Try.prog 23 #[.slice A n c, .slice none 0 0, .slice Aq rs.length cq, .slice Ap np cp, .slice Ab nb cb] w fun e w' => e = .returned (.bool true) ∧ Sep w0 w' (fun _ => False) L := by
  obtain ⟨i0, hi0, hz0, hz1, hz2⟩ := info_parts info_u8
  have hl := HS.klen
  have hlb : bh.length = nb := (hbr L).klen HS.drop.drop
  have hrd := (hbr (own 5 1 A n c (by8 (Ans rs)) :: own 45 4 Aq rs.length cq (rs.flatMap An.cells) :: L)).read HS
  have HP := hid hp
  have HPS := hid hps
  have HG := hid hg
  clear hp hps hg
  go_enter Try.func23, Try.ntmps23
  go_wp2_with (at_builtin; go_loud (refine wpList_append_sep rfl (.tmp 29) (.tmp 30) 25 rfl 5 i0 _ 1 1 Try.underlying25 hi0 hz0 hz1 hz2 rfl (by decide) rfl HS rfl hrd (kv_one _ _) (by simp only [maxLen]; omega) (by omega) rfl (by8_append _ _) ?_); intro B bc w1 HS1 hsz1)
  refine (new_calls HS1).mono ?_
  rintro e w2 ⟨g, rfl, HS2⟩
  have hbt : Byt (Ans rs ++ bh) := hbs.append hbb
  have htl : (Ans rs ++ bh).length = n + nb := by rw [List.length_append, hl, hlb]
  have hnl := Ann_le rs
  have hna := Ann_all rs
  rw [hl] at hnl hna
  have hle := own_le HS2.up1
  have HNL := hid hnl
  have HNA := hid hna
  have HTL := hid htl
  have HBT := hid hbt
  have HL := hid hl
  clear hnl hna htl hbt hl HS HS1 hrd hsz1
  go_wp2
  go_loopw [13, 14, 15] (fun n' a i wr => ∃ (j at_ q : Nat), i = .int .i64 j ∧ a = .int .i64 at_ ∧ n' = .int .i64 q ∧ at_ ≤ n + nb ∧ q ≤ rs.length ∧ Ann rs q ≤ at_ ∧ j ≤ np + 1 ∧ (np < j → at_ = n + nb ∧ q = rs.length) ∧
    Sep w0 wr (fun _ => False) (tape g (((Ans rs ++ bh).take at_).drop (Ann rs q)) :: own 5 1 B (n + nb) bc (by8 (Ans rs ++ bh)) :: own 45 4 Aq rs.length cq (rs.flatMap An.cells) :: L)) (fun _ _ i _ => np + 1 - (intOf i).toNat)
  case atStart => exact ⟨0, 0, 0, rfl, rfl, rfl, by omega, by omega, by rw [Ann_zero]; omega, by omega, by omega, by simpa using HS2⟩
  case round =>
    obtain ⟨j, at_, q, rfl, rfl, rfl, ha, hq, hc, hj, hfin, HS3⟩ := hrel
    clear HS2
    by_cases hjn : j ≤ np
    · clear hfin
      have hjn' : (j : Int) ≤ np := by omega
      go_upto_if 44 with (fail)
      go_cut [16] (fun v wx => ∃ t2 : Nat, at_ ≤ t2 ∧ t2 ≤ n + nb ∧ (np ≤ j → t2 = n + nb) ∧ v = .int .i64 t2 ∧ wx = wr)
      case first =>
        by_cases hp : j < np
        · obtain ⟨ad1, y1, rfl, _, hm1, hcell1⟩ := (HP.out _).elemn HS3 hp
          obtain ⟨hx1, hx1'⟩ := HPS.out y1 hm1
          clear hm1
          go_wp2
          all_goals
            go_meet
            case rel =>
              first
              | exact ⟨at_ + y1.toNat, by omega, by omega, by omega, by congr 1; omega, rfl⟩
              | exact ⟨n + nb, by omega, by omega, by omega, by first | rfl | (congr 1; omega), rfl⟩
        · go_wp2
          go_meet
          case rel => exact ⟨n + nb, by omega, by omega, by omega, by first | rfl | (congr 1; omega), rfl⟩
      case rest =>
        obtain ⟨t2, ht1, ht2, ht3, rfl, rfl⟩ := hcut
        have hpl : (Ans rs ++ bh).length = n + nb := HTL.out
        have HC := (Rb.i0 (w0 := w0) (O := fun _ => False) (L := own 45 4 Aq rs.length cq (rs.flatMap An.cells) :: L) (e := 5) (size := 1) (A := B) (n := n + nb) (k := bc) (xs := by8 (Ans rs ++ bh))).kcut (j := at_) (m := t2) (cap := bc) ht1 ht2 hle
        have HJ := parts_join'An (l := Ans rs ++ bh) (a := at_) (o := Ann rs q) (q := t2 - at_) (by omega) hc
        rw [show at_ + (t2 - at_) = t2 by omega] at HJ
        have HP' : Aside (∀ A' c', Rb w0 (fun _ => False) (own 5 1 B (n + nb) bc (by8 (Ans rs ++ bh)) :: own 45 4 Aq rs.length cq (rs.flatMap An.cells) :: L) 1 A' (t2 - at_) (by8 (((Ans rs ++ bh).drop at_).take (t2 - at_))) →
            Calls Try.prog 29 #[.pointer (some ⟨g, 0, none⟩), .slice A' (t2 - at_) c'] wc fun e w' => e = .returned (.tuple #[]) ∧ Sep w0 w' (fun _ => False) (tape g (((Ans rs ++ bh).take t2).drop (Ann rs q)) :: own 5 1 B (n + nb) bc (by8 (Ans rs ++ bh)) :: own 45 4 Aq rs.length cq (rs.flatMap An.cells) :: L)) := ⟨by
          intro A' c' hr'
          rw [← HJ]
          exact push_calls HS3 hr' (by rw [List.length_drop, List.length_take]; omega)⟩
        have HCC := hid HC
        have k1 : (0 : Int) ≤ at_ := by omega
        have k2 : (at_ : Int) ≤ t2 := by omega
        have k3 : (t2 : Int) ≤ bc := by omega
        clear HC HJ hpl HS3
        go_upto_region 11 with (fail)
        go_cut [59] (fun _ wx => Sep w0 wx (fun _ => False) (tape g (((Ans rs ++ bh).take t2).drop (Ann rs q)) :: own 5 1 B (n + nb) bc (by8 (Ans rs ++ bh)) :: own 45 4 Aq rs.length cq (rs.flatMap An.cells) :: L))
        case first =>
          rcases (show ¬ bc = at_ ∨ bc = at_ by omega) with hca | rfl
          all_goals
            have HC' := hid HCC.out
            first | rw [if_neg hca] at HC' | rw [if_pos rfl] at HC'
            clear HCC
          all_goals
            go_wp2_with fail
            refine (HP'.out _ _ HC'.out).mono ?_
            rintro e w4 ⟨rfl, HS4⟩
            clear HP' HC' k1 k2 k3
            go_wp2
            go_meet
            case rel => exact HS4
        case rest =>
          have HS4 := hcut
          clear hcut HP' HCC k1 k2 k3
          have hc2 : Ann rs q ≤ t2 := by omega
          go_wp2_with fail
          go_loopw [13] (fun n' wr => ∃ q' : Nat, n' = .int .i64 q' ∧ q' ≤ rs.length ∧ Ann rs q' ≤ t2 ∧
            Sep w0 wr (fun _ => False) (tape g (((Ans rs ++ bh).take t2).drop (Ann rs q')) :: own 5 1 B (n + nb) bc (by8 (Ans rs ++ bh)) :: own 45 4 Aq rs.length cq (rs.flatMap An.cells) :: L)) (fun n' _ => rs.length - (intOf n').toNat)
          case atStart => exact ⟨q, rfl, hq, hc2, HS4⟩
          case round =>
            obtain ⟨q', rfl, hq', hcq, HS5⟩ := hrel
            clear HS4 hc2
            have hrl : (rs.length : Int) ≤ 1048576 := by omega
            have hTl : (((Ans rs ++ bh).take t2).drop (Ann rs q')).length ≤ 140737488355328 := by
              have := HTL.out
              rw [List.length_drop, List.length_take]; omega
            by_cases hlt : q' < rs.length
            · obtain ⟨gq, rfl⟩ := (HS5.drop.drop).own_some (by omega)
              have hr0 : rs[q']? = some rs[q'] := List.getElem?_eq_getElem hlt
              have hmem := List.getElem_mem hlt
              generalize rs[q'] = r at hr0 hmem
              obtain ⟨hgood, herr⟩ := HG.out r hmem
              have hst := An_step (bh := bh) (a := t2) hr0 ⟨hgood, herr⟩ hcq (by have := HTL.out; omega)
              have HSUC := hid (Ann_succ hr0)
              have HRD := hid (fun L => Rb.came (L := L) hgood.2.2.2.2.1)
              have HRL : Aside (r.vs.length ≤ 256) := ⟨by
                have h : ansErr r.vs = 0 := herr
                unfold ansErr at h
                split at h
                · rename_i hx; omega
                · cases h⟩
              have hvl : (r.vs.length : Int) ≤ 256 := by have := HRL.out; omega
              have hj1 : (q' : Int) < rs.length := by omega
              have hj0 : (0 : Int) < rs.length := by omega
              have hcells : ∀ wx, Sep w0 wx (fun _ => False) (own 45 4 (some ⟨gq, 0, none⟩) rs.length cq (rs.flatMap An.cells) :: L) → ∀ i v, r.cells[i]? = some v → i < 4 → wx.cell? ⟨gq, q' * 4 + i, none⟩ = some v := by
                intro wx h i v hv hi
                have := (Rb.i0.read h).2 (by omega)
                obtain ⟨ad, hA, _, hcc⟩ := this
                injection hA with hA
                subst hA
                rw [← add_at]
                refine hcc _ _ ?_
                rw [flat_get An.cells 4 An.cells_len _ _ _ hi, hr0]
                exact hv
              have HCE := hid hcells
              clear hcells hgood herr hmem hr0
              have hTb : Byt (((Ans rs ++ bh).take t2).drop (Ann rs q')) := (HBT.out.take t2).drop _
              obtain ⟨T, hT⟩ : ∃ T, T = ((Ans rs ++ bh).take t2).drop (Ann rs q') := ⟨_, rfl⟩
              obtain ⟨T1, hT1⟩ : ∃ T1, T1 = ((Ans rs ++ bh).take t2).drop (Ann rs (q' + 1)) := ⟨_, rfl⟩
              rw [← hT] at HS5 hst hTl hTb
              rw [← hT1] at hst
              have HT := hid hT
              have HT1 := hid hT1
              have HTB := hid hTb
              clear hT hT1 hTb
              go_wp2_with fail
              refine (len_calls HS5).mono ?_
              rintro e w5 ⟨rfl, rfl⟩
              have hdc := HCE.out _ HS5.drop.drop 3 _ rfl (by decide)
              go_wp2_with fail
              have hz := takeansA_calls (w0 := w0) (O := fun _ => False) HTB.out hTl
              rcases hst with ⟨hst1, hst2, hst3⟩ | ⟨hst1, hst2⟩
              · have hz := hz.2 _ _ _ _ _ hst2 HS5
                rw [hst3, List.length_map] at hz
                refine hz.mono ?_
                clear hst2 hst3 hz
                rintro e w6 ⟨X, xc, rfl, HS6⟩
                have HS7 := HS6.alloc (#[.int .u64 r.ck, .int .u32 r.er, .int .u64 r.id, .slice X r.vs.length xc]) 45
                obtain ⟨gx, hgx⟩ : ∃ gx, gx = w6.heap.size := ⟨_, rfl⟩
                go_upto_region 22 with (fail)
                obtain ⟨w7, hw7⟩ : ∃ w7, w7 = w6.alloc (.cells (#[.int .u64 r.ck, .int .u32 r.er, .int .u64 r.id, .slice X r.vs.length xc]) 45) := ⟨_, rfl⟩
                rw [← hgx, ← hw7] at HS7 ⊢
                clear hgx hw7 HS6
                have HSA : ∀ W, Sep w0 W (fun _ => False) (blk gx 45 #[.int .u64 r.ck, .int .u32 r.er, .int .u64 r.id, .slice X r.vs.length xc] :: own 48 6 X r.vs.length xc (vrow (r.vs.map Vol.z)) :: Go.Proofs.Ytankfmfenbhkgaa.tape g T1 :: own 5 1 B (n + nb) bc (by8 (Ans rs ++ bh)) :: own 45 4 (some ⟨gq, 0, none⟩) rs.length cq (rs.flatMap An.cells) :: L) → Calls Try.prog 20 #[.agg #[.int .u64 r.ck, .int .u32 r.er, .int .u64 r.id, .slice X r.vs.length xc], .agg #[.int .u64 r.ck, .int .u32 r.er, .int .u64 r.id, .slice r.A r.vs.length r.c]] W fun e w' => e = .returned (.bool true) ∧ Sep w0 w' (fun _ => False) (blk gx 45 #[.int .u64 r.ck, .int .u32 r.er, .int .u64 r.id, .slice X r.vs.length xc] :: own 48 6 X r.vs.length xc (vrow (r.vs.map Vol.z)) :: Go.Proofs.Ytankfmfenbhkgaa.tape g T1 :: own 5 1 B (n + nb) bc (by8 (Ans rs ++ bh)) :: own 45 4 (some ⟨gq, 0, none⟩) rs.length cq (rs.flatMap An.cells) :: L) := fun W H => rsameA_z H Rb.i1 (HRD.out _) HRL.out
                have HQA := hid HSA
                clear HSA
                go_region_held_law (fun w' => w'.cell? ⟨gx, 0, none⟩ = some (.int .u64 r.ck) ∧ w'.cell? ⟨gx, 1, none⟩ = some (.int .u32 r.er) ∧ w'.cell? ⟨gx, 2, none⟩ = some (.int .u64 r.id) ∧ w'.cell? ⟨gx, 3, none⟩ = some (.slice X r.vs.length xc) ∧ w'.cell? ⟨gq, q' * 4, none⟩ = some (.int .u64 r.ck) ∧ w'.cell? ⟨gq, q' * 4 + 1, none⟩ = some (.int .u32 r.er) ∧ w'.cell? ⟨gq, q' * 4 + 2, none⟩ = some (.int .u64 r.id) ∧ w'.cell? ⟨gq, q' * 4 + 3, none⟩ = some (.slice r.A r.vs.length r.c)) (first | (exact ⟨HS8.blk_at 0 rfl, HS8.blk_at 1 rfl, HS8.blk_at 2 rfl, HS8.blk_at 3 rfl, HCE.out _ (HS8.sel 4 []) 0 _ rfl (by decide), HCE.out _ (HS8.sel 4 []) 1 _ rfl (by decide), HCE.out _ (HS8.sel 4 []) 2 _ rfl (by decide), HCE.out _ (HS8.sel 4 []) 3 _ rfl (by decide)⟩) | (exact ⟨HS7.drew.blk_at 0 rfl, HS7.drew.blk_at 1 rfl, HS7.drew.blk_at 2 rfl, HS7.drew.blk_at 3 rfl, HCE.out _ (HS7.drew.sel 4 []) 0 _ rfl (by decide), HCE.out _ (HS7.drew.sel 4 []) 1 _ rfl (by decide), HCE.out _ (HS7.drew.sel 4 []) 2 _ rfl (by decide), HCE.out _ (HS7.drew.sel 4 []) 3 _ rfl (by decide)⟩))
                  (first
                    | (go_at_call 20; refine (HQA.out _ HS7.drew).mono ?_; rintro e w8 ⟨rfl, HS8⟩))
                all_goals
                  go_wp2
                  go_roundw
                  case rel => exact ⟨q' + 1, by go_num, by omega, hst1, by rw [← HT1.out]; exact HS8.drop.drop⟩
                  case measure => simp [intOf]; omega
              · have hz := hz.1 _ hst2 HS5
                refine hz.mono ?_
                clear hst2 hz
                rintro e w6 ⟨rfl, HS6⟩
                have HS7 := HS6
                go_upto_region 22 with (fail)
                go_quiet (fail)
                go_wp2_with fail
                refine (len_calls ((HS7.alloc_ _).drewN nq)).mono ?_
                rintro e w7 ⟨rfl, rfl⟩
                have hcn := HNL.out (q' + 1)
                rw [HT.out] at HS7
                go_wp2
                go_roundw
                case rel => exact ⟨j + 1, t2, q', by go_num, rfl, rfl, ht2, hq', hcq, by omega, fun h => by have := ht3 (by omega); omega, (HS7.alloc_ _).drewN nq⟩
                case measure => simp [intOf]; omega
            · obtain rfl : q' = rs.length := by omega
              go_wp2
              go_roundw
              case rel => exact ⟨j + 1, t2, rs.length, by go_num, rfl, rfl, ht2, Nat.le_refl _, hcq, by omega, fun h => ⟨ht3 (by omega), rfl⟩, HS5⟩
              case measure => simp [intOf]; omega
    · obtain ⟨h1, h2⟩ := hfin (by omega)
      subst h1
      subst h2
      have hjn' : ¬ (j : Int) ≤ np := by omega
      have hT : ((Ans rs ++ bh).take (n + nb)).drop (Ann rs rs.length) = bh := by rw [HNA.out, List.take_of_length_le (by rw [HTL.out]; exact Nat.le_refl _), List.drop_left' HL.out]
      rw [hT] at HS3
      clear hT hfin
      have hrl : (rs.length : Int) ≤ 1048576 := by omega
      go_wp2_with fail
      refine (len_calls HS3).mono ?_
      rintro e w4 ⟨rfl, rfl⟩
      rw [hlb]
      go_wp2_with fail
      have hall := askL_all false bh
      rw [hlb] at hall
      refine (peek_any (m := nb) HS3 (by omega)).mono ?_
      rintro e w5 ⟨R, rc, rfl, HS5⟩
      rw [hall.1]
      rw [hall.2] at HS5 ⊢
      rw [hlb] at HS5 ⊢
      have hq2 := (Rb.i0 (w0 := w0) (O := fun _ => False) (L := own 45 4 Aq rs.length cq (rs.flatMap An.cells) :: L) (e := 5) (size := 1) (A := B) (n := n + nb) (k := bc) (xs := by8 (Ans rs ++ bh))).kcut (j := n) (m := n + nb) (cap := bc) (by omega) (Nat.le_refl _) hle
      rw [List.drop_left' HL.out, Nat.add_sub_cancel_left, List.take_of_length_le (by omega)] at hq2
      have HQ2 := hid hq2
      clear hq2 hall
      have hs1 := fun q => run_str (P := Try.prog) (c := rc) (Rb.i0.read (HS5.drewN q)) 25 9 5 Try.underlying25 Try.underlying5 Try.underlying9
      have hs2 := fun q => run_str (P := Try.prog) (c := bc - n) (HQ2.out.cons.cons.read (HS5.drewN q)) 25 9 5 Try.underlying25 Try.underlying5 Try.underlying9
      generalize strOfNums bh = st at hs1 hs2
      have k1 : (n : Int) ≤ bc := by omega
      have k2 : (0 : Int) ≤ n := by omega
      have k3 : n + nb - n = nb := by omega
      rcases (show ¬ bc = n ∨ bc = n by omega) with hca | hca
      · rw [if_neg hca] at hs2
        go_upto_region 30 with (fail)
        go_quiet (fail)
        go_wp2
        go_ret
        exact ⟨rfl, HS5.drop.drop.drop.drop⟩
      · rw [if_pos hca] at hs2
        have hnb0 : nb = 0 := by omega
        subst hnb0
        subst hca
        simp only [Nat.sub_self, Nat.add_zero] at hs1 hs2 k3
        clear k3
        go_upto_region 30 with (fail)
        go_quiet (fail)
        go_wp2
        go_ret
        exact ⟨rfl, HS5.drop.drop.drop.drop⟩
end
end Go.Proofs.Ytankfmfenbhkgaa
