/-
  The walk of HelloTells.
-/
import Derived.Test.YtgepekailoopeaaLaw22
import Derived.Test.YtgepekailoopeaaSees22
import Derived.Test.YtgepekailoopeaaVolSeeR
import Derived.Test.YtgepekailoopeaaTellLaw
import Derived.Test.YtgepekailoopeaaSameR
namespace Go.Proofs.Ytgepekailoopeaa
open Go.RowKit
set_option linter.unusedVariables false
set_option linter.unusedSimpArgs false
theorem info_strs : (Try.prog.info? 9).map (fun i => (i.zero, i.size, i.bytes)) = some (some (.string eStr), 1, 16) := by kernel_rfl
theorem dataA_gives {t : TypeId} {r : Rp} : ∀ {rs : List Rp}, r ∈ rs → Gives (dataA t rs) 1 r.A r.d.length (by8 r.d)
  | x :: rs, hm => by
    intro h F hp
    obtain ⟨F1, F2, e, d, p, q⟩ := hp
    rcases List.mem_cons.1 hm with rfl | hm
    · exact (own_gives _ _ _ _ _ _ h F1 p).mono fun b hb => (e b).2 (.inl hb)
    · exact (dataA_gives hm h F2 q).mono fun b hb => (e b).2 (.inr hb)
theorem Rb.dat {w0 : World} {O : Nat → Prop} {L : List Asr} {t : TypeId} {rs : List Rp} (k : Nat) (h : L[k]? = some (dataA t rs)) : ∀ r ∈ rs, Rb w0 O L 1 r.A r.d.length (by8 r.d) :=
  fun r hr => .inr ⟨_, List.mem_of_getElem? h, dataA_gives hr⟩
theorem Rb.ownAt' {w0 : World} {O : Nat → Prop} {L : List Asr} {e : TypeId} {size : Nat} {A : Option Addr} {n c : Nat} {xs : List Value} (k : Nat) (h : L[k]? = some (Go.Proofs.Ytgepekailoopeaa.own e size A n c xs)) : Rb w0 O L size A n xs := .own (List.mem_of_getElem? h)
def srow (l : List ByteArray) : List Value := l.map Value.string
theorem srow_len (l : List ByteArray) : (srow l).length = l.length := List.length_map ..
theorem srow_one (l : List ByteArray) : ∀ u ∈ srow l, u.oneCell' = true := by
  intro u hu; obtain ⟨x, _, rfl⟩ := List.mem_map.1 hu; rfl
theorem Someone {w0 w : World} {O : Nat → Prop} {L : List Asr} (h : Sep w0 w O L) : ∃ W, W = w ∧ Sep w0 W O L := ⟨w, rfl, h⟩
theorem namR_len' (vs : List Vol) : (namR 3 vs).length ≤ vs.length := by rw [namR_names, List.length_map]; have := namesL_len vs 0; omega
theorem ansR_len (op : Int) (wn : ByteArray) (inf : List Int) (vs : List Vol) : (ansR op wn inf vs).length ≤ vs.length + 4 := by
  unfold ansR
  split
  · rename_i h; subst h
    have := namR_len' vs
    rw [List.length_append]; simp; omega
  · split
    · split
      · simp
      · rename_i v _
        have := (expR_len2 op v.nm v.size v.fixed inf).2
        rw [List.length_append]; simp; omega
    · split <;> simp
structure Ht (w : World) (op : Int) (nm : ByteArray) (A0 : Option Addr) (ni c0 : Nat) (inf : List Int) (A1 : Option Addr) (n1 : Nat) (vs : List Vol) : Prop where
  op : 0 ≤ op ∧ op < 4294967296
  hni : ni ≤ 70368744175616
  hn1 : n1 ≤ 2513169434843
  hvl : vs.length = n1
  r0 : ∀ L, Rb w (fun _ => False) L 1 A0 ni (kv .u16 inf)
  r1 : ∀ L, Rb w (fun _ => False) L 6 A1 n1 (vrow vs)
  ok : ∀ v ∈ vs, v.Ok

set_option maxHeartbeats 16000000 in
set_option maxRecDepth 100000 in
theorem tells_2 {w : World} {nm : ByteArray} {A0 A1 : Option Addr} {ni c0 n1 c1 : Nat} {inf : List Int} {vs : List Vol} (HH : Ht w 2 nm A0 ni c0 inf A1 n1 vs)  :
    Calls Try.prog 11 #[.agg #[.int .u32 2, .string nm, .slice A0 ni c0], .slice A1 n1 c1] w fun e w' => e = .returned (.bool true) ∧ Below w.heap.size w w' := by
  obtain ⟨R, hR⟩ : ∃ R, R = ansR 2 nm inf vs := ⟨_, rfl⟩
  have hgood : Good R 2 (atI vs nm 0) := by
    rw [hR, show ansR 2 nm inf vs = [(2, 1, [])] from by unfold ansR; rw [if_neg (by decide), if_neg (by decide), if_pos rfl]]
    exact two_good _
  have HRR : Aside (R = [(2, 1, [])]) := ⟨by
    rw [hR]; unfold ansR; rw [if_neg (by decide), if_neg (by decide), if_pos rfl]
    ⟩
  obtain ⟨i0, hi0, hz0, hz1, hz2⟩ := info_parts info_strs
  obtain ⟨m, hm⟩ : ∃ m, m = R.length := ⟨_, rfl⟩
  have hm9 : m ≤ n1 + 4 := by rw [hm, hR, ← HH.hvl]; exact ansR_len _ _ _ _
  have P1 : ∀ {W : World} {L' : List Asr}, Sep w W (fun _ => False) L' → Calls Try.prog 28 #[.agg #[.int .u32 2, .string nm, .slice A0 ni c0], .slice A1 n1 c1] W fun e w' => ∃ (rs : List Rp) (A' : Option Addr) (c' : Nat), rs.map Rp.out = R ∧ e = .returned (.slice A' m c') ∧ Sep w w' (fun _ => False) (own 35 3 A' m c' (rrow rs) :: dataA 5 rs :: L') := by
    intro W L' H
    refine (answers_calls H (HH.r1 _) HH.hvl HH.hn1 HH.ok (HH.r0 _) (by have := HH.hni; omega)).mono ?_
    rintro e w' ⟨rs, A', c', h1, rfl, h3⟩
    have hl : rs.length = m := by rw [hm, hR, ← h1, List.length_map]
    exact ⟨rs, A', c', by rw [hR]; exact h1, by rw [hl], by rw [hl] at h3; exact h3⟩
  have HP1 := hid @P1
  have HMR := hid hm
  have HN1 := HH.hn1
  have hmb : m ≤ 4398046511000 := by omega
  clear P1 hm hR hm9
  have HSa := (Sep.start w).alloc #[.int .u32 2, .string nm, .slice A0 ni c0] 66
  go_enter Try.func11, Try.ntmps11
  go_wp2_with fail
  refine (HP1.out HSa).mono ?_
  rintro e w2 ⟨rs, A5, c5, hout, rfl, HS2⟩
  have HOUT := hid hout
  clear hout HSa
  have HS3 := HS2.nil 9 1
  have w1 : IntKind.i64.wrap ((n1 : Int) - 1) = n1 - 1 := by rw [IntKind.wrap_i64]; omega
  go_wp2_with fail
  clear w1
  go_loopw [6, 7, 8] (fun a b i wr => ∃ (q j cj : Nat) (B : Option Addr) (at' : Int) (xs : List Value), q ≤ n1 ∧ i = .int .i64 ((q : Int) - 1) ∧ a = .int .i64 at' ∧ b = .slice B j cj ∧ j ≤ n1 - q ∧ Aside (at' = atI vs nm q) ∧ Aside (j = (namesL vs q).length) ∧ Aside (xs = srow (namesL vs q)) ∧
    Sep w wr (fun _ => False) (own 9 1 B j cj xs :: own 35 3 A5 m c5 (rrow rs) :: dataA 5 rs :: blk w.heap.size 66 #[.int .u32 2, .string nm, .slice A0 ni c0] :: [])) (fun _ _ i _ => (intOf i + 1).toNat)
  case atStart => exact ⟨n1, 0, 0, none, -1, [], Nat.le_refl _, rfl, rfl, rfl, by omega, ⟨by rw [← HH.hvl, atI_end]⟩, ⟨by rw [← HH.hvl, namesL_end]; rfl⟩, ⟨by rw [← HH.hvl, namesL_end]; rfl⟩, HS3⟩
  case round =>
    obtain ⟨q, j, cj, B, at', xs, hq, rfl, rfl, rfl, hjn, hat, hjl, hxs, HSq⟩ := hrel
    clear HS2 HS3
    rcases q with _ | q
    · rw [show ((0 : Nat) : Int) - 1 = -1 from by decide]
      have hxs' := hxs.out
      rw [hxs'] at HSq
      have HNM := hjl
      have HAT := hat
      clear hxs' hat hxs
      have hm2 : IntKind.i64.wrap ((m : Int) - 1) = m - 1 := by rw [IntKind.wrap_i64]; omega
      have HSx : Sep w wr (fun _ => False) (own 35 3 A5 m c5 (rrow rs) :: dataA 5 rs :: own 9 1 B j cj (srow (namesL vs 0)) :: blk w.heap.size 66 #[.int .u32 2, .string nm, .slice A0 ni c0] :: []) := HSq.sel 4 [1, 2, 0, 3]
      have hj9 : j ≤ n1 := by omega
      obtain ⟨AT, hAT⟩ : ∃ AT, AT = at' := ⟨_, rfl⟩
      rw [← hAT] at HAT ⊢
      clear HSq hAT
      have HGOOD : Aside (Good R 2 AT) := ⟨by rw [HAT.out]; exact hgood⟩
      go_wp2_with fail
      go_loopw [9] (fun i wr => ∃ k : Nat, k ≤ m ∧ i = .int .i64 k ∧ Sep w wr (fun _ => False) (own 35 3 A5 m c5 (rrow rs) :: dataA 5 rs :: own 9 1 B j cj (srow (namesL vs 0)) :: blk w.heap.size 66 #[.int .u32 2, .string nm, .slice A0 ni c0] :: [])) (fun i _ => m - (intOf i).toNat)
      case atStart => exact ⟨0, Nat.zero_le _, rfl, HSx⟩
      case round =>
        obtain ⟨k, hk, rfl, HSk⟩ := hrel
        clear HSx
        by_cases hlt : k < m
        · obtain ⟨ad, v, hA5, hvk, x0, x1, x2⟩ := (Rb.ownAt' 0 rfl : Rb w (fun _ => False) (own 35 3 A5 m c5 (rrow rs) :: dataA 5 rs :: own 9 1 B j cj (srow (namesL vs 0)) :: blk w.heap.size 66 #[.int .u32 2, .string nm, .slice A0 ni c0] :: []) 3 A5 m (rrow rs)).repAt HSk hlt
          have hRk : R[k]? = some v.out := by rw [← HOUT.out, List.getElem?_map, hvk]; rfl
          obtain ⟨ro, rk, rA, rc, rd⟩ := v
          obtain ⟨g1, g2, g3, g4, g5⟩ := HGOOD.out.row k ro rk rd hRk
          subst g1
          have HDAT := hid ((Rb.dat 1 rfl : ∀ r ∈ rs, Rb w (fun _ => False) (own 35 3 A5 m c5 (rrow rs) :: dataA 5 rs :: own 9 1 B j cj (srow (namesL vs 0)) :: blk w.heap.size 66 #[.int .u32 2, .string nm, .slice A0 ni c0] :: []) 1 r.A r.d.length (by8 r.d)) _ (List.mem_of_getElem? hvk))
          have HREP : Aside (∀ {W : World}, Sep w W (fun _ => False) (own 35 3 A5 m c5 (rrow rs) :: dataA 5 rs :: own 9 1 B j cj (srow (namesL vs 0)) :: blk w.heap.size 66 #[.int .u32 2, .string nm, .slice A0 ni c0] :: []) → W.cell? (ad.add (k * 3)) = some (.int .u32 2) ∧ W.cell? ⟨(ad.add (k * 3)).block, (ad.add (k * 3)).off + 1, none⟩ = some (.int .u32 rk) ∧ W.cell? ⟨(ad.add (k * 3)).block, (ad.add (k * 3)).off + 2, none⟩ = some (.slice rA rd.length rc)) := ⟨by
            intro W H
            obtain ⟨ad', u, hA, hu, y0, y1, y2⟩ := (Rb.ownAt' 0 rfl : Rb w (fun _ => False) (own 35 3 A5 m c5 (rrow rs) :: dataA 5 rs :: own 9 1 B j cj (srow (namesL vs 0)) :: blk w.heap.size 66 #[.int .u32 2, .string nm, .slice A0 ni c0] :: []) 3 A5 m (rrow rs)).repAt H hlt
            rw [hA5] at hA
            injection hA with hA
            subst hA
            rw [hvk] at hu
            injection hu with hu
            subst hu
            exact ⟨y0, y1, y2⟩⟩
          have e1 : rawE rd = 0 := by unfold rawE; rw [if_neg (by omega)]
          have e2 : (rawB mRe [2, rk] rd).length = 20 + rd.length := by
            unfold rawB
            rw [if_neg (by omega)]
            unfold rawL
            rw [List.length_append, List.length_append, be_len, b4s_len]
            simp
          have HPUT := hid (hPutReply_calls (op := 2) (kd := rk) (c := rc) HSk HDAT.out HH.op.1 HH.op.2 g3 g4)
          rw [e1, e2] at HPUT
          have y1 : IntKind.i64.wrap (20 + (rd.length : Int)) = 20 + rd.length := by rw [IntKind.wrap_i64]; omega
          have hkm : (k : Int) < m := by omega
          have hk0 : (0 : Int) ≤ k := by omega
          dsimp only at x0 x1 x2
          generalize rawB mRe [2, rk] rd = rb at HPUT
          have key : ∃ b1 b2 b3 b4 : Bool, (rk == 1) = b1 ∧ ((k : Int) == (m : Int) - 1) = b2 ∧ decide (0 ≤ AT) = b3 ∧ decide ((2 : Int) < 6) = b4 ∧ (b2 = false ∧ b1 = false ∨ b2 = true ∧ (b3 = true ∧ b1 = true ∨ b3 = false ∧ (b4 = true ∧ b1 = true ∨ b4 = false ∧ b1 = false))) := by
            refine ⟨_, _, _, _, rfl, rfl, rfl, rfl, ?_⟩
            have hml := HMR.out
            by_cases q1 : (k : Int) = (m : Int) - 1
            · have q1' : k + 1 = R.length := by omega
              right
              refine ⟨by simpa using q1, ?_⟩
              by_cases q2 : 0 ≤ AT
              · left
                exact ⟨decide_eq_true q2, by simpa using g5.2 ⟨q1', .inl q2⟩⟩
              · right
                refine ⟨decide_eq_false q2, ?_⟩
                by_cases q3 : (2 : Int) < 6
                · exact .inl ⟨decide_eq_true q3, by simpa using g5.2 ⟨q1', .inr q3⟩⟩
                · exact .inr ⟨decide_eq_false q3, by simpa using fun e => absurd (g5.1 e).2 (by omega)⟩
            · left
              refine ⟨by simpa using q1, ?_⟩
              have : rk ≠ 1 := fun e => by have := (g5.1 e).1; omega
              simpa using this
          obtain ⟨b1, b2, b3, b4, f1, f2, f3, f4, f5⟩ := key
          clear g5 hvk hRk e1 e2 g2 g3 g4
          subst hA5
          rcases f5 with ⟨rfl, rfl⟩ | ⟨rfl, ⟨rfl, rfl⟩ | ⟨rfl, ⟨rfl, rfl⟩ | ⟨rfl, rfl⟩⟩⟩
          all_goals (try exact absurd f4 (by decide))
          all_goals
            go_wp2_with fail
            refine HPUT.out.mono ?_
            rintro e w8 ⟨A8, c8, rfl, HS8⟩
            have HS9 := HS8.drop
            clear x0 x1 x2 HS8
            obtain ⟨x0, x1, x2⟩ := HREP.out HS9
            have o0 := HS9.up3.blk_at 0 rfl
            go_upto_region 15 with (fail)
            go_quiet (fail)
            have HS10 := HS9.drewN nq
            clear x0 x1 x2 o0 HS9
            go_wp2
            go_roundw
            case rel => exact ⟨k + 1, by omega, by go_num, HS10⟩
            case measure => simp [intOf]; omega
        · obtain rfl : m = k := by omega
          have hkm : ¬ (m : Int) < m := by omega
          have o0 := HSk.up3.blk_at 0 rfl
          obtain rfl : m = 1 := by rw [HMR.out, HRR.out]; rfl
          go_wp2_with fail
          refine (wakes_calls HSk).mono ?_
          rintro e w20 ⟨rfl, HS20⟩
          go_wp2
          go_ret
          exact ⟨rfl, HS20.below⟩
    · rw [show ((q + 1 : Nat) : Int) - 1 = q from by omega]
      have hlt : q < n1 := by omega
      obtain ⟨ad, v, rfl, hvk, -, x1, -, -, -, -⟩ := (HH.r1 _).volAt HSq hlt
      have x1d := x1
      have o1 := HSq.up3.blk_at 1 rfl
      have HVK := hid hvk
      have jq : (q : Int) < n1 := by omega
      have jq0 : (0 : Int) ≤ q := by omega
      have wq : IntKind.i64.wrap ((q : Int) - 1) = q - 1 := by rw [IntKind.wrap_i64]; omega
      obtain ⟨vnm, hvnm⟩ : ∃ x, x = v.nm := ⟨_, rfl⟩
      rw [← hvnm] at x1 x1d
      have HVN := hid hvnm
      clear hvk hvnm
      have HVOL : Aside (∀ {W : World} {L' : List Asr}, Sep w W (fun _ => False) L' → W.cell? ⟨(ad.add (q * 6)).block, (ad.add (q * 6)).off + 1, none⟩ = some (.string vnm)) := ⟨by
        intro W L' H
        obtain ⟨ad', u, hA, hu, -, y1, -, -, -, -⟩ := (HH.r1 _).volAt H hlt
        injection hA with hA
        subst hA
        rw [HVK.out] at hu
        injection hu with hu
        subst hu
        rw [HVN.out]
        exact y1⟩
      rcases hB : (vnm.toList == nm.toList) with _ | _
      all_goals
        have HB := hid hB
        go_upto_region 7 with (fail)
        go_quiet (fail)
        obtain ⟨w6, hw6, HS6⟩ := Someone (HSq.drewN nq)
        rw [← hw6]
        clear x1 x1d o1 hw6 hB
        have x1 := HVOL.out HS6
        by_cases h16 : vnm.size ≤ 16
        · have k16 : (vnm.size : Int) ≤ 16 := by omega
          have HL := HS6.lit #[.string vnm] 9 1 1 rfl (by decide)
          have hrd := HL.rd1
          have hb1 : 1 + j ≤ maxLen := by simp only [maxLen]; omega
          have hb2 : (1 + j) * 16 ≤ 140737488355328 := by omega
          have hx1 : ∀ u ∈ xs, u.oneCell' = true := by rw [hxs.out]; exact srow_one _
          have HX1 := hid hx1
          have x1l := HVOL.out HL
          have H16 := hid h16
          clear hx1 h16
          go_wp2_with (at_builtin; (refine wpList_append_sep rfl (.tmp 49) (.tmp 50) 118 rfl 9 i0 _ 1 16 Try.underlying118 hi0 hz0 hz1 hz2 rfl (by decide) rfl HL rfl hrd HX1.out hb1 hb2 rfl rfl ?_; intro B7 c7 w7 HS7 hsz7))
          go_roundw
          case rel =>
            refine ⟨q, 1 + j, c7, B7, _, _, by omega, rfl, rfl, rfl, by omega, ⟨?_⟩, ⟨?_⟩, ⟨?_⟩, HS7.sel 5 [0, 2, 3, 4]⟩
            · first
                | (rw [atI_no HVK.out (by rw [← HVN.out]; exact HB.out)]; exact hat.out)
                | (rw [atI_yes HVK.out (by rw [← HVN.out]; exact HB.out)])
            · rw [namesL_yes HVK.out (by rw [← HVN.out]; exact H16.out), List.length_cons, ← hjl.out]; omega
            · rw [namesL_yes HVK.out (by rw [← HVN.out]; exact H16.out), hxs.out, ← HVN.out]; rfl
          case measure => simp only [intOf]; omega
        · have k16 : ¬ (vnm.size : Int) ≤ 16 := by omega
          have H16 := hid h16
          clear h16
          go_wp2
          go_roundw
          case rel =>
            refine ⟨q, j, cj, B, _, xs, by omega, rfl, rfl, rfl, by omega, ⟨?_⟩, ⟨?_⟩, ⟨?_⟩, HS6⟩
            · first
                | (rw [atI_no HVK.out (by rw [← HVN.out]; exact HB.out)]; exact hat.out)
                | (rw [atI_yes HVK.out (by rw [← HVN.out]; exact HB.out)])
            · rw [namesL_no HVK.out (by rw [← HVN.out]; exact H16.out)]; exact hjl.out
            · rw [namesL_no HVK.out (by rw [← HVN.out]; exact H16.out)]; exact hxs.out
          case measure => simp only [intOf]; omega

set_option maxHeartbeats 16000000 in
set_option maxRecDepth 100000 in
theorem tells_none {w : World} {op : Int} {nm : ByteArray} {A0 A1 : Option Addr} {ni c0 n1 c1 : Nat} {inf : List Int} {vs : List Vol} (HH : Ht w op nm A0 ni c0 inf A1 n1 vs) (h2 : op ≠ 2) (h3 : op ≠ 3) (h6 : op ≠ 6) (h7 : op ≠ 7) :
    Calls Try.prog 11 #[.agg #[.int .u32 op, .string nm, .slice A0 ni c0], .slice A1 n1 c1] w fun e w' => e = .returned (.bool true) ∧ Below w.heap.size w w' := by
  have t2 : (op == 2) = false := by simpa using h2
  have t3 : (op == 3) = false := by simpa using h3
  have t6 : (op == 6) = false := by simpa using h6
  have t7 : (op == 7) = false := by simpa using h7
  obtain ⟨R, hR⟩ : ∃ R, R = ansR op nm inf vs := ⟨_, rfl⟩
  have hgood : Good R op (atI vs nm 0) := by
    rw [hR, show ansR op nm inf vs = [] from by unfold ansR; rw [if_neg h3, if_neg (by omega), if_neg h2]]
    exact none_good _ _
  have HRR : Aside (R = []) := ⟨by
    rw [hR]; unfold ansR; rw [if_neg h3, if_neg (by omega), if_neg h2]
    ⟩
  obtain ⟨i0, hi0, hz0, hz1, hz2⟩ := info_parts info_strs
  obtain ⟨m, hm⟩ : ∃ m, m = R.length := ⟨_, rfl⟩
  have hm9 : m ≤ n1 + 4 := by rw [hm, hR, ← HH.hvl]; exact ansR_len _ _ _ _
  have P1 : ∀ {W : World} {L' : List Asr}, Sep w W (fun _ => False) L' → Calls Try.prog 28 #[.agg #[.int .u32 op, .string nm, .slice A0 ni c0], .slice A1 n1 c1] W fun e w' => ∃ (rs : List Rp) (A' : Option Addr) (c' : Nat), rs.map Rp.out = R ∧ e = .returned (.slice A' m c') ∧ Sep w w' (fun _ => False) (own 35 3 A' m c' (rrow rs) :: dataA 5 rs :: L') := by
    intro W L' H
    refine (answers_calls H (HH.r1 _) HH.hvl HH.hn1 HH.ok (HH.r0 _) (by have := HH.hni; omega)).mono ?_
    rintro e w' ⟨rs, A', c', h1, rfl, h3⟩
    have hl : rs.length = m := by rw [hm, hR, ← h1, List.length_map]
    exact ⟨rs, A', c', by rw [hR]; exact h1, by rw [hl], by rw [hl] at h3; exact h3⟩
  have HP1 := hid @P1
  have HMR := hid hm
  have HN1 := HH.hn1
  have hmb : m ≤ 4398046511000 := by omega
  clear P1 hm hR hm9
  have HSa := (Sep.start w).alloc #[.int .u32 op, .string nm, .slice A0 ni c0] 66
  go_enter Try.func11, Try.ntmps11
  go_wp2_with fail
  refine (HP1.out HSa).mono ?_
  rintro e w2 ⟨rs, A5, c5, hout, rfl, HS2⟩
  have HOUT := hid hout
  clear hout HSa
  have HS3 := HS2.nil 9 1
  have w1 : IntKind.i64.wrap ((n1 : Int) - 1) = n1 - 1 := by rw [IntKind.wrap_i64]; omega
  go_wp2_with fail
  clear w1
  go_loopw [6, 7, 8] (fun a b i wr => ∃ (q j cj : Nat) (B : Option Addr) (at' : Int) (xs : List Value), q ≤ n1 ∧ i = .int .i64 ((q : Int) - 1) ∧ a = .int .i64 at' ∧ b = .slice B j cj ∧ j ≤ n1 - q ∧ Aside (at' = atI vs nm q) ∧ Aside (j = (namesL vs q).length) ∧ Aside (xs = srow (namesL vs q)) ∧
    Sep w wr (fun _ => False) (own 9 1 B j cj xs :: own 35 3 A5 m c5 (rrow rs) :: dataA 5 rs :: blk w.heap.size 66 #[.int .u32 op, .string nm, .slice A0 ni c0] :: [])) (fun _ _ i _ => (intOf i + 1).toNat)
  case atStart => exact ⟨n1, 0, 0, none, -1, [], Nat.le_refl _, rfl, rfl, rfl, by omega, ⟨by rw [← HH.hvl, atI_end]⟩, ⟨by rw [← HH.hvl, namesL_end]; rfl⟩, ⟨by rw [← HH.hvl, namesL_end]; rfl⟩, HS3⟩
  case round =>
    obtain ⟨q, j, cj, B, at', xs, hq, rfl, rfl, rfl, hjn, hat, hjl, hxs, HSq⟩ := hrel
    clear HS2 HS3
    rcases q with _ | q
    · rw [show ((0 : Nat) : Int) - 1 = -1 from by decide]
      have hxs' := hxs.out
      rw [hxs'] at HSq
      have HNM := hjl
      have HAT := hat
      clear hxs' hat hxs
      have hm2 : IntKind.i64.wrap ((m : Int) - 1) = m - 1 := by rw [IntKind.wrap_i64]; omega
      have HSx : Sep w wr (fun _ => False) (own 35 3 A5 m c5 (rrow rs) :: dataA 5 rs :: own 9 1 B j cj (srow (namesL vs 0)) :: blk w.heap.size 66 #[.int .u32 op, .string nm, .slice A0 ni c0] :: []) := HSq.sel 4 [1, 2, 0, 3]
      have hj9 : j ≤ n1 := by omega
      obtain ⟨AT, hAT⟩ : ∃ AT, AT = at' := ⟨_, rfl⟩
      rw [← hAT] at HAT ⊢
      clear HSq hAT
      have HGOOD : Aside (Good R op AT) := ⟨by rw [HAT.out]; exact hgood⟩
      go_wp2_with fail
      go_loopw [9] (fun i wr => ∃ k : Nat, k ≤ m ∧ i = .int .i64 k ∧ Sep w wr (fun _ => False) (own 35 3 A5 m c5 (rrow rs) :: dataA 5 rs :: own 9 1 B j cj (srow (namesL vs 0)) :: blk w.heap.size 66 #[.int .u32 op, .string nm, .slice A0 ni c0] :: [])) (fun i _ => m - (intOf i).toNat)
      case atStart => exact ⟨0, Nat.zero_le _, rfl, HSx⟩
      case round =>
        obtain ⟨k, hk, rfl, HSk⟩ := hrel
        clear HSx
        by_cases hlt : k < m
        · obtain ⟨ad, v, hA5, hvk, x0, x1, x2⟩ := (Rb.ownAt' 0 rfl : Rb w (fun _ => False) (own 35 3 A5 m c5 (rrow rs) :: dataA 5 rs :: own 9 1 B j cj (srow (namesL vs 0)) :: blk w.heap.size 66 #[.int .u32 op, .string nm, .slice A0 ni c0] :: []) 3 A5 m (rrow rs)).repAt HSk hlt
          have hRk : R[k]? = some v.out := by rw [← HOUT.out, List.getElem?_map, hvk]; rfl
          obtain ⟨ro, rk, rA, rc, rd⟩ := v
          obtain ⟨g1, g2, g3, g4, g5⟩ := HGOOD.out.row k ro rk rd hRk
          subst g1
          have HDAT := hid ((Rb.dat 1 rfl : ∀ r ∈ rs, Rb w (fun _ => False) (own 35 3 A5 m c5 (rrow rs) :: dataA 5 rs :: own 9 1 B j cj (srow (namesL vs 0)) :: blk w.heap.size 66 #[.int .u32 ro, .string nm, .slice A0 ni c0] :: []) 1 r.A r.d.length (by8 r.d)) _ (List.mem_of_getElem? hvk))
          have HREP : Aside (∀ {W : World}, Sep w W (fun _ => False) (own 35 3 A5 m c5 (rrow rs) :: dataA 5 rs :: own 9 1 B j cj (srow (namesL vs 0)) :: blk w.heap.size 66 #[.int .u32 ro, .string nm, .slice A0 ni c0] :: []) → W.cell? (ad.add (k * 3)) = some (.int .u32 ro) ∧ W.cell? ⟨(ad.add (k * 3)).block, (ad.add (k * 3)).off + 1, none⟩ = some (.int .u32 rk) ∧ W.cell? ⟨(ad.add (k * 3)).block, (ad.add (k * 3)).off + 2, none⟩ = some (.slice rA rd.length rc)) := ⟨by
            intro W H
            obtain ⟨ad', u, hA, hu, y0, y1, y2⟩ := (Rb.ownAt' 0 rfl : Rb w (fun _ => False) (own 35 3 A5 m c5 (rrow rs) :: dataA 5 rs :: own 9 1 B j cj (srow (namesL vs 0)) :: blk w.heap.size 66 #[.int .u32 ro, .string nm, .slice A0 ni c0] :: []) 3 A5 m (rrow rs)).repAt H hlt
            rw [hA5] at hA
            injection hA with hA
            subst hA
            rw [hvk] at hu
            injection hu with hu
            subst hu
            exact ⟨y0, y1, y2⟩⟩
          have e1 : rawE rd = 0 := by unfold rawE; rw [if_neg (by omega)]
          have e2 : (rawB mRe [ro, rk] rd).length = 20 + rd.length := by
            unfold rawB
            rw [if_neg (by omega)]
            unfold rawL
            rw [List.length_append, List.length_append, be_len, b4s_len]
            simp
          have HPUT := hid (hPutReply_calls (op := ro) (kd := rk) (c := rc) HSk HDAT.out HH.op.1 HH.op.2 g3 g4)
          rw [e1, e2] at HPUT
          have y1 : IntKind.i64.wrap (20 + (rd.length : Int)) = 20 + rd.length := by rw [IntKind.wrap_i64]; omega
          have hkm : (k : Int) < m := by omega
          have hk0 : (0 : Int) ≤ k := by omega
          dsimp only at x0 x1 x2
          generalize rawB mRe [ro, rk] rd = rb at HPUT
          have key : ∃ b1 b2 b3 b4 : Bool, (rk == 1) = b1 ∧ ((k : Int) == (m : Int) - 1) = b2 ∧ decide (0 ≤ AT) = b3 ∧ decide ((ro : Int) < 6) = b4 ∧ (b2 = false ∧ b1 = false ∨ b2 = true ∧ (b3 = true ∧ b1 = true ∨ b3 = false ∧ (b4 = true ∧ b1 = true ∨ b4 = false ∧ b1 = false))) := by
            refine ⟨_, _, _, _, rfl, rfl, rfl, rfl, ?_⟩
            have hml := HMR.out
            by_cases q1 : (k : Int) = (m : Int) - 1
            · have q1' : k + 1 = R.length := by omega
              right
              refine ⟨by simpa using q1, ?_⟩
              by_cases q2 : 0 ≤ AT
              · left
                exact ⟨decide_eq_true q2, by simpa using g5.2 ⟨q1', .inl q2⟩⟩
              · right
                refine ⟨decide_eq_false q2, ?_⟩
                by_cases q3 : (ro : Int) < 6
                · exact .inl ⟨decide_eq_true q3, by simpa using g5.2 ⟨q1', .inr q3⟩⟩
                · exact .inr ⟨decide_eq_false q3, by simpa using fun e => absurd (g5.1 e).2 (by omega)⟩
            · left
              refine ⟨by simpa using q1, ?_⟩
              have : rk ≠ 1 := fun e => by have := (g5.1 e).1; omega
              simpa using this
          obtain ⟨b1, b2, b3, b4, f1, f2, f3, f4, f5⟩ := key
          clear g5 hvk hRk e1 e2 g2 g3 g4
          subst hA5
          rcases f5 with ⟨rfl, rfl⟩ | ⟨rfl, ⟨rfl, rfl⟩ | ⟨rfl, ⟨rfl, rfl⟩ | ⟨rfl, rfl⟩⟩⟩
          all_goals (try exact absurd f4 (by decide))
          all_goals
            go_wp2_with fail
            refine HPUT.out.mono ?_
            rintro e w8 ⟨A8, c8, rfl, HS8⟩
            have HS9 := HS8.drop
            clear x0 x1 x2 HS8
            obtain ⟨x0, x1, x2⟩ := HREP.out HS9
            have o0 := HS9.up3.blk_at 0 rfl
            go_upto_region 15 with (fail)
            go_quiet (fail)
            have HS10 := HS9.drewN nq
            clear x0 x1 x2 o0 HS9
            go_wp2
            go_roundw
            case rel => exact ⟨k + 1, by omega, by go_num, HS10⟩
            case measure => simp [intOf]; omega
        · obtain rfl : m = k := by omega
          have hkm : ¬ (m : Int) < m := by omega
          have o0 := HSk.up3.blk_at 0 rfl
          obtain rfl : m = 0 := by rw [HMR.out, HRR.out]; rfl
          go_wp2_with fail
          refine (wakes_calls HSk).mono ?_
          rintro e w20 ⟨rfl, HS20⟩
          go_wp2
          go_ret
          exact ⟨rfl, HS20.below⟩
    · rw [show ((q + 1 : Nat) : Int) - 1 = q from by omega]
      have hlt : q < n1 := by omega
      obtain ⟨ad, v, rfl, hvk, -, x1, -, -, -, -⟩ := (HH.r1 _).volAt HSq hlt
      have x1d := x1
      have o1 := HSq.up3.blk_at 1 rfl
      have HVK := hid hvk
      have jq : (q : Int) < n1 := by omega
      have jq0 : (0 : Int) ≤ q := by omega
      have wq : IntKind.i64.wrap ((q : Int) - 1) = q - 1 := by rw [IntKind.wrap_i64]; omega
      obtain ⟨vnm, hvnm⟩ : ∃ x, x = v.nm := ⟨_, rfl⟩
      rw [← hvnm] at x1 x1d
      have HVN := hid hvnm
      clear hvk hvnm
      have HVOL : Aside (∀ {W : World} {L' : List Asr}, Sep w W (fun _ => False) L' → W.cell? ⟨(ad.add (q * 6)).block, (ad.add (q * 6)).off + 1, none⟩ = some (.string vnm)) := ⟨by
        intro W L' H
        obtain ⟨ad', u, hA, hu, -, y1, -, -, -, -⟩ := (HH.r1 _).volAt H hlt
        injection hA with hA
        subst hA
        rw [HVK.out] at hu
        injection hu with hu
        subst hu
        rw [HVN.out]
        exact y1⟩
      rcases hB : (vnm.toList == nm.toList) with _ | _
      all_goals
        have HB := hid hB
        go_upto_region 7 with (fail)
        go_quiet (fail)
        obtain ⟨w6, hw6, HS6⟩ := Someone (HSq.drewN nq)
        rw [← hw6]
        clear x1 x1d o1 hw6 hB
        have x1 := HVOL.out HS6
        by_cases h16 : vnm.size ≤ 16
        · have k16 : (vnm.size : Int) ≤ 16 := by omega
          have HL := HS6.lit #[.string vnm] 9 1 1 rfl (by decide)
          have hrd := HL.rd1
          have hb1 : 1 + j ≤ maxLen := by simp only [maxLen]; omega
          have hb2 : (1 + j) * 16 ≤ 140737488355328 := by omega
          have hx1 : ∀ u ∈ xs, u.oneCell' = true := by rw [hxs.out]; exact srow_one _
          have HX1 := hid hx1
          have x1l := HVOL.out HL
          have H16 := hid h16
          clear hx1 h16
          go_wp2_with (at_builtin; (refine wpList_append_sep rfl (.tmp 49) (.tmp 50) 118 rfl 9 i0 _ 1 16 Try.underlying118 hi0 hz0 hz1 hz2 rfl (by decide) rfl HL rfl hrd HX1.out hb1 hb2 rfl rfl ?_; intro B7 c7 w7 HS7 hsz7))
          go_roundw
          case rel =>
            refine ⟨q, 1 + j, c7, B7, _, _, by omega, rfl, rfl, rfl, by omega, ⟨?_⟩, ⟨?_⟩, ⟨?_⟩, HS7.sel 5 [0, 2, 3, 4]⟩
            · first
                | (rw [atI_no HVK.out (by rw [← HVN.out]; exact HB.out)]; exact hat.out)
                | (rw [atI_yes HVK.out (by rw [← HVN.out]; exact HB.out)])
            · rw [namesL_yes HVK.out (by rw [← HVN.out]; exact H16.out), List.length_cons, ← hjl.out]; omega
            · rw [namesL_yes HVK.out (by rw [← HVN.out]; exact H16.out), hxs.out, ← HVN.out]; rfl
          case measure => simp only [intOf]; omega
        · have k16 : ¬ (vnm.size : Int) ≤ 16 := by omega
          have H16 := hid h16
          clear h16
          go_wp2
          go_roundw
          case rel =>
            refine ⟨q, j, cj, B, _, xs, by omega, rfl, rfl, rfl, by omega, ⟨?_⟩, ⟨?_⟩, ⟨?_⟩, HS6⟩
            · first
                | (rw [atI_no HVK.out (by rw [← HVN.out]; exact HB.out)]; exact hat.out)
                | (rw [atI_yes HVK.out (by rw [← HVN.out]; exact HB.out)])
            · rw [namesL_no HVK.out (by rw [← HVN.out]; exact H16.out)]; exact hjl.out
            · rw [namesL_no HVK.out (by rw [← HVN.out]; exact H16.out)]; exact hxs.out
          case measure => simp only [intOf]; omega

set_option maxHeartbeats 16000000 in
set_option maxRecDepth 100000 in
theorem tells_3 {w : World} {nm : ByteArray} {A0 A1 : Option Addr} {ni c0 n1 c1 : Nat} {inf : List Int} {vs : List Vol} (HH : Ht w 3 nm A0 ni c0 inf A1 n1 vs)  :
    Calls Try.prog 11 #[.agg #[.int .u32 3, .string nm, .slice A0 ni c0], .slice A1 n1 c1] w fun e w' => e = .returned (.bool true) ∧ Below w.heap.size w w' := by
  obtain ⟨R, hR⟩ : ∃ R, R = ansR 3 nm inf vs := ⟨_, rfl⟩
  have hgood : Good R 3 (atI vs nm 0) := by
    rw [hR, show ansR 3 nm inf vs = namR 3 vs ++ [(3, 1, [])] from if_pos rfl]
    exact namR_good _ _
  have HRR : Aside (R = namR 3 vs ++ [(3, 1, [])]) := ⟨by
    rw [hR]; exact if_pos rfl
    ⟩
  obtain ⟨i0, hi0, hz0, hz1, hz2⟩ := info_parts info_strs
  obtain ⟨m, hm⟩ : ∃ m, m = R.length := ⟨_, rfl⟩
  have hm9 : m ≤ n1 + 4 := by rw [hm, hR, ← HH.hvl]; exact ansR_len _ _ _ _
  have P1 : ∀ {W : World} {L' : List Asr}, Sep w W (fun _ => False) L' → Calls Try.prog 28 #[.agg #[.int .u32 3, .string nm, .slice A0 ni c0], .slice A1 n1 c1] W fun e w' => ∃ (rs : List Rp) (A' : Option Addr) (c' : Nat), rs.map Rp.out = R ∧ e = .returned (.slice A' m c') ∧ Sep w w' (fun _ => False) (own 35 3 A' m c' (rrow rs) :: dataA 5 rs :: L') := by
    intro W L' H
    refine (answers_calls H (HH.r1 _) HH.hvl HH.hn1 HH.ok (HH.r0 _) (by have := HH.hni; omega)).mono ?_
    rintro e w' ⟨rs, A', c', h1, rfl, h3⟩
    have hl : rs.length = m := by rw [hm, hR, ← h1, List.length_map]
    exact ⟨rs, A', c', by rw [hR]; exact h1, by rw [hl], by rw [hl] at h3; exact h3⟩
  have HP1 := hid @P1
  have HMR := hid hm
  have HN1 := HH.hn1
  have hmb : m ≤ 4398046511000 := by omega
  clear P1 hm hR hm9
  have HSa := (Sep.start w).alloc #[.int .u32 3, .string nm, .slice A0 ni c0] 66
  go_enter Try.func11, Try.ntmps11
  go_wp2_with fail
  refine (HP1.out HSa).mono ?_
  rintro e w2 ⟨rs, A5, c5, hout, rfl, HS2⟩
  have HOUT := hid hout
  clear hout HSa
  have HS3 := HS2.nil 9 1
  have w1 : IntKind.i64.wrap ((n1 : Int) - 1) = n1 - 1 := by rw [IntKind.wrap_i64]; omega
  go_wp2_with fail
  clear w1
  go_loopw [6, 7, 8] (fun a b i wr => ∃ (q j cj : Nat) (B : Option Addr) (at' : Int) (xs : List Value), q ≤ n1 ∧ i = .int .i64 ((q : Int) - 1) ∧ a = .int .i64 at' ∧ b = .slice B j cj ∧ j ≤ n1 - q ∧ Aside (at' = atI vs nm q) ∧ Aside (j = (namesL vs q).length) ∧ Aside (xs = srow (namesL vs q)) ∧
    Sep w wr (fun _ => False) (own 9 1 B j cj xs :: own 35 3 A5 m c5 (rrow rs) :: dataA 5 rs :: blk w.heap.size 66 #[.int .u32 3, .string nm, .slice A0 ni c0] :: [])) (fun _ _ i _ => (intOf i + 1).toNat)
  case atStart => exact ⟨n1, 0, 0, none, -1, [], Nat.le_refl _, rfl, rfl, rfl, by omega, ⟨by rw [← HH.hvl, atI_end]⟩, ⟨by rw [← HH.hvl, namesL_end]; rfl⟩, ⟨by rw [← HH.hvl, namesL_end]; rfl⟩, HS3⟩
  case round =>
    obtain ⟨q, j, cj, B, at', xs, hq, rfl, rfl, rfl, hjn, hat, hjl, hxs, HSq⟩ := hrel
    clear HS2 HS3
    rcases q with _ | q
    · rw [show ((0 : Nat) : Int) - 1 = -1 from by decide]
      have hxs' := hxs.out
      rw [hxs'] at HSq
      have HNM := hjl
      have HAT := hat
      clear hxs' hat hxs
      have hm2 : IntKind.i64.wrap ((m : Int) - 1) = m - 1 := by rw [IntKind.wrap_i64]; omega
      have HSx : Sep w wr (fun _ => False) (own 35 3 A5 m c5 (rrow rs) :: dataA 5 rs :: own 9 1 B j cj (srow (namesL vs 0)) :: blk w.heap.size 66 #[.int .u32 3, .string nm, .slice A0 ni c0] :: []) := HSq.sel 4 [1, 2, 0, 3]
      have hj9 : j ≤ n1 := by omega
      obtain ⟨AT, hAT⟩ : ∃ AT, AT = at' := ⟨_, rfl⟩
      rw [← hAT] at HAT ⊢
      clear HSq hAT
      have HGOOD : Aside (Good R 3 AT) := ⟨by rw [HAT.out]; exact hgood⟩
      go_wp2_with fail
      go_loopw [9] (fun i wr => ∃ k : Nat, k ≤ m ∧ i = .int .i64 k ∧ Sep w wr (fun _ => False) (own 35 3 A5 m c5 (rrow rs) :: dataA 5 rs :: own 9 1 B j cj (srow (namesL vs 0)) :: blk w.heap.size 66 #[.int .u32 3, .string nm, .slice A0 ni c0] :: [])) (fun i _ => m - (intOf i).toNat)
      case atStart => exact ⟨0, Nat.zero_le _, rfl, HSx⟩
      case round =>
        obtain ⟨k, hk, rfl, HSk⟩ := hrel
        clear HSx
        by_cases hlt : k < m
        · obtain ⟨ad, v, hA5, hvk, x0, x1, x2⟩ := (Rb.ownAt' 0 rfl : Rb w (fun _ => False) (own 35 3 A5 m c5 (rrow rs) :: dataA 5 rs :: own 9 1 B j cj (srow (namesL vs 0)) :: blk w.heap.size 66 #[.int .u32 3, .string nm, .slice A0 ni c0] :: []) 3 A5 m (rrow rs)).repAt HSk hlt
          have hRk : R[k]? = some v.out := by rw [← HOUT.out, List.getElem?_map, hvk]; rfl
          obtain ⟨ro, rk, rA, rc, rd⟩ := v
          obtain ⟨g1, g2, g3, g4, g5⟩ := HGOOD.out.row k ro rk rd hRk
          subst g1
          have HDAT := hid ((Rb.dat 1 rfl : ∀ r ∈ rs, Rb w (fun _ => False) (own 35 3 A5 m c5 (rrow rs) :: dataA 5 rs :: own 9 1 B j cj (srow (namesL vs 0)) :: blk w.heap.size 66 #[.int .u32 3, .string nm, .slice A0 ni c0] :: []) 1 r.A r.d.length (by8 r.d)) _ (List.mem_of_getElem? hvk))
          have HREP : Aside (∀ {W : World}, Sep w W (fun _ => False) (own 35 3 A5 m c5 (rrow rs) :: dataA 5 rs :: own 9 1 B j cj (srow (namesL vs 0)) :: blk w.heap.size 66 #[.int .u32 3, .string nm, .slice A0 ni c0] :: []) → W.cell? (ad.add (k * 3)) = some (.int .u32 3) ∧ W.cell? ⟨(ad.add (k * 3)).block, (ad.add (k * 3)).off + 1, none⟩ = some (.int .u32 rk) ∧ W.cell? ⟨(ad.add (k * 3)).block, (ad.add (k * 3)).off + 2, none⟩ = some (.slice rA rd.length rc)) := ⟨by
            intro W H
            obtain ⟨ad', u, hA, hu, y0, y1, y2⟩ := (Rb.ownAt' 0 rfl : Rb w (fun _ => False) (own 35 3 A5 m c5 (rrow rs) :: dataA 5 rs :: own 9 1 B j cj (srow (namesL vs 0)) :: blk w.heap.size 66 #[.int .u32 3, .string nm, .slice A0 ni c0] :: []) 3 A5 m (rrow rs)).repAt H hlt
            rw [hA5] at hA
            injection hA with hA
            subst hA
            rw [hvk] at hu
            injection hu with hu
            subst hu
            exact ⟨y0, y1, y2⟩⟩
          have e1 : rawE rd = 0 := by unfold rawE; rw [if_neg (by omega)]
          have e2 : (rawB mRe [3, rk] rd).length = 20 + rd.length := by
            unfold rawB
            rw [if_neg (by omega)]
            unfold rawL
            rw [List.length_append, List.length_append, be_len, b4s_len]
            simp
          have HPUT := hid (hPutReply_calls (op := 3) (kd := rk) (c := rc) HSk HDAT.out HH.op.1 HH.op.2 g3 g4)
          rw [e1, e2] at HPUT
          have y1 : IntKind.i64.wrap (20 + (rd.length : Int)) = 20 + rd.length := by rw [IntKind.wrap_i64]; omega
          have hkm : (k : Int) < m := by omega
          have hk0 : (0 : Int) ≤ k := by omega
          dsimp only at x0 x1 x2
          generalize rawB mRe [3, rk] rd = rb at HPUT
          have key : ∃ b1 b2 b3 b4 : Bool, (rk == 1) = b1 ∧ ((k : Int) == (m : Int) - 1) = b2 ∧ decide (0 ≤ AT) = b3 ∧ decide ((3 : Int) < 6) = b4 ∧ (b2 = false ∧ b1 = false ∨ b2 = true ∧ (b3 = true ∧ b1 = true ∨ b3 = false ∧ (b4 = true ∧ b1 = true ∨ b4 = false ∧ b1 = false))) := by
            refine ⟨_, _, _, _, rfl, rfl, rfl, rfl, ?_⟩
            have hml := HMR.out
            by_cases q1 : (k : Int) = (m : Int) - 1
            · have q1' : k + 1 = R.length := by omega
              right
              refine ⟨by simpa using q1, ?_⟩
              by_cases q2 : 0 ≤ AT
              · left
                exact ⟨decide_eq_true q2, by simpa using g5.2 ⟨q1', .inl q2⟩⟩
              · right
                refine ⟨decide_eq_false q2, ?_⟩
                by_cases q3 : (3 : Int) < 6
                · exact .inl ⟨decide_eq_true q3, by simpa using g5.2 ⟨q1', .inr q3⟩⟩
                · exact .inr ⟨decide_eq_false q3, by simpa using fun e => absurd (g5.1 e).2 (by omega)⟩
            · left
              refine ⟨by simpa using q1, ?_⟩
              have : rk ≠ 1 := fun e => by have := (g5.1 e).1; omega
              simpa using this
          obtain ⟨b1, b2, b3, b4, f1, f2, f3, f4, f5⟩ := key
          clear g5 hvk hRk e1 e2 g2 g3 g4
          subst hA5
          rcases f5 with ⟨rfl, rfl⟩ | ⟨rfl, ⟨rfl, rfl⟩ | ⟨rfl, ⟨rfl, rfl⟩ | ⟨rfl, rfl⟩⟩⟩
          all_goals (try exact absurd f4 (by decide))
          all_goals
            go_wp2_with fail
            refine HPUT.out.mono ?_
            rintro e w8 ⟨A8, c8, rfl, HS8⟩
            have HS9 := HS8.drop
            clear x0 x1 x2 HS8
            obtain ⟨x0, x1, x2⟩ := HREP.out HS9
            have o0 := HS9.up3.blk_at 0 rfl
            go_upto_region 15 with (fail)
            go_quiet (fail)
            have HS10 := HS9.drewN nq
            clear x0 x1 x2 o0 HS9
            go_wp2
            go_roundw
            case rel => exact ⟨k + 1, by omega, by go_num, HS10⟩
            case measure => simp [intOf]; omega
        · obtain rfl : m = k := by omega
          have hkm : ¬ (m : Int) < m := by omega
          have o0 := HSk.up3.blk_at 0 rfl
          obtain ⟨jn, hjn2⟩ : ∃ jn, jn = j := ⟨_, rfl⟩
          have hmj : m = jn + 1 := by rw [HMR.out, HRR.out, namR_names, List.length_append, List.length_map, hjn2, HNM.out]; rfl
          have HNL : Aside (jn = (namesL vs 0).length) := ⟨by rw [hjn2]; exact HNM.out⟩
          have kj : ((m : Int) == (jn : Int) + 1) = true := by simp; omega
          have wj : IntKind.i64.wrap ((jn : Int) + 1) = jn + 1 := by rw [IntKind.wrap_i64]; omega
          have kj2 : ((m : Int) != (jn : Int) + 1) = false := by simp; omega
          rw [← hjn2] at HSk ⊢
          have hjn9 : jn ≤ n1 := by omega
          have HMJ := hid hmj
          clear hjn2 hmj
          go_wp2_with fail
          clear kj kj2 wj
          go_loopw [12] (fun i wr => ∃ k : Nat, k ≤ jn ∧ i = .int .i64 k ∧ Sep w wr (fun _ => False) (own 35 3 A5 m c5 (rrow rs) :: dataA 5 rs :: own 9 1 B jn cj (srow (namesL vs 0)) :: blk w.heap.size 66 #[.int .u32 3, .string nm, .slice A0 ni c0] :: [])) (fun i _ => jn - (intOf i).toNat)
          case atStart => exact ⟨0, Nat.zero_le _, rfl, HSk⟩
          case round =>
            obtain ⟨k, hk, rfl, HSl⟩ := hrel
            clear HSk o0
            by_cases hlt : k < jn
            · have hkl : k < (namesL vs 0).length := by rw [← HNL.out]; exact hlt
              have hsk : (namesL vs 0)[k]? = some (namesL vs 0)[k] := List.getElem?_eq_getElem hkl
              obtain ⟨s, hs⟩ : ∃ s, s = (namesL vs 0)[k] := ⟨_, rfl⟩
              rw [← hs] at hsk
              have hs16 : s.size ≤ 16 := namesL_16 s (List.mem_of_getElem? hsk)
              clear hs
              have hlm : k < m := by have := HMJ.out; omega
              obtain ⟨ad, v, hA5, hvk, x0, x1, x2⟩ := (Rb.ownAt' 0 rfl : Rb w (fun _ => False) (own 35 3 A5 m c5 (rrow rs) :: dataA 5 rs :: own 9 1 B jn cj (srow (namesL vs 0)) :: blk w.heap.size 66 #[.int .u32 3, .string nm, .slice A0 ni c0] :: []) 3 A5 m (rrow rs)).repAt HSl hlm
              have hRk : R[k]? = some v.out := by rw [← HOUT.out, List.getElem?_map, hvk]; rfl
              rw [HRR.out, namR_names, List.getElem?_append_left (by rw [List.length_map]; exact hkl), List.getElem?_map, hsk, Option.map_some] at hRk
              injection hRk with hRk
              obtain ⟨ro, rk, rA, rc, rd⟩ := v
              simp only [Rp.out, Prod.mk.injEq] at hRk
              obtain ⟨rfl, rfl, rfl⟩ := hRk
              have HDAT := hid ((Rb.dat 1 rfl : ∀ r ∈ rs, Rb w (fun _ => False) (own 35 3 A5 m c5 (rrow rs) :: dataA 5 rs :: own 9 1 B jn cj (srow (namesL vs 0)) :: blk w.heap.size 66 #[.int .u32 3, .string nm, .slice A0 ni c0] :: []) 1 r.A r.d.length (by8 r.d)) _ (List.mem_of_getElem? hvk))
              obtain ⟨n1', n2', n3', n4', n5'⟩ := name_back hs16
              have HTN : Aside (Calls Try.prog 55 #[.slice rA (nameB s).length rc] wr fun e w2 => e = .returned (.tuple #[.string s, .int .i64 0]) ∧ Sep w w2 (fun _ => False) (own 35 3 A5 m c5 (rrow rs) :: dataA 5 rs :: own 9 1 B jn cj (srow (namesL vs 0)) :: blk w.heap.size 66 #[.int .u32 3, .string nm, .slice A0 ni c0] :: [])) := ⟨by
                have := takename_calls (c := rc) HSl HDAT.out n4' (by dsimp only; omega)
                unfold TnOut at this
                rw [n2', n3'] at this
                exact this⟩
              have HREP : Aside (∀ {W : World}, Sep w W (fun _ => False) (own 35 3 A5 m c5 (rrow rs) :: dataA 5 rs :: own 9 1 B jn cj (srow (namesL vs 0)) :: blk w.heap.size 66 #[.int .u32 3, .string nm, .slice A0 ni c0] :: []) → W.cell? ⟨(ad.add (k * 3)).block, (ad.add (k * 3)).off + 1, none⟩ = some (.int .u32 2)) := ⟨by
                intro W H
                obtain ⟨ad', u, hA, hu, y0, y1, y2⟩ := (Rb.ownAt' 0 rfl : Rb w (fun _ => False) (own 35 3 A5 m c5 (rrow rs) :: dataA 5 rs :: own 9 1 B jn cj (srow (namesL vs 0)) :: blk w.heap.size 66 #[.int .u32 3, .string nm, .slice A0 ni c0] :: []) 3 A5 m (rrow rs)).repAt H hlm
                rw [hA5] at hA
                injection hA with hA
                subst hA
                rw [hvk] at hu
                injection hu with hu
                subst hu
                exact y1⟩
              have HSK := hid hsk
              dsimp only at x2
              have hkm2 : (k : Int) < m := by omega
              have hkj : (k : Int) < jn := by omega
              have hk0 : (0 : Int) ≤ k := by omega
              clear n1' n2' n3' n4' n5' hsk hvk hs16 hkl x0 x1
              generalize (nameB s).length = nl at *
              subst hA5
              go_wp2_with fail
              refine HTN.out.mono ?_
              rintro e w8 ⟨rfl, HS8⟩
              clear x2
              have y1 := HREP.out HS8
              obtain ⟨gB, hgB⟩ := HS8.up2.own_some (by omega)
              subst hgB
              have HSn := HS8.up2
              have yn : w8.cell? ⟨gB, k, none⟩ = some (.string s) := (HSn.own_cell hlt).trans (by unfold srow; rw [List.getElem?_map, HSK.out]; rfl)
              clear HSn
              go_wp2
              go_roundw
              case rel => exact ⟨k + 1, by omega, by go_num, HS8⟩
              case measure => simp [intOf]; omega
            · obtain rfl : k = jn := by omega
              have hkj : ¬ (k : Int) < k := by omega
              go_wp2_with fail
              refine (wakes_calls HSl).mono ?_
              rintro e w20 ⟨rfl, HS20⟩
              go_wp2
              go_ret
              exact ⟨rfl, HS20.below⟩
    · rw [show ((q + 1 : Nat) : Int) - 1 = q from by omega]
      have hlt : q < n1 := by omega
      obtain ⟨ad, v, rfl, hvk, -, x1, -, -, -, -⟩ := (HH.r1 _).volAt HSq hlt
      have x1d := x1
      have o1 := HSq.up3.blk_at 1 rfl
      have HVK := hid hvk
      have jq : (q : Int) < n1 := by omega
      have jq0 : (0 : Int) ≤ q := by omega
      have wq : IntKind.i64.wrap ((q : Int) - 1) = q - 1 := by rw [IntKind.wrap_i64]; omega
      obtain ⟨vnm, hvnm⟩ : ∃ x, x = v.nm := ⟨_, rfl⟩
      rw [← hvnm] at x1 x1d
      have HVN := hid hvnm
      clear hvk hvnm
      have HVOL : Aside (∀ {W : World} {L' : List Asr}, Sep w W (fun _ => False) L' → W.cell? ⟨(ad.add (q * 6)).block, (ad.add (q * 6)).off + 1, none⟩ = some (.string vnm)) := ⟨by
        intro W L' H
        obtain ⟨ad', u, hA, hu, -, y1, -, -, -, -⟩ := (HH.r1 _).volAt H hlt
        injection hA with hA
        subst hA
        rw [HVK.out] at hu
        injection hu with hu
        subst hu
        rw [HVN.out]
        exact y1⟩
      rcases hB : (vnm.toList == nm.toList) with _ | _
      all_goals
        have HB := hid hB
        go_upto_region 7 with (fail)
        go_quiet (fail)
        obtain ⟨w6, hw6, HS6⟩ := Someone (HSq.drewN nq)
        rw [← hw6]
        clear x1 x1d o1 hw6 hB
        have x1 := HVOL.out HS6
        by_cases h16 : vnm.size ≤ 16
        · have k16 : (vnm.size : Int) ≤ 16 := by omega
          have HL := HS6.lit #[.string vnm] 9 1 1 rfl (by decide)
          have hrd := HL.rd1
          have hb1 : 1 + j ≤ maxLen := by simp only [maxLen]; omega
          have hb2 : (1 + j) * 16 ≤ 140737488355328 := by omega
          have hx1 : ∀ u ∈ xs, u.oneCell' = true := by rw [hxs.out]; exact srow_one _
          have HX1 := hid hx1
          have x1l := HVOL.out HL
          have H16 := hid h16
          clear hx1 h16
          go_wp2_with (at_builtin; (refine wpList_append_sep rfl (.tmp 49) (.tmp 50) 118 rfl 9 i0 _ 1 16 Try.underlying118 hi0 hz0 hz1 hz2 rfl (by decide) rfl HL rfl hrd HX1.out hb1 hb2 rfl rfl ?_; intro B7 c7 w7 HS7 hsz7))
          go_roundw
          case rel =>
            refine ⟨q, 1 + j, c7, B7, _, _, by omega, rfl, rfl, rfl, by omega, ⟨?_⟩, ⟨?_⟩, ⟨?_⟩, HS7.sel 5 [0, 2, 3, 4]⟩
            · first
                | (rw [atI_no HVK.out (by rw [← HVN.out]; exact HB.out)]; exact hat.out)
                | (rw [atI_yes HVK.out (by rw [← HVN.out]; exact HB.out)])
            · rw [namesL_yes HVK.out (by rw [← HVN.out]; exact H16.out), List.length_cons, ← hjl.out]; omega
            · rw [namesL_yes HVK.out (by rw [← HVN.out]; exact H16.out), hxs.out, ← HVN.out]; rfl
          case measure => simp only [intOf]; omega
        · have k16 : ¬ (vnm.size : Int) ≤ 16 := by omega
          have H16 := hid h16
          clear h16
          go_wp2
          go_roundw
          case rel =>
            refine ⟨q, j, cj, B, _, xs, by omega, rfl, rfl, rfl, by omega, ⟨?_⟩, ⟨?_⟩, ⟨?_⟩, HS6⟩
            · first
                | (rw [atI_no HVK.out (by rw [← HVN.out]; exact HB.out)]; exact hat.out)
                | (rw [atI_yes HVK.out (by rw [← HVN.out]; exact HB.out)])
            · rw [namesL_no HVK.out (by rw [← HVN.out]; exact H16.out)]; exact hjl.out
            · rw [namesL_no HVK.out (by rw [← HVN.out]; exact H16.out)]; exact hxs.out
          case measure => simp only [intOf]; omega

set_option maxHeartbeats 16000000 in
set_option maxRecDepth 100000 in
theorem tells_6n {w : World} {nm : ByteArray} {A0 A1 : Option Addr} {ni c0 n1 c1 : Nat} {inf : List Int} {vs : List Vol} (HH : Ht w 6 nm A0 ni c0 inf A1 n1 vs) (hp : vPos vs nm = none) :
    Calls Try.prog 11 #[.agg #[.int .u32 6, .string nm, .slice A0 ni c0], .slice A1 n1 c1] w fun e w' => e = .returned (.bool true) ∧ Below w.heap.size w w' := by
  have HPN := hid hp
  obtain ⟨R, hR⟩ : ∃ R, R = ansR 6 nm inf vs := ⟨_, rfl⟩
  have hgood : Good R 6 (atI vs nm 0) := by
    have ha : atI vs nm 0 = -1 := by
      rcases atI_zero vs nm with ⟨_, h⟩ | ⟨k, h, _⟩
      · exact h
      · rw [hp] at h; cases h
    rw [hR, ha, show ansR 6 nm inf vs = [(6, 2147483654, [])] from by unfold ansR; rw [if_neg (by decide), if_pos (by decide), hp]; rfl]
    exact miss_good (by decide)
  have HRR : Aside (R = [(6, 2147483654, [])]) := ⟨by
    rw [hR]; unfold ansR; rw [if_neg (by decide), if_pos (by decide), hp]; rfl
    ⟩
  obtain ⟨i0, hi0, hz0, hz1, hz2⟩ := info_parts info_strs
  obtain ⟨m, hm⟩ : ∃ m, m = R.length := ⟨_, rfl⟩
  have hm9 : m ≤ n1 + 4 := by rw [hm, hR, ← HH.hvl]; exact ansR_len _ _ _ _
  have P1 : ∀ {W : World} {L' : List Asr}, Sep w W (fun _ => False) L' → Calls Try.prog 28 #[.agg #[.int .u32 6, .string nm, .slice A0 ni c0], .slice A1 n1 c1] W fun e w' => ∃ (rs : List Rp) (A' : Option Addr) (c' : Nat), rs.map Rp.out = R ∧ e = .returned (.slice A' m c') ∧ Sep w w' (fun _ => False) (own 35 3 A' m c' (rrow rs) :: dataA 5 rs :: L') := by
    intro W L' H
    refine (answers_calls H (HH.r1 _) HH.hvl HH.hn1 HH.ok (HH.r0 _) (by have := HH.hni; omega)).mono ?_
    rintro e w' ⟨rs, A', c', h1, rfl, h3⟩
    have hl : rs.length = m := by rw [hm, hR, ← h1, List.length_map]
    exact ⟨rs, A', c', by rw [hR]; exact h1, by rw [hl], by rw [hl] at h3; exact h3⟩
  have HP1 := hid @P1
  have HMR := hid hm
  have HN1 := HH.hn1
  have hmb : m ≤ 4398046511000 := by omega
  clear P1 hm hR hm9
  have HSa := (Sep.start w).alloc #[.int .u32 6, .string nm, .slice A0 ni c0] 66
  go_enter Try.func11, Try.ntmps11
  go_wp2_with fail
  refine (HP1.out HSa).mono ?_
  rintro e w2 ⟨rs, A5, c5, hout, rfl, HS2⟩
  have HOUT := hid hout
  clear hout HSa
  have HS3 := HS2.nil 9 1
  have w1 : IntKind.i64.wrap ((n1 : Int) - 1) = n1 - 1 := by rw [IntKind.wrap_i64]; omega
  go_wp2_with fail
  clear w1
  go_loopw [6, 7, 8] (fun a b i wr => ∃ (q j cj : Nat) (B : Option Addr) (at' : Int) (xs : List Value), q ≤ n1 ∧ i = .int .i64 ((q : Int) - 1) ∧ a = .int .i64 at' ∧ b = .slice B j cj ∧ j ≤ n1 - q ∧ Aside (at' = atI vs nm q) ∧ Aside (j = (namesL vs q).length) ∧ Aside (xs = srow (namesL vs q)) ∧
    Sep w wr (fun _ => False) (own 9 1 B j cj xs :: own 35 3 A5 m c5 (rrow rs) :: dataA 5 rs :: blk w.heap.size 66 #[.int .u32 6, .string nm, .slice A0 ni c0] :: [])) (fun _ _ i _ => (intOf i + 1).toNat)
  case atStart => exact ⟨n1, 0, 0, none, -1, [], Nat.le_refl _, rfl, rfl, rfl, by omega, ⟨by rw [← HH.hvl, atI_end]⟩, ⟨by rw [← HH.hvl, namesL_end]; rfl⟩, ⟨by rw [← HH.hvl, namesL_end]; rfl⟩, HS3⟩
  case round =>
    obtain ⟨q, j, cj, B, at', xs, hq, rfl, rfl, rfl, hjn, hat, hjl, hxs, HSq⟩ := hrel
    clear HS2 HS3
    rcases q with _ | q
    · rw [show ((0 : Nat) : Int) - 1 = -1 from by decide]
      have hxs' := hxs.out
      rw [hxs'] at HSq
      have HNM := hjl
      have HAT := hat
      clear hxs' hat hxs
      have hm2 : IntKind.i64.wrap ((m : Int) - 1) = m - 1 := by rw [IntKind.wrap_i64]; omega
      have HSx : Sep w wr (fun _ => False) (own 35 3 A5 m c5 (rrow rs) :: dataA 5 rs :: own 9 1 B j cj (srow (namesL vs 0)) :: blk w.heap.size 66 #[.int .u32 6, .string nm, .slice A0 ni c0] :: []) := HSq.sel 4 [1, 2, 0, 3]
      have hj9 : j ≤ n1 := by omega
      obtain ⟨AT, hAT⟩ : ∃ AT, AT = at' := ⟨_, rfl⟩
      rw [← hAT] at HAT ⊢
      clear HSq hAT
      have HGOOD : Aside (Good R 6 AT) := ⟨by rw [HAT.out]; exact hgood⟩
      go_wp2_with fail
      go_loopw [9] (fun i wr => ∃ k : Nat, k ≤ m ∧ i = .int .i64 k ∧ Sep w wr (fun _ => False) (own 35 3 A5 m c5 (rrow rs) :: dataA 5 rs :: own 9 1 B j cj (srow (namesL vs 0)) :: blk w.heap.size 66 #[.int .u32 6, .string nm, .slice A0 ni c0] :: [])) (fun i _ => m - (intOf i).toNat)
      case atStart => exact ⟨0, Nat.zero_le _, rfl, HSx⟩
      case round =>
        obtain ⟨k, hk, rfl, HSk⟩ := hrel
        clear HSx
        by_cases hlt : k < m
        · obtain ⟨ad, v, hA5, hvk, x0, x1, x2⟩ := (Rb.ownAt' 0 rfl : Rb w (fun _ => False) (own 35 3 A5 m c5 (rrow rs) :: dataA 5 rs :: own 9 1 B j cj (srow (namesL vs 0)) :: blk w.heap.size 66 #[.int .u32 6, .string nm, .slice A0 ni c0] :: []) 3 A5 m (rrow rs)).repAt HSk hlt
          have hRk : R[k]? = some v.out := by rw [← HOUT.out, List.getElem?_map, hvk]; rfl
          obtain ⟨ro, rk, rA, rc, rd⟩ := v
          obtain ⟨g1, g2, g3, g4, g5⟩ := HGOOD.out.row k ro rk rd hRk
          subst g1
          have HDAT := hid ((Rb.dat 1 rfl : ∀ r ∈ rs, Rb w (fun _ => False) (own 35 3 A5 m c5 (rrow rs) :: dataA 5 rs :: own 9 1 B j cj (srow (namesL vs 0)) :: blk w.heap.size 66 #[.int .u32 6, .string nm, .slice A0 ni c0] :: []) 1 r.A r.d.length (by8 r.d)) _ (List.mem_of_getElem? hvk))
          have HREP : Aside (∀ {W : World}, Sep w W (fun _ => False) (own 35 3 A5 m c5 (rrow rs) :: dataA 5 rs :: own 9 1 B j cj (srow (namesL vs 0)) :: blk w.heap.size 66 #[.int .u32 6, .string nm, .slice A0 ni c0] :: []) → W.cell? (ad.add (k * 3)) = some (.int .u32 6) ∧ W.cell? ⟨(ad.add (k * 3)).block, (ad.add (k * 3)).off + 1, none⟩ = some (.int .u32 rk) ∧ W.cell? ⟨(ad.add (k * 3)).block, (ad.add (k * 3)).off + 2, none⟩ = some (.slice rA rd.length rc)) := ⟨by
            intro W H
            obtain ⟨ad', u, hA, hu, y0, y1, y2⟩ := (Rb.ownAt' 0 rfl : Rb w (fun _ => False) (own 35 3 A5 m c5 (rrow rs) :: dataA 5 rs :: own 9 1 B j cj (srow (namesL vs 0)) :: blk w.heap.size 66 #[.int .u32 6, .string nm, .slice A0 ni c0] :: []) 3 A5 m (rrow rs)).repAt H hlt
            rw [hA5] at hA
            injection hA with hA
            subst hA
            rw [hvk] at hu
            injection hu with hu
            subst hu
            exact ⟨y0, y1, y2⟩⟩
          have e1 : rawE rd = 0 := by unfold rawE; rw [if_neg (by omega)]
          have e2 : (rawB mRe [6, rk] rd).length = 20 + rd.length := by
            unfold rawB
            rw [if_neg (by omega)]
            unfold rawL
            rw [List.length_append, List.length_append, be_len, b4s_len]
            simp
          have HPUT := hid (hPutReply_calls (op := 6) (kd := rk) (c := rc) HSk HDAT.out HH.op.1 HH.op.2 g3 g4)
          rw [e1, e2] at HPUT
          have y1 : IntKind.i64.wrap (20 + (rd.length : Int)) = 20 + rd.length := by rw [IntKind.wrap_i64]; omega
          have hkm : (k : Int) < m := by omega
          have hk0 : (0 : Int) ≤ k := by omega
          dsimp only at x0 x1 x2
          generalize rawB mRe [6, rk] rd = rb at HPUT
          have key : ∃ b1 b2 b3 b4 : Bool, (rk == 1) = b1 ∧ ((k : Int) == (m : Int) - 1) = b2 ∧ decide (0 ≤ AT) = b3 ∧ decide ((6 : Int) < 6) = b4 ∧ (b2 = false ∧ b1 = false ∨ b2 = true ∧ (b3 = true ∧ b1 = true ∨ b3 = false ∧ (b4 = true ∧ b1 = true ∨ b4 = false ∧ b1 = false))) := by
            refine ⟨_, _, _, _, rfl, rfl, rfl, rfl, ?_⟩
            have hml := HMR.out
            by_cases q1 : (k : Int) = (m : Int) - 1
            · have q1' : k + 1 = R.length := by omega
              right
              refine ⟨by simpa using q1, ?_⟩
              by_cases q2 : 0 ≤ AT
              · left
                exact ⟨decide_eq_true q2, by simpa using g5.2 ⟨q1', .inl q2⟩⟩
              · right
                refine ⟨decide_eq_false q2, ?_⟩
                by_cases q3 : (6 : Int) < 6
                · exact .inl ⟨decide_eq_true q3, by simpa using g5.2 ⟨q1', .inr q3⟩⟩
                · exact .inr ⟨decide_eq_false q3, by simpa using fun e => absurd (g5.1 e).2 (by omega)⟩
            · left
              refine ⟨by simpa using q1, ?_⟩
              have : rk ≠ 1 := fun e => by have := (g5.1 e).1; omega
              simpa using this
          obtain ⟨b1, b2, b3, b4, f1, f2, f3, f4, f5⟩ := key
          clear g5 hvk hRk e1 e2 g2 g3 g4
          subst hA5
          rcases f5 with ⟨rfl, rfl⟩ | ⟨rfl, ⟨rfl, rfl⟩ | ⟨rfl, ⟨rfl, rfl⟩ | ⟨rfl, rfl⟩⟩⟩
          all_goals (try exact absurd f4 (by decide))
          all_goals
            go_wp2_with fail
            refine HPUT.out.mono ?_
            rintro e w8 ⟨A8, c8, rfl, HS8⟩
            have HS9 := HS8.drop
            clear x0 x1 x2 HS8
            obtain ⟨x0, x1, x2⟩ := HREP.out HS9
            have o0 := HS9.up3.blk_at 0 rfl
            go_upto_region 15 with (fail)
            go_quiet (fail)
            have HS10 := HS9.drewN nq
            clear x0 x1 x2 o0 HS9
            go_wp2
            go_roundw
            case rel => exact ⟨k + 1, by omega, by go_num, HS10⟩
            case measure => simp [intOf]; omega
        · obtain rfl : m = k := by omega
          have hkm : ¬ (m : Int) < m := by omega
          have o0 := HSk.up3.blk_at 0 rfl
          obtain rfl : m = 1 := by rw [HMR.out, HRR.out]; rfl
          have hAT : AT = -1 := by
            rw [HAT.out]
            rcases atI_zero vs nm with ⟨_, h⟩ | ⟨k, h, _⟩
            · exact h
            · rw [HPN.out] at h; cases h
          subst hAT
          obtain ⟨ad, v, rfl, hvk, x0, x1, x2⟩ := (Rb.ownAt' 0 rfl : Rb w (fun _ => False) (own 35 3 A5 1 c5 (rrow rs) :: dataA 5 rs :: own 9 1 B j cj (srow (namesL vs 0)) :: blk w.heap.size 66 #[.int .u32 6, .string nm, .slice A0 ni c0] :: []) 3 A5 1 (rrow rs)).repAt HSk (k := 0) (by decide)
          have hRk : R[0]? = some v.out := by rw [← HOUT.out, List.getElem?_map, hvk]; rfl
          rw [HRR.out] at hRk
          simp at hRk
          obtain ⟨ro, rk, rA, rc, rd⟩ := v
          simp only [Rp.out, Prod.mk.injEq] at hRk
          obtain ⟨rfl, rfl, rfl⟩ := hRk
          dsimp only at x0 x1 x2
          rw [show (0 : Nat) * 3 = 0 from rfl, show ad.add 0 = ad by simp [Addr.add]] at x0 x1 x2
          clear x0 x2 hvk
          go_wp2_with fail
          refine (wakes_calls HSk).mono ?_
          rintro e w20 ⟨rfl, HS20⟩
          go_wp2
          go_ret
          exact ⟨rfl, HS20.below⟩
    · rw [show ((q + 1 : Nat) : Int) - 1 = q from by omega]
      have hlt : q < n1 := by omega
      obtain ⟨ad, v, rfl, hvk, -, x1, -, -, -, -⟩ := (HH.r1 _).volAt HSq hlt
      have x1d := x1
      have o1 := HSq.up3.blk_at 1 rfl
      have HVK := hid hvk
      have jq : (q : Int) < n1 := by omega
      have jq0 : (0 : Int) ≤ q := by omega
      have wq : IntKind.i64.wrap ((q : Int) - 1) = q - 1 := by rw [IntKind.wrap_i64]; omega
      obtain ⟨vnm, hvnm⟩ : ∃ x, x = v.nm := ⟨_, rfl⟩
      rw [← hvnm] at x1 x1d
      have HVN := hid hvnm
      clear hvk hvnm
      have HVOL : Aside (∀ {W : World} {L' : List Asr}, Sep w W (fun _ => False) L' → W.cell? ⟨(ad.add (q * 6)).block, (ad.add (q * 6)).off + 1, none⟩ = some (.string vnm)) := ⟨by
        intro W L' H
        obtain ⟨ad', u, hA, hu, -, y1, -, -, -, -⟩ := (HH.r1 _).volAt H hlt
        injection hA with hA
        subst hA
        rw [HVK.out] at hu
        injection hu with hu
        subst hu
        rw [HVN.out]
        exact y1⟩
      rcases hB : (vnm.toList == nm.toList) with _ | _
      all_goals
        have HB := hid hB
        go_upto_region 7 with (fail)
        go_quiet (fail)
        obtain ⟨w6, hw6, HS6⟩ := Someone (HSq.drewN nq)
        rw [← hw6]
        clear x1 x1d o1 hw6 hB
        have x1 := HVOL.out HS6
        by_cases h16 : vnm.size ≤ 16
        · have k16 : (vnm.size : Int) ≤ 16 := by omega
          have HL := HS6.lit #[.string vnm] 9 1 1 rfl (by decide)
          have hrd := HL.rd1
          have hb1 : 1 + j ≤ maxLen := by simp only [maxLen]; omega
          have hb2 : (1 + j) * 16 ≤ 140737488355328 := by omega
          have hx1 : ∀ u ∈ xs, u.oneCell' = true := by rw [hxs.out]; exact srow_one _
          have HX1 := hid hx1
          have x1l := HVOL.out HL
          have H16 := hid h16
          clear hx1 h16
          go_wp2_with (at_builtin; (refine wpList_append_sep rfl (.tmp 49) (.tmp 50) 118 rfl 9 i0 _ 1 16 Try.underlying118 hi0 hz0 hz1 hz2 rfl (by decide) rfl HL rfl hrd HX1.out hb1 hb2 rfl rfl ?_; intro B7 c7 w7 HS7 hsz7))
          go_roundw
          case rel =>
            refine ⟨q, 1 + j, c7, B7, _, _, by omega, rfl, rfl, rfl, by omega, ⟨?_⟩, ⟨?_⟩, ⟨?_⟩, HS7.sel 5 [0, 2, 3, 4]⟩
            · first
                | (rw [atI_no HVK.out (by rw [← HVN.out]; exact HB.out)]; exact hat.out)
                | (rw [atI_yes HVK.out (by rw [← HVN.out]; exact HB.out)])
            · rw [namesL_yes HVK.out (by rw [← HVN.out]; exact H16.out), List.length_cons, ← hjl.out]; omega
            · rw [namesL_yes HVK.out (by rw [← HVN.out]; exact H16.out), hxs.out, ← HVN.out]; rfl
          case measure => simp only [intOf]; omega
        · have k16 : ¬ (vnm.size : Int) ≤ 16 := by omega
          have H16 := hid h16
          clear h16
          go_wp2
          go_roundw
          case rel =>
            refine ⟨q, j, cj, B, _, xs, by omega, rfl, rfl, rfl, by omega, ⟨?_⟩, ⟨?_⟩, ⟨?_⟩, HS6⟩
            · first
                | (rw [atI_no HVK.out (by rw [← HVN.out]; exact HB.out)]; exact hat.out)
                | (rw [atI_yes HVK.out (by rw [← HVN.out]; exact HB.out)])
            · rw [namesL_no HVK.out (by rw [← HVN.out]; exact H16.out)]; exact hjl.out
            · rw [namesL_no HVK.out (by rw [← HVN.out]; exact H16.out)]; exact hxs.out
          case measure => simp only [intOf]; omega

set_option maxHeartbeats 16000000 in
set_option maxRecDepth 100000 in
theorem tells_6y {w : World} {nm : ByteArray} {A0 A1 : Option Addr} {ni c0 n1 c1 : Nat} {inf : List Int} {vs : List Vol} (HH : Ht w 6 nm A0 ni c0 inf A1 n1 vs) {p : Nat} {v : Vol} (hp : vPos vs nm = some p) (hv : vs[p]? = some v) :
    Calls Try.prog 11 #[.agg #[.int .u32 6, .string nm, .slice A0 ni c0], .slice A1 n1 c1] w fun e w' => e = .returned (.bool true) ∧ Below w.heap.size w w' := by
  have HPP := hid hp
  have HVV := hid hv
  obtain ⟨R, hR⟩ : ∃ R, R = ansR 6 nm inf vs := ⟨_, rfl⟩
  have hgood : Good R 6 (atI vs nm 0) := by
    have ha : atI vs nm 0 = p := by
      rcases atI_zero vs nm with ⟨h, _⟩ | ⟨k, h, h'⟩
      · rw [hp] at h; cases h
      · rw [hp] at h; injection h with h; subst h; exact h'
    have hok := HH.ok v (List.mem_of_getElem? hv)
    rw [hR, ha, show ansR 6 nm inf vs = expR 6 v.nm v.size v.fixed inf ++ [(6, 1, [])] from by unfold ansR; rw [if_neg (by decide), if_pos (by decide), hp]; simp only [Option.bind_some, hv]]
    exact exp_good hok.2.1.1 hok.2.1.2 (by omega)
  have HRR : Aside (R = expR 6 v.nm v.size v.fixed inf ++ [(6, 1, [])]) := ⟨by
    rw [hR]; unfold ansR; rw [if_neg (by decide), if_pos (by decide), hp]; simp only [Option.bind_some, hv]
    ⟩
  obtain ⟨i0, hi0, hz0, hz1, hz2⟩ := info_parts info_strs
  obtain ⟨m, hm⟩ : ∃ m, m = R.length := ⟨_, rfl⟩
  have hm9 : m ≤ n1 + 4 := by rw [hm, hR, ← HH.hvl]; exact ansR_len _ _ _ _
  have P1 : ∀ {W : World} {L' : List Asr}, Sep w W (fun _ => False) L' → Calls Try.prog 28 #[.agg #[.int .u32 6, .string nm, .slice A0 ni c0], .slice A1 n1 c1] W fun e w' => ∃ (rs : List Rp) (A' : Option Addr) (c' : Nat), rs.map Rp.out = R ∧ e = .returned (.slice A' m c') ∧ Sep w w' (fun _ => False) (own 35 3 A' m c' (rrow rs) :: dataA 5 rs :: L') := by
    intro W L' H
    refine (answers_calls H (HH.r1 _) HH.hvl HH.hn1 HH.ok (HH.r0 _) (by have := HH.hni; omega)).mono ?_
    rintro e w' ⟨rs, A', c', h1, rfl, h3⟩
    have hl : rs.length = m := by rw [hm, hR, ← h1, List.length_map]
    exact ⟨rs, A', c', by rw [hR]; exact h1, by rw [hl], by rw [hl] at h3; exact h3⟩
  have HP1 := hid @P1
  have HMR := hid hm
  have HN1 := HH.hn1
  have hmb : m ≤ 4398046511000 := by omega
  clear P1 hm hR hm9
  have HSa := (Sep.start w).alloc #[.int .u32 6, .string nm, .slice A0 ni c0] 66
  go_enter Try.func11, Try.ntmps11
  go_wp2_with fail
  refine (HP1.out HSa).mono ?_
  rintro e w2 ⟨rs, A5, c5, hout, rfl, HS2⟩
  have HOUT := hid hout
  clear hout HSa
  have HS3 := HS2.nil 9 1
  have w1 : IntKind.i64.wrap ((n1 : Int) - 1) = n1 - 1 := by rw [IntKind.wrap_i64]; omega
  go_wp2_with fail
  clear w1
  go_loopw [6, 7, 8] (fun a b i wr => ∃ (q j cj : Nat) (B : Option Addr) (at' : Int) (xs : List Value), q ≤ n1 ∧ i = .int .i64 ((q : Int) - 1) ∧ a = .int .i64 at' ∧ b = .slice B j cj ∧ j ≤ n1 - q ∧ Aside (at' = atI vs nm q) ∧ Aside (j = (namesL vs q).length) ∧ Aside (xs = srow (namesL vs q)) ∧
    Sep w wr (fun _ => False) (own 9 1 B j cj xs :: own 35 3 A5 m c5 (rrow rs) :: dataA 5 rs :: blk w.heap.size 66 #[.int .u32 6, .string nm, .slice A0 ni c0] :: [])) (fun _ _ i _ => (intOf i + 1).toNat)
  case atStart => exact ⟨n1, 0, 0, none, -1, [], Nat.le_refl _, rfl, rfl, rfl, by omega, ⟨by rw [← HH.hvl, atI_end]⟩, ⟨by rw [← HH.hvl, namesL_end]; rfl⟩, ⟨by rw [← HH.hvl, namesL_end]; rfl⟩, HS3⟩
  case round =>
    obtain ⟨q, j, cj, B, at', xs, hq, rfl, rfl, rfl, hjn, hat, hjl, hxs, HSq⟩ := hrel
    clear HS2 HS3
    rcases q with _ | q
    · rw [show ((0 : Nat) : Int) - 1 = -1 from by decide]
      have hxs' := hxs.out
      rw [hxs'] at HSq
      have HNM := hjl
      have HAT := hat
      clear hxs' hat hxs
      have hm2 : IntKind.i64.wrap ((m : Int) - 1) = m - 1 := by rw [IntKind.wrap_i64]; omega
      have HSx : Sep w wr (fun _ => False) (own 35 3 A5 m c5 (rrow rs) :: dataA 5 rs :: own 9 1 B j cj (srow (namesL vs 0)) :: blk w.heap.size 66 #[.int .u32 6, .string nm, .slice A0 ni c0] :: []) := HSq.sel 4 [1, 2, 0, 3]
      have hj9 : j ≤ n1 := by omega
      obtain ⟨AT, hAT⟩ : ∃ AT, AT = at' := ⟨_, rfl⟩
      rw [← hAT] at HAT ⊢
      clear HSq hAT
      have HGOOD : Aside (Good R 6 AT) := ⟨by rw [HAT.out]; exact hgood⟩
      go_wp2_with fail
      go_loopw [9] (fun i wr => ∃ k : Nat, k ≤ m ∧ i = .int .i64 k ∧ Sep w wr (fun _ => False) (own 35 3 A5 m c5 (rrow rs) :: dataA 5 rs :: own 9 1 B j cj (srow (namesL vs 0)) :: blk w.heap.size 66 #[.int .u32 6, .string nm, .slice A0 ni c0] :: [])) (fun i _ => m - (intOf i).toNat)
      case atStart => exact ⟨0, Nat.zero_le _, rfl, HSx⟩
      case round =>
        obtain ⟨k, hk, rfl, HSk⟩ := hrel
        clear HSx
        by_cases hlt : k < m
        · obtain ⟨ad, v, hA5, hvk, x0, x1, x2⟩ := (Rb.ownAt' 0 rfl : Rb w (fun _ => False) (own 35 3 A5 m c5 (rrow rs) :: dataA 5 rs :: own 9 1 B j cj (srow (namesL vs 0)) :: blk w.heap.size 66 #[.int .u32 6, .string nm, .slice A0 ni c0] :: []) 3 A5 m (rrow rs)).repAt HSk hlt
          have hRk : R[k]? = some v.out := by rw [← HOUT.out, List.getElem?_map, hvk]; rfl
          obtain ⟨ro, rk, rA, rc, rd⟩ := v
          obtain ⟨g1, g2, g3, g4, g5⟩ := HGOOD.out.row k ro rk rd hRk
          subst g1
          have HDAT := hid ((Rb.dat 1 rfl : ∀ r ∈ rs, Rb w (fun _ => False) (own 35 3 A5 m c5 (rrow rs) :: dataA 5 rs :: own 9 1 B j cj (srow (namesL vs 0)) :: blk w.heap.size 66 #[.int .u32 6, .string nm, .slice A0 ni c0] :: []) 1 r.A r.d.length (by8 r.d)) _ (List.mem_of_getElem? hvk))
          have HREP : Aside (∀ {W : World}, Sep w W (fun _ => False) (own 35 3 A5 m c5 (rrow rs) :: dataA 5 rs :: own 9 1 B j cj (srow (namesL vs 0)) :: blk w.heap.size 66 #[.int .u32 6, .string nm, .slice A0 ni c0] :: []) → W.cell? (ad.add (k * 3)) = some (.int .u32 6) ∧ W.cell? ⟨(ad.add (k * 3)).block, (ad.add (k * 3)).off + 1, none⟩ = some (.int .u32 rk) ∧ W.cell? ⟨(ad.add (k * 3)).block, (ad.add (k * 3)).off + 2, none⟩ = some (.slice rA rd.length rc)) := ⟨by
            intro W H
            obtain ⟨ad', u, hA, hu, y0, y1, y2⟩ := (Rb.ownAt' 0 rfl : Rb w (fun _ => False) (own 35 3 A5 m c5 (rrow rs) :: dataA 5 rs :: own 9 1 B j cj (srow (namesL vs 0)) :: blk w.heap.size 66 #[.int .u32 6, .string nm, .slice A0 ni c0] :: []) 3 A5 m (rrow rs)).repAt H hlt
            rw [hA5] at hA
            injection hA with hA
            subst hA
            rw [hvk] at hu
            injection hu with hu
            subst hu
            exact ⟨y0, y1, y2⟩⟩
          have e1 : rawE rd = 0 := by unfold rawE; rw [if_neg (by omega)]
          have e2 : (rawB mRe [6, rk] rd).length = 20 + rd.length := by
            unfold rawB
            rw [if_neg (by omega)]
            unfold rawL
            rw [List.length_append, List.length_append, be_len, b4s_len]
            simp
          have HPUT := hid (hPutReply_calls (op := 6) (kd := rk) (c := rc) HSk HDAT.out HH.op.1 HH.op.2 g3 g4)
          rw [e1, e2] at HPUT
          have y1 : IntKind.i64.wrap (20 + (rd.length : Int)) = 20 + rd.length := by rw [IntKind.wrap_i64]; omega
          have hkm : (k : Int) < m := by omega
          have hk0 : (0 : Int) ≤ k := by omega
          dsimp only at x0 x1 x2
          generalize rawB mRe [6, rk] rd = rb at HPUT
          have key : ∃ b1 b2 b3 b4 : Bool, (rk == 1) = b1 ∧ ((k : Int) == (m : Int) - 1) = b2 ∧ decide (0 ≤ AT) = b3 ∧ decide ((6 : Int) < 6) = b4 ∧ (b2 = false ∧ b1 = false ∨ b2 = true ∧ (b3 = true ∧ b1 = true ∨ b3 = false ∧ (b4 = true ∧ b1 = true ∨ b4 = false ∧ b1 = false))) := by
            refine ⟨_, _, _, _, rfl, rfl, rfl, rfl, ?_⟩
            have hml := HMR.out
            by_cases q1 : (k : Int) = (m : Int) - 1
            · have q1' : k + 1 = R.length := by omega
              right
              refine ⟨by simpa using q1, ?_⟩
              by_cases q2 : 0 ≤ AT
              · left
                exact ⟨decide_eq_true q2, by simpa using g5.2 ⟨q1', .inl q2⟩⟩
              · right
                refine ⟨decide_eq_false q2, ?_⟩
                by_cases q3 : (6 : Int) < 6
                · exact .inl ⟨decide_eq_true q3, by simpa using g5.2 ⟨q1', .inr q3⟩⟩
                · exact .inr ⟨decide_eq_false q3, by simpa using fun e => absurd (g5.1 e).2 (by omega)⟩
            · left
              refine ⟨by simpa using q1, ?_⟩
              have : rk ≠ 1 := fun e => by have := (g5.1 e).1; omega
              simpa using this
          obtain ⟨b1, b2, b3, b4, f1, f2, f3, f4, f5⟩ := key
          clear g5 hvk hRk e1 e2 g2 g3 g4
          subst hA5
          rcases f5 with ⟨rfl, rfl⟩ | ⟨rfl, ⟨rfl, rfl⟩ | ⟨rfl, ⟨rfl, rfl⟩ | ⟨rfl, rfl⟩⟩⟩
          all_goals (try exact absurd f4 (by decide))
          all_goals
            go_wp2_with fail
            refine HPUT.out.mono ?_
            rintro e w8 ⟨A8, c8, rfl, HS8⟩
            have HS9 := HS8.drop
            clear x0 x1 x2 HS8
            obtain ⟨x0, x1, x2⟩ := HREP.out HS9
            have o0 := HS9.up3.blk_at 0 rfl
            go_upto_region 15 with (fail)
            go_quiet (fail)
            have HS10 := HS9.drewN nq
            clear x0 x1 x2 o0 HS9
            go_wp2
            go_roundw
            case rel => exact ⟨k + 1, by omega, by go_num, HS10⟩
            case measure => simp [intOf]; omega
        · obtain rfl : m = k := by omega
          have hkm : ¬ (m : Int) < m := by omega
          have o0 := HSk.up3.blk_at 0 rfl
          have hAT : AT = p := by
            rw [HAT.out]
            rcases atI_zero vs nm with ⟨h, _⟩ | ⟨k, h, h'⟩
            · rw [HPP.out] at h; cases h
            · rw [HPP.out] at h; injection h with h; subst h; exact h'
          subst hAT
          obtain ⟨mm, hmm⟩ : ∃ mm, mm = (expR 6 v.nm v.size v.fixed inf).length := ⟨_, rfl⟩
          have hm1 : m = mm + 1 := by rw [HMR.out, HRR.out, List.length_append, hmm]; rfl
          have hmb2 : 1 ≤ mm ∧ mm ≤ 3 := by rw [hmm]; exact expR_len2 _ _ _ _ _
          have HMM := hid hmm
          have hp1 : p < n1 := by
            obtain ⟨h, _⟩ := List.getElem?_eq_some_iff.1 HVV.out
            have := HH.hvl
            omega
          have hp9 : (p : Int) < n1 := by omega
          have hp0 : (0 : Int) ≤ p := by omega
          have hB : (v.nm.toList == nm.toList) = true := by
            have h := HPP.out
            unfold vPos at h
            rw [List.findIdx?_eq_some_iff_getElem] at h
            obtain ⟨hlt', h1, _⟩ := h
            obtain ⟨hlt2, hev⟩ := List.getElem?_eq_some_iff.1 HVV.out
            rw [hev] at h1
            exact h1
          have HVOL : Aside (∀ {W : World} {L' : List Asr}, Sep w W (fun _ => False) L' → ∃ ad, A1 = some ad ∧ W.cell? ⟨(ad.add (p * 6)).block, (ad.add (p * 6)).off + 2, none⟩ = some (.int .u64 v.size)) := ⟨by
            intro W L' H
            obtain ⟨ad', u, hA, hu, -, -, y2, -, -, -⟩ := (HH.r1 _).volAt H hp1
            rw [HVV.out] at hu
            injection hu with hu
            subst hu
            exact ⟨ad', hA, y2⟩⟩
          have hok := HH.ok v (List.mem_of_getElem? HVV.out)
          have HSZ := hid hok.2.1
          have hwm : IntKind.i64.wrap ((m : Int) - 1) = mm := by rw [IntKind.wrap_i64]; omega
          have HM1 := hid hm1
          clear hmm hok hm1 hm2
          go_wp2_with fail
          go_loopw [15] (fun i wr => ∃ k : Nat, k ≤ mm ∧ i = .int .i64 k ∧ Sep w wr (fun _ => False) (own 35 3 A5 m c5 (rrow rs) :: dataA 5 rs :: own 9 1 B j cj (srow (namesL vs 0)) :: blk w.heap.size 66 #[.int .u32 6, .string nm, .slice A0 ni c0] :: [])) (fun i _ => mm - (intOf i).toNat)
          case atStart => exact ⟨0, Nat.zero_le _, rfl, HSk⟩
          case round =>
            obtain ⟨k, hk, rfl, HSl⟩ := hrel
            clear HSk o0
            by_cases hlt : k < mm
            · have hlm : k < m := by have := HM1.out; omega
              obtain ⟨ad, v', hA5, hvk, x0, x1, x2⟩ := (Rb.ownAt' 0 rfl : Rb w (fun _ => False) (own 35 3 A5 m c5 (rrow rs) :: dataA 5 rs :: own 9 1 B j cj (srow (namesL vs 0)) :: blk w.heap.size 66 #[.int .u32 6, .string nm, .slice A0 ni c0] :: []) 3 A5 m (rrow rs)).repAt HSl hlm
              have hRk : R[k]? = some v'.out := by rw [← HOUT.out, List.getElem?_map, hvk]; rfl
              rw [HRR.out, List.getElem?_append_left (by rw [← HMM.out]; exact hlt)] at hRk
              obtain ⟨ro, rk, rA, rc, rd⟩ := v'
              obtain ⟨h1, h2, h3, h4, h5, h6⟩ := expR_at HSZ.out.1 HSZ.out.2 k ro rk rd hRk
              subst h1
              subst h2
              have HDAT := hid ((Rb.dat 1 rfl : ∀ r ∈ rs, Rb w (fun _ => False) (own 35 3 A5 m c5 (rrow rs) :: dataA 5 rs :: own 9 1 B j cj (srow (namesL vs 0)) :: blk w.heap.size 66 #[.int .u32 6, .string nm, .slice A0 ni c0] :: []) 1 r.A r.d.length (by8 r.d)) _ (List.mem_of_getElem? hvk))
              have HTI := hid (takeinfo_calls (c := rc) HSl HDAT.out h4 (by dsimp only; omega))
              dsimp only at HTI
              rw [h5] at HTI
              have HREP : Aside (∀ {W : World} {L' : List Asr}, Sep w W (fun _ => False) (own 35 3 A5 m c5 (rrow rs) :: L') → W.cell? ⟨(ad.add (k * 3)).block, (ad.add (k * 3)).off + 1, none⟩ = some (.int .u32 3)) := ⟨by
                intro W L' H
                obtain ⟨ad', u, hA, hu, y0, y1, y2⟩ := (Rb.i0 : Rb w (fun _ => False) (own 35 3 A5 m c5 (rrow rs) :: L') 3 A5 m (rrow rs)).repAt H hlm
                rw [hA5] at hA
                injection hA with hA
                subst hA
                rw [hvk] at hu
                injection hu with hu
                subst hu
                exact y1⟩
              dsimp only at x2
              have hkm2 : (k : Int) < m := by omega
              have hkj : (k : Int) < mm := by omega
              have hk0 : (0 : Int) ≤ k := by omega
              clear hvk hRk h5 h4 h3 x0 x1
              generalize rd.length = nl at *
              obtain ⟨ad1, hA1, _⟩ := HVOL.out HSl
              have HVOL2 : Aside (∀ {W : World} {L' : List Asr}, Sep w W (fun _ => False) L' → W.cell? ⟨(ad1.add (p * 6)).block, (ad1.add (p * 6)).off + 2, none⟩ = some (.int .u64 v.size)) := ⟨by
                intro W L' H
                obtain ⟨ad', hA, h⟩ := HVOL.out H
                rw [hA1] at hA
                injection hA with hA
                subst hA
                exact h⟩
              subst hA5
              subst hA1
              rcases h6 with ⟨h6', fl', h6⟩ | ⟨h6, h7 | h7⟩
              · rw [h6] at HTI
                have hkz : ((k : Int) == 0) = true := by simp; omega
                clear h6 h6'
                go_wp2_with fail
                refine HTI.out.mono ?_
                rintro e w8 ⟨rfl, HS8⟩
                clear x2
                have HS9 := HS8.alloc #[.int .u16 0, .int .u64 v.size, .int .u16 fl', .string eStr, .int .u32 0, .int .u32 0, .int .u32 0] 104
                have y1 := HREP.out (HS9.sel 5 [1, 2, 3, 4])
                have y2 := HVOL2.out HS9
                have y3 := HS9.up4.blk_at 1 rfl
                have z0 := HS9.blk_at 0 rfl
                have z1 := HS9.blk_at 1 rfl
                have z3 := HS9.blk_at 3 rfl
                go_upto_region 38 with (fail)
                go_quiet (fail)
                have HS10 := (HS9.drewN nq).drop
                clear y1 y2 y3 z0 z1 z3 HS8 HS9
                go_wp2
                go_roundw
                case rel => exact ⟨k + 1, by omega, by go_num, HS10⟩
                case measure => simp [intOf]; omega
              · rw [h7] at HTI
                have hkz : ((k : Int) == 0) = false := by simp; omega
                clear h7 h6
                go_wp2_with fail
                refine HTI.out.mono ?_
                rintro e w8 ⟨rfl, HS8⟩
                clear x2
                have HS9 := HS8.alloc #[.int .u16 1, .int .u64 0, .int .u16 0, .string v.nm, .int .u32 0, .int .u32 0, .int .u32 0] 104
                have y1 := HREP.out (HS9.sel 5 [1, 2, 3, 4])
                have y2 := HVOL2.out HS9
                have y3 := HS9.up4.blk_at 1 rfl
                have z0 := HS9.blk_at 0 rfl
                have z1 := HS9.blk_at 1 rfl
                have z3 := HS9.blk_at 3 rfl
                go_upto_region 38 with (fail)
                go_quiet (fail)
                have HS10 := (HS9.drewN nq).drop
                clear y1 y2 y3 z0 z1 z3 HS8 HS9
                go_wp2
                go_roundw
                case rel => exact ⟨k + 1, by omega, by go_num, HS10⟩
                case measure => simp [intOf]; omega
              · rw [h7] at HTI
                have hkz : ((k : Int) == 0) = false := by simp; omega
                clear h7 h6
                go_wp2_with fail
                refine HTI.out.mono ?_
                rintro e w8 ⟨rfl, HS8⟩
                clear x2
                have HS9 := HS8.alloc #[.int .u16 3, .int .u64 0, .int .u16 0, .string eStr, .int .u32 1, .int .u32 256, .int .u32 4096] 104
                have y1 := HREP.out (HS9.sel 5 [1, 2, 3, 4])
                have y2 := HVOL2.out HS9
                have y3 := HS9.up4.blk_at 1 rfl
                have z0 := HS9.blk_at 0 rfl
                have z1 := HS9.blk_at 1 rfl
                have z3 := HS9.blk_at 3 rfl
                go_upto_region 38 with (fail)
                go_quiet (fail)
                have HS10 := (HS9.drewN nq).drop
                clear y1 y2 y3 z0 z1 z3 HS8 HS9
                go_wp2
                go_roundw
                case rel => exact ⟨k + 1, by omega, by go_num, HS10⟩
                case measure => simp [intOf]; omega
            · obtain rfl : k = mm := by omega
              have hkj : ¬ (k : Int) < k := by omega
              have r1 : (2 : Int) ≤ m := by have := HM1.out; omega
              have r2 : (m : Int) ≤ 4 := by have := HM1.out; omega
              go_wp2_with fail
              refine (wakes_calls HSl).mono ?_
              rintro e w20 ⟨rfl, HS20⟩
              go_wp2
              go_ret
              exact ⟨rfl, HS20.below⟩
    · rw [show ((q + 1 : Nat) : Int) - 1 = q from by omega]
      have hlt : q < n1 := by omega
      obtain ⟨ad, v, rfl, hvk, -, x1, -, -, -, -⟩ := (HH.r1 _).volAt HSq hlt
      have x1d := x1
      have o1 := HSq.up3.blk_at 1 rfl
      have HVK := hid hvk
      have jq : (q : Int) < n1 := by omega
      have jq0 : (0 : Int) ≤ q := by omega
      have wq : IntKind.i64.wrap ((q : Int) - 1) = q - 1 := by rw [IntKind.wrap_i64]; omega
      obtain ⟨vnm, hvnm⟩ : ∃ x, x = v.nm := ⟨_, rfl⟩
      rw [← hvnm] at x1 x1d
      have HVN := hid hvnm
      clear hvk hvnm
      have HVOL : Aside (∀ {W : World} {L' : List Asr}, Sep w W (fun _ => False) L' → W.cell? ⟨(ad.add (q * 6)).block, (ad.add (q * 6)).off + 1, none⟩ = some (.string vnm)) := ⟨by
        intro W L' H
        obtain ⟨ad', u, hA, hu, -, y1, -, -, -, -⟩ := (HH.r1 _).volAt H hlt
        injection hA with hA
        subst hA
        rw [HVK.out] at hu
        injection hu with hu
        subst hu
        rw [HVN.out]
        exact y1⟩
      rcases hB : (vnm.toList == nm.toList) with _ | _
      all_goals
        have HB := hid hB
        go_upto_region 7 with (fail)
        go_quiet (fail)
        obtain ⟨w6, hw6, HS6⟩ := Someone (HSq.drewN nq)
        rw [← hw6]
        clear x1 x1d o1 hw6 hB
        have x1 := HVOL.out HS6
        by_cases h16 : vnm.size ≤ 16
        · have k16 : (vnm.size : Int) ≤ 16 := by omega
          have HL := HS6.lit #[.string vnm] 9 1 1 rfl (by decide)
          have hrd := HL.rd1
          have hb1 : 1 + j ≤ maxLen := by simp only [maxLen]; omega
          have hb2 : (1 + j) * 16 ≤ 140737488355328 := by omega
          have hx1 : ∀ u ∈ xs, u.oneCell' = true := by rw [hxs.out]; exact srow_one _
          have HX1 := hid hx1
          have x1l := HVOL.out HL
          have H16 := hid h16
          clear hx1 h16
          go_wp2_with (at_builtin; (refine wpList_append_sep rfl (.tmp 49) (.tmp 50) 118 rfl 9 i0 _ 1 16 Try.underlying118 hi0 hz0 hz1 hz2 rfl (by decide) rfl HL rfl hrd HX1.out hb1 hb2 rfl rfl ?_; intro B7 c7 w7 HS7 hsz7))
          go_roundw
          case rel =>
            refine ⟨q, 1 + j, c7, B7, _, _, by omega, rfl, rfl, rfl, by omega, ⟨?_⟩, ⟨?_⟩, ⟨?_⟩, HS7.sel 5 [0, 2, 3, 4]⟩
            · first
                | (rw [atI_no HVK.out (by rw [← HVN.out]; exact HB.out)]; exact hat.out)
                | (rw [atI_yes HVK.out (by rw [← HVN.out]; exact HB.out)])
            · rw [namesL_yes HVK.out (by rw [← HVN.out]; exact H16.out), List.length_cons, ← hjl.out]; omega
            · rw [namesL_yes HVK.out (by rw [← HVN.out]; exact H16.out), hxs.out, ← HVN.out]; rfl
          case measure => simp only [intOf]; omega
        · have k16 : ¬ (vnm.size : Int) ≤ 16 := by omega
          have H16 := hid h16
          clear h16
          go_wp2
          go_roundw
          case rel =>
            refine ⟨q, j, cj, B, _, xs, by omega, rfl, rfl, rfl, by omega, ⟨?_⟩, ⟨?_⟩, ⟨?_⟩, HS6⟩
            · first
                | (rw [atI_no HVK.out (by rw [← HVN.out]; exact HB.out)]; exact hat.out)
                | (rw [atI_yes HVK.out (by rw [← HVN.out]; exact HB.out)])
            · rw [namesL_no HVK.out (by rw [← HVN.out]; exact H16.out)]; exact hjl.out
            · rw [namesL_no HVK.out (by rw [← HVN.out]; exact H16.out)]; exact hxs.out
          case measure => simp only [intOf]; omega

set_option maxHeartbeats 16000000 in
set_option maxRecDepth 100000 in
theorem tells_7n {w : World} {nm : ByteArray} {A0 A1 : Option Addr} {ni c0 n1 c1 : Nat} {inf : List Int} {vs : List Vol} (HH : Ht w 7 nm A0 ni c0 inf A1 n1 vs) (hp : vPos vs nm = none) :
    Calls Try.prog 11 #[.agg #[.int .u32 7, .string nm, .slice A0 ni c0], .slice A1 n1 c1] w fun e w' => e = .returned (.bool true) ∧ Below w.heap.size w w' := by
  have HPN := hid hp
  obtain ⟨R, hR⟩ : ∃ R, R = ansR 7 nm inf vs := ⟨_, rfl⟩
  have hgood : Good R 7 (atI vs nm 0) := by
    have ha : atI vs nm 0 = -1 := by
      rcases atI_zero vs nm with ⟨_, h⟩ | ⟨k, h, _⟩
      · exact h
      · rw [hp] at h; cases h
    rw [hR, ha, show ansR 7 nm inf vs = [(7, 2147483654, [])] from by unfold ansR; rw [if_neg (by decide), if_pos (by decide), hp]; rfl]
    exact miss_good (by decide)
  have HRR : Aside (R = [(7, 2147483654, [])]) := ⟨by
    rw [hR]; unfold ansR; rw [if_neg (by decide), if_pos (by decide), hp]; rfl
    ⟩
  obtain ⟨i0, hi0, hz0, hz1, hz2⟩ := info_parts info_strs
  obtain ⟨m, hm⟩ : ∃ m, m = R.length := ⟨_, rfl⟩
  have hm9 : m ≤ n1 + 4 := by rw [hm, hR, ← HH.hvl]; exact ansR_len _ _ _ _
  have P1 : ∀ {W : World} {L' : List Asr}, Sep w W (fun _ => False) L' → Calls Try.prog 28 #[.agg #[.int .u32 7, .string nm, .slice A0 ni c0], .slice A1 n1 c1] W fun e w' => ∃ (rs : List Rp) (A' : Option Addr) (c' : Nat), rs.map Rp.out = R ∧ e = .returned (.slice A' m c') ∧ Sep w w' (fun _ => False) (own 35 3 A' m c' (rrow rs) :: dataA 5 rs :: L') := by
    intro W L' H
    refine (answers_calls H (HH.r1 _) HH.hvl HH.hn1 HH.ok (HH.r0 _) (by have := HH.hni; omega)).mono ?_
    rintro e w' ⟨rs, A', c', h1, rfl, h3⟩
    have hl : rs.length = m := by rw [hm, hR, ← h1, List.length_map]
    exact ⟨rs, A', c', by rw [hR]; exact h1, by rw [hl], by rw [hl] at h3; exact h3⟩
  have HP1 := hid @P1
  have HMR := hid hm
  have HN1 := HH.hn1
  have hmb : m ≤ 4398046511000 := by omega
  clear P1 hm hR hm9
  have HSa := (Sep.start w).alloc #[.int .u32 7, .string nm, .slice A0 ni c0] 66
  go_enter Try.func11, Try.ntmps11
  go_wp2_with fail
  refine (HP1.out HSa).mono ?_
  rintro e w2 ⟨rs, A5, c5, hout, rfl, HS2⟩
  have HOUT := hid hout
  clear hout HSa
  have HS3 := HS2.nil 9 1
  have w1 : IntKind.i64.wrap ((n1 : Int) - 1) = n1 - 1 := by rw [IntKind.wrap_i64]; omega
  go_wp2_with fail
  clear w1
  go_loopw [6, 7, 8] (fun a b i wr => ∃ (q j cj : Nat) (B : Option Addr) (at' : Int) (xs : List Value), q ≤ n1 ∧ i = .int .i64 ((q : Int) - 1) ∧ a = .int .i64 at' ∧ b = .slice B j cj ∧ j ≤ n1 - q ∧ Aside (at' = atI vs nm q) ∧ Aside (j = (namesL vs q).length) ∧ Aside (xs = srow (namesL vs q)) ∧
    Sep w wr (fun _ => False) (own 9 1 B j cj xs :: own 35 3 A5 m c5 (rrow rs) :: dataA 5 rs :: blk w.heap.size 66 #[.int .u32 7, .string nm, .slice A0 ni c0] :: [])) (fun _ _ i _ => (intOf i + 1).toNat)
  case atStart => exact ⟨n1, 0, 0, none, -1, [], Nat.le_refl _, rfl, rfl, rfl, by omega, ⟨by rw [← HH.hvl, atI_end]⟩, ⟨by rw [← HH.hvl, namesL_end]; rfl⟩, ⟨by rw [← HH.hvl, namesL_end]; rfl⟩, HS3⟩
  case round =>
    obtain ⟨q, j, cj, B, at', xs, hq, rfl, rfl, rfl, hjn, hat, hjl, hxs, HSq⟩ := hrel
    clear HS2 HS3
    rcases q with _ | q
    · rw [show ((0 : Nat) : Int) - 1 = -1 from by decide]
      have hxs' := hxs.out
      rw [hxs'] at HSq
      have HNM := hjl
      have HAT := hat
      clear hxs' hat hxs
      have hm2 : IntKind.i64.wrap ((m : Int) - 1) = m - 1 := by rw [IntKind.wrap_i64]; omega
      have HSx : Sep w wr (fun _ => False) (own 35 3 A5 m c5 (rrow rs) :: dataA 5 rs :: own 9 1 B j cj (srow (namesL vs 0)) :: blk w.heap.size 66 #[.int .u32 7, .string nm, .slice A0 ni c0] :: []) := HSq.sel 4 [1, 2, 0, 3]
      have hj9 : j ≤ n1 := by omega
      obtain ⟨AT, hAT⟩ : ∃ AT, AT = at' := ⟨_, rfl⟩
      rw [← hAT] at HAT ⊢
      clear HSq hAT
      have HGOOD : Aside (Good R 7 AT) := ⟨by rw [HAT.out]; exact hgood⟩
      go_wp2_with fail
      go_loopw [9] (fun i wr => ∃ k : Nat, k ≤ m ∧ i = .int .i64 k ∧ Sep w wr (fun _ => False) (own 35 3 A5 m c5 (rrow rs) :: dataA 5 rs :: own 9 1 B j cj (srow (namesL vs 0)) :: blk w.heap.size 66 #[.int .u32 7, .string nm, .slice A0 ni c0] :: [])) (fun i _ => m - (intOf i).toNat)
      case atStart => exact ⟨0, Nat.zero_le _, rfl, HSx⟩
      case round =>
        obtain ⟨k, hk, rfl, HSk⟩ := hrel
        clear HSx
        by_cases hlt : k < m
        · obtain ⟨ad, v, hA5, hvk, x0, x1, x2⟩ := (Rb.ownAt' 0 rfl : Rb w (fun _ => False) (own 35 3 A5 m c5 (rrow rs) :: dataA 5 rs :: own 9 1 B j cj (srow (namesL vs 0)) :: blk w.heap.size 66 #[.int .u32 7, .string nm, .slice A0 ni c0] :: []) 3 A5 m (rrow rs)).repAt HSk hlt
          have hRk : R[k]? = some v.out := by rw [← HOUT.out, List.getElem?_map, hvk]; rfl
          obtain ⟨ro, rk, rA, rc, rd⟩ := v
          obtain ⟨g1, g2, g3, g4, g5⟩ := HGOOD.out.row k ro rk rd hRk
          subst g1
          have HDAT := hid ((Rb.dat 1 rfl : ∀ r ∈ rs, Rb w (fun _ => False) (own 35 3 A5 m c5 (rrow rs) :: dataA 5 rs :: own 9 1 B j cj (srow (namesL vs 0)) :: blk w.heap.size 66 #[.int .u32 7, .string nm, .slice A0 ni c0] :: []) 1 r.A r.d.length (by8 r.d)) _ (List.mem_of_getElem? hvk))
          have HREP : Aside (∀ {W : World}, Sep w W (fun _ => False) (own 35 3 A5 m c5 (rrow rs) :: dataA 5 rs :: own 9 1 B j cj (srow (namesL vs 0)) :: blk w.heap.size 66 #[.int .u32 7, .string nm, .slice A0 ni c0] :: []) → W.cell? (ad.add (k * 3)) = some (.int .u32 7) ∧ W.cell? ⟨(ad.add (k * 3)).block, (ad.add (k * 3)).off + 1, none⟩ = some (.int .u32 rk) ∧ W.cell? ⟨(ad.add (k * 3)).block, (ad.add (k * 3)).off + 2, none⟩ = some (.slice rA rd.length rc)) := ⟨by
            intro W H
            obtain ⟨ad', u, hA, hu, y0, y1, y2⟩ := (Rb.ownAt' 0 rfl : Rb w (fun _ => False) (own 35 3 A5 m c5 (rrow rs) :: dataA 5 rs :: own 9 1 B j cj (srow (namesL vs 0)) :: blk w.heap.size 66 #[.int .u32 7, .string nm, .slice A0 ni c0] :: []) 3 A5 m (rrow rs)).repAt H hlt
            rw [hA5] at hA
            injection hA with hA
            subst hA
            rw [hvk] at hu
            injection hu with hu
            subst hu
            exact ⟨y0, y1, y2⟩⟩
          have e1 : rawE rd = 0 := by unfold rawE; rw [if_neg (by omega)]
          have e2 : (rawB mRe [7, rk] rd).length = 20 + rd.length := by
            unfold rawB
            rw [if_neg (by omega)]
            unfold rawL
            rw [List.length_append, List.length_append, be_len, b4s_len]
            simp
          have HPUT := hid (hPutReply_calls (op := 7) (kd := rk) (c := rc) HSk HDAT.out HH.op.1 HH.op.2 g3 g4)
          rw [e1, e2] at HPUT
          have y1 : IntKind.i64.wrap (20 + (rd.length : Int)) = 20 + rd.length := by rw [IntKind.wrap_i64]; omega
          have hkm : (k : Int) < m := by omega
          have hk0 : (0 : Int) ≤ k := by omega
          dsimp only at x0 x1 x2
          generalize rawB mRe [7, rk] rd = rb at HPUT
          have key : ∃ b1 b2 b3 b4 : Bool, (rk == 1) = b1 ∧ ((k : Int) == (m : Int) - 1) = b2 ∧ decide (0 ≤ AT) = b3 ∧ decide ((7 : Int) < 6) = b4 ∧ (b2 = false ∧ b1 = false ∨ b2 = true ∧ (b3 = true ∧ b1 = true ∨ b3 = false ∧ (b4 = true ∧ b1 = true ∨ b4 = false ∧ b1 = false))) := by
            refine ⟨_, _, _, _, rfl, rfl, rfl, rfl, ?_⟩
            have hml := HMR.out
            by_cases q1 : (k : Int) = (m : Int) - 1
            · have q1' : k + 1 = R.length := by omega
              right
              refine ⟨by simpa using q1, ?_⟩
              by_cases q2 : 0 ≤ AT
              · left
                exact ⟨decide_eq_true q2, by simpa using g5.2 ⟨q1', .inl q2⟩⟩
              · right
                refine ⟨decide_eq_false q2, ?_⟩
                by_cases q3 : (7 : Int) < 6
                · exact .inl ⟨decide_eq_true q3, by simpa using g5.2 ⟨q1', .inr q3⟩⟩
                · exact .inr ⟨decide_eq_false q3, by simpa using fun e => absurd (g5.1 e).2 (by omega)⟩
            · left
              refine ⟨by simpa using q1, ?_⟩
              have : rk ≠ 1 := fun e => by have := (g5.1 e).1; omega
              simpa using this
          obtain ⟨b1, b2, b3, b4, f1, f2, f3, f4, f5⟩ := key
          clear g5 hvk hRk e1 e2 g2 g3 g4
          subst hA5
          rcases f5 with ⟨rfl, rfl⟩ | ⟨rfl, ⟨rfl, rfl⟩ | ⟨rfl, ⟨rfl, rfl⟩ | ⟨rfl, rfl⟩⟩⟩
          all_goals (try exact absurd f4 (by decide))
          all_goals
            go_wp2_with fail
            refine HPUT.out.mono ?_
            rintro e w8 ⟨A8, c8, rfl, HS8⟩
            have HS9 := HS8.drop
            clear x0 x1 x2 HS8
            obtain ⟨x0, x1, x2⟩ := HREP.out HS9
            have o0 := HS9.up3.blk_at 0 rfl
            go_upto_region 15 with (fail)
            go_quiet (fail)
            have HS10 := HS9.drewN nq
            clear x0 x1 x2 o0 HS9
            go_wp2
            go_roundw
            case rel => exact ⟨k + 1, by omega, by go_num, HS10⟩
            case measure => simp [intOf]; omega
        · obtain rfl : m = k := by omega
          have hkm : ¬ (m : Int) < m := by omega
          have o0 := HSk.up3.blk_at 0 rfl
          obtain rfl : m = 1 := by rw [HMR.out, HRR.out]; rfl
          have hAT : AT = -1 := by
            rw [HAT.out]
            rcases atI_zero vs nm with ⟨_, h⟩ | ⟨k, h, _⟩
            · exact h
            · rw [HPN.out] at h; cases h
          subst hAT
          obtain ⟨ad, v, rfl, hvk, x0, x1, x2⟩ := (Rb.ownAt' 0 rfl : Rb w (fun _ => False) (own 35 3 A5 1 c5 (rrow rs) :: dataA 5 rs :: own 9 1 B j cj (srow (namesL vs 0)) :: blk w.heap.size 66 #[.int .u32 7, .string nm, .slice A0 ni c0] :: []) 3 A5 1 (rrow rs)).repAt HSk (k := 0) (by decide)
          have hRk : R[0]? = some v.out := by rw [← HOUT.out, List.getElem?_map, hvk]; rfl
          rw [HRR.out] at hRk
          simp at hRk
          obtain ⟨ro, rk, rA, rc, rd⟩ := v
          simp only [Rp.out, Prod.mk.injEq] at hRk
          obtain ⟨rfl, rfl, rfl⟩ := hRk
          dsimp only at x0 x1 x2
          rw [show (0 : Nat) * 3 = 0 from rfl, show ad.add 0 = ad by simp [Addr.add]] at x0 x1 x2
          clear x0 x2 hvk
          go_wp2_with fail
          refine (wakes_calls HSk).mono ?_
          rintro e w20 ⟨rfl, HS20⟩
          go_wp2
          go_ret
          exact ⟨rfl, HS20.below⟩
    · rw [show ((q + 1 : Nat) : Int) - 1 = q from by omega]
      have hlt : q < n1 := by omega
      obtain ⟨ad, v, rfl, hvk, -, x1, -, -, -, -⟩ := (HH.r1 _).volAt HSq hlt
      have x1d := x1
      have o1 := HSq.up3.blk_at 1 rfl
      have HVK := hid hvk
      have jq : (q : Int) < n1 := by omega
      have jq0 : (0 : Int) ≤ q := by omega
      have wq : IntKind.i64.wrap ((q : Int) - 1) = q - 1 := by rw [IntKind.wrap_i64]; omega
      obtain ⟨vnm, hvnm⟩ : ∃ x, x = v.nm := ⟨_, rfl⟩
      rw [← hvnm] at x1 x1d
      have HVN := hid hvnm
      clear hvk hvnm
      have HVOL : Aside (∀ {W : World} {L' : List Asr}, Sep w W (fun _ => False) L' → W.cell? ⟨(ad.add (q * 6)).block, (ad.add (q * 6)).off + 1, none⟩ = some (.string vnm)) := ⟨by
        intro W L' H
        obtain ⟨ad', u, hA, hu, -, y1, -, -, -, -⟩ := (HH.r1 _).volAt H hlt
        injection hA with hA
        subst hA
        rw [HVK.out] at hu
        injection hu with hu
        subst hu
        rw [HVN.out]
        exact y1⟩
      rcases hB : (vnm.toList == nm.toList) with _ | _
      all_goals
        have HB := hid hB
        go_upto_region 7 with (fail)
        go_quiet (fail)
        obtain ⟨w6, hw6, HS6⟩ := Someone (HSq.drewN nq)
        rw [← hw6]
        clear x1 x1d o1 hw6 hB
        have x1 := HVOL.out HS6
        by_cases h16 : vnm.size ≤ 16
        · have k16 : (vnm.size : Int) ≤ 16 := by omega
          have HL := HS6.lit #[.string vnm] 9 1 1 rfl (by decide)
          have hrd := HL.rd1
          have hb1 : 1 + j ≤ maxLen := by simp only [maxLen]; omega
          have hb2 : (1 + j) * 16 ≤ 140737488355328 := by omega
          have hx1 : ∀ u ∈ xs, u.oneCell' = true := by rw [hxs.out]; exact srow_one _
          have HX1 := hid hx1
          have x1l := HVOL.out HL
          have H16 := hid h16
          clear hx1 h16
          go_wp2_with (at_builtin; (refine wpList_append_sep rfl (.tmp 49) (.tmp 50) 118 rfl 9 i0 _ 1 16 Try.underlying118 hi0 hz0 hz1 hz2 rfl (by decide) rfl HL rfl hrd HX1.out hb1 hb2 rfl rfl ?_; intro B7 c7 w7 HS7 hsz7))
          go_roundw
          case rel =>
            refine ⟨q, 1 + j, c7, B7, _, _, by omega, rfl, rfl, rfl, by omega, ⟨?_⟩, ⟨?_⟩, ⟨?_⟩, HS7.sel 5 [0, 2, 3, 4]⟩
            · first
                | (rw [atI_no HVK.out (by rw [← HVN.out]; exact HB.out)]; exact hat.out)
                | (rw [atI_yes HVK.out (by rw [← HVN.out]; exact HB.out)])
            · rw [namesL_yes HVK.out (by rw [← HVN.out]; exact H16.out), List.length_cons, ← hjl.out]; omega
            · rw [namesL_yes HVK.out (by rw [← HVN.out]; exact H16.out), hxs.out, ← HVN.out]; rfl
          case measure => simp only [intOf]; omega
        · have k16 : ¬ (vnm.size : Int) ≤ 16 := by omega
          have H16 := hid h16
          clear h16
          go_wp2
          go_roundw
          case rel =>
            refine ⟨q, j, cj, B, _, xs, by omega, rfl, rfl, rfl, by omega, ⟨?_⟩, ⟨?_⟩, ⟨?_⟩, HS6⟩
            · first
                | (rw [atI_no HVK.out (by rw [← HVN.out]; exact HB.out)]; exact hat.out)
                | (rw [atI_yes HVK.out (by rw [← HVN.out]; exact HB.out)])
            · rw [namesL_no HVK.out (by rw [← HVN.out]; exact H16.out)]; exact hjl.out
            · rw [namesL_no HVK.out (by rw [← HVN.out]; exact H16.out)]; exact hxs.out
          case measure => simp only [intOf]; omega

set_option maxHeartbeats 16000000 in
set_option maxRecDepth 100000 in
theorem tells_7y {w : World} {nm : ByteArray} {A0 A1 : Option Addr} {ni c0 n1 c1 : Nat} {inf : List Int} {vs : List Vol} (HH : Ht w 7 nm A0 ni c0 inf A1 n1 vs) {p : Nat} {v : Vol} (hp : vPos vs nm = some p) (hv : vs[p]? = some v) :
    Calls Try.prog 11 #[.agg #[.int .u32 7, .string nm, .slice A0 ni c0], .slice A1 n1 c1] w fun e w' => e = .returned (.bool true) ∧ Below w.heap.size w w' := by
  have HPP := hid hp
  have HVV := hid hv
  obtain ⟨R, hR⟩ : ∃ R, R = ansR 7 nm inf vs := ⟨_, rfl⟩
  have hgood : Good R 7 (atI vs nm 0) := by
    have ha : atI vs nm 0 = p := by
      rcases atI_zero vs nm with ⟨h, _⟩ | ⟨k, h, h'⟩
      · rw [hp] at h; cases h
      · rw [hp] at h; injection h with h; subst h; exact h'
    have hok := HH.ok v (List.mem_of_getElem? hv)
    rw [hR, ha, show ansR 7 nm inf vs = expR 7 v.nm v.size v.fixed inf ++ [(7, 1, [])] from by unfold ansR; rw [if_neg (by decide), if_pos (by decide), hp]; simp only [Option.bind_some, hv]]
    exact exp_good hok.2.1.1 hok.2.1.2 (by omega)
  have HRR : Aside (R = expR 7 v.nm v.size v.fixed inf ++ [(7, 1, [])]) := ⟨by
    rw [hR]; unfold ansR; rw [if_neg (by decide), if_pos (by decide), hp]; simp only [Option.bind_some, hv]
    ⟩
  obtain ⟨i0, hi0, hz0, hz1, hz2⟩ := info_parts info_strs
  obtain ⟨m, hm⟩ : ∃ m, m = R.length := ⟨_, rfl⟩
  have hm9 : m ≤ n1 + 4 := by rw [hm, hR, ← HH.hvl]; exact ansR_len _ _ _ _
  have P1 : ∀ {W : World} {L' : List Asr}, Sep w W (fun _ => False) L' → Calls Try.prog 28 #[.agg #[.int .u32 7, .string nm, .slice A0 ni c0], .slice A1 n1 c1] W fun e w' => ∃ (rs : List Rp) (A' : Option Addr) (c' : Nat), rs.map Rp.out = R ∧ e = .returned (.slice A' m c') ∧ Sep w w' (fun _ => False) (own 35 3 A' m c' (rrow rs) :: dataA 5 rs :: L') := by
    intro W L' H
    refine (answers_calls H (HH.r1 _) HH.hvl HH.hn1 HH.ok (HH.r0 _) (by have := HH.hni; omega)).mono ?_
    rintro e w' ⟨rs, A', c', h1, rfl, h3⟩
    have hl : rs.length = m := by rw [hm, hR, ← h1, List.length_map]
    exact ⟨rs, A', c', by rw [hR]; exact h1, by rw [hl], by rw [hl] at h3; exact h3⟩
  have HP1 := hid @P1
  have HMR := hid hm
  have HN1 := HH.hn1
  have hmb : m ≤ 4398046511000 := by omega
  clear P1 hm hR hm9
  have HSa := (Sep.start w).alloc #[.int .u32 7, .string nm, .slice A0 ni c0] 66
  go_enter Try.func11, Try.ntmps11
  go_wp2_with fail
  refine (HP1.out HSa).mono ?_
  rintro e w2 ⟨rs, A5, c5, hout, rfl, HS2⟩
  have HOUT := hid hout
  clear hout HSa
  have HS3 := HS2.nil 9 1
  have w1 : IntKind.i64.wrap ((n1 : Int) - 1) = n1 - 1 := by rw [IntKind.wrap_i64]; omega
  go_wp2_with fail
  clear w1
  go_loopw [6, 7, 8] (fun a b i wr => ∃ (q j cj : Nat) (B : Option Addr) (at' : Int) (xs : List Value), q ≤ n1 ∧ i = .int .i64 ((q : Int) - 1) ∧ a = .int .i64 at' ∧ b = .slice B j cj ∧ j ≤ n1 - q ∧ Aside (at' = atI vs nm q) ∧ Aside (j = (namesL vs q).length) ∧ Aside (xs = srow (namesL vs q)) ∧
    Sep w wr (fun _ => False) (own 9 1 B j cj xs :: own 35 3 A5 m c5 (rrow rs) :: dataA 5 rs :: blk w.heap.size 66 #[.int .u32 7, .string nm, .slice A0 ni c0] :: [])) (fun _ _ i _ => (intOf i + 1).toNat)
  case atStart => exact ⟨n1, 0, 0, none, -1, [], Nat.le_refl _, rfl, rfl, rfl, by omega, ⟨by rw [← HH.hvl, atI_end]⟩, ⟨by rw [← HH.hvl, namesL_end]; rfl⟩, ⟨by rw [← HH.hvl, namesL_end]; rfl⟩, HS3⟩
  case round =>
    obtain ⟨q, j, cj, B, at', xs, hq, rfl, rfl, rfl, hjn, hat, hjl, hxs, HSq⟩ := hrel
    clear HS2 HS3
    rcases q with _ | q
    · rw [show ((0 : Nat) : Int) - 1 = -1 from by decide]
      have hxs' := hxs.out
      rw [hxs'] at HSq
      have HNM := hjl
      have HAT := hat
      clear hxs' hat hxs
      have hm2 : IntKind.i64.wrap ((m : Int) - 1) = m - 1 := by rw [IntKind.wrap_i64]; omega
      have HSx : Sep w wr (fun _ => False) (own 35 3 A5 m c5 (rrow rs) :: dataA 5 rs :: own 9 1 B j cj (srow (namesL vs 0)) :: blk w.heap.size 66 #[.int .u32 7, .string nm, .slice A0 ni c0] :: []) := HSq.sel 4 [1, 2, 0, 3]
      have hj9 : j ≤ n1 := by omega
      obtain ⟨AT, hAT⟩ : ∃ AT, AT = at' := ⟨_, rfl⟩
      rw [← hAT] at HAT ⊢
      clear HSq hAT
      have HGOOD : Aside (Good R 7 AT) := ⟨by rw [HAT.out]; exact hgood⟩
      go_wp2_with fail
      go_loopw [9] (fun i wr => ∃ k : Nat, k ≤ m ∧ i = .int .i64 k ∧ Sep w wr (fun _ => False) (own 35 3 A5 m c5 (rrow rs) :: dataA 5 rs :: own 9 1 B j cj (srow (namesL vs 0)) :: blk w.heap.size 66 #[.int .u32 7, .string nm, .slice A0 ni c0] :: [])) (fun i _ => m - (intOf i).toNat)
      case atStart => exact ⟨0, Nat.zero_le _, rfl, HSx⟩
      case round =>
        obtain ⟨k, hk, rfl, HSk⟩ := hrel
        clear HSx
        by_cases hlt : k < m
        · obtain ⟨ad, v, hA5, hvk, x0, x1, x2⟩ := (Rb.ownAt' 0 rfl : Rb w (fun _ => False) (own 35 3 A5 m c5 (rrow rs) :: dataA 5 rs :: own 9 1 B j cj (srow (namesL vs 0)) :: blk w.heap.size 66 #[.int .u32 7, .string nm, .slice A0 ni c0] :: []) 3 A5 m (rrow rs)).repAt HSk hlt
          have hRk : R[k]? = some v.out := by rw [← HOUT.out, List.getElem?_map, hvk]; rfl
          obtain ⟨ro, rk, rA, rc, rd⟩ := v
          obtain ⟨g1, g2, g3, g4, g5⟩ := HGOOD.out.row k ro rk rd hRk
          subst g1
          have HDAT := hid ((Rb.dat 1 rfl : ∀ r ∈ rs, Rb w (fun _ => False) (own 35 3 A5 m c5 (rrow rs) :: dataA 5 rs :: own 9 1 B j cj (srow (namesL vs 0)) :: blk w.heap.size 66 #[.int .u32 7, .string nm, .slice A0 ni c0] :: []) 1 r.A r.d.length (by8 r.d)) _ (List.mem_of_getElem? hvk))
          have HREP : Aside (∀ {W : World}, Sep w W (fun _ => False) (own 35 3 A5 m c5 (rrow rs) :: dataA 5 rs :: own 9 1 B j cj (srow (namesL vs 0)) :: blk w.heap.size 66 #[.int .u32 7, .string nm, .slice A0 ni c0] :: []) → W.cell? (ad.add (k * 3)) = some (.int .u32 7) ∧ W.cell? ⟨(ad.add (k * 3)).block, (ad.add (k * 3)).off + 1, none⟩ = some (.int .u32 rk) ∧ W.cell? ⟨(ad.add (k * 3)).block, (ad.add (k * 3)).off + 2, none⟩ = some (.slice rA rd.length rc)) := ⟨by
            intro W H
            obtain ⟨ad', u, hA, hu, y0, y1, y2⟩ := (Rb.ownAt' 0 rfl : Rb w (fun _ => False) (own 35 3 A5 m c5 (rrow rs) :: dataA 5 rs :: own 9 1 B j cj (srow (namesL vs 0)) :: blk w.heap.size 66 #[.int .u32 7, .string nm, .slice A0 ni c0] :: []) 3 A5 m (rrow rs)).repAt H hlt
            rw [hA5] at hA
            injection hA with hA
            subst hA
            rw [hvk] at hu
            injection hu with hu
            subst hu
            exact ⟨y0, y1, y2⟩⟩
          have e1 : rawE rd = 0 := by unfold rawE; rw [if_neg (by omega)]
          have e2 : (rawB mRe [7, rk] rd).length = 20 + rd.length := by
            unfold rawB
            rw [if_neg (by omega)]
            unfold rawL
            rw [List.length_append, List.length_append, be_len, b4s_len]
            simp
          have HPUT := hid (hPutReply_calls (op := 7) (kd := rk) (c := rc) HSk HDAT.out HH.op.1 HH.op.2 g3 g4)
          rw [e1, e2] at HPUT
          have y1 : IntKind.i64.wrap (20 + (rd.length : Int)) = 20 + rd.length := by rw [IntKind.wrap_i64]; omega
          have hkm : (k : Int) < m := by omega
          have hk0 : (0 : Int) ≤ k := by omega
          dsimp only at x0 x1 x2
          generalize rawB mRe [7, rk] rd = rb at HPUT
          have key : ∃ b1 b2 b3 b4 : Bool, (rk == 1) = b1 ∧ ((k : Int) == (m : Int) - 1) = b2 ∧ decide (0 ≤ AT) = b3 ∧ decide ((7 : Int) < 6) = b4 ∧ (b2 = false ∧ b1 = false ∨ b2 = true ∧ (b3 = true ∧ b1 = true ∨ b3 = false ∧ (b4 = true ∧ b1 = true ∨ b4 = false ∧ b1 = false))) := by
            refine ⟨_, _, _, _, rfl, rfl, rfl, rfl, ?_⟩
            have hml := HMR.out
            by_cases q1 : (k : Int) = (m : Int) - 1
            · have q1' : k + 1 = R.length := by omega
              right
              refine ⟨by simpa using q1, ?_⟩
              by_cases q2 : 0 ≤ AT
              · left
                exact ⟨decide_eq_true q2, by simpa using g5.2 ⟨q1', .inl q2⟩⟩
              · right
                refine ⟨decide_eq_false q2, ?_⟩
                by_cases q3 : (7 : Int) < 6
                · exact .inl ⟨decide_eq_true q3, by simpa using g5.2 ⟨q1', .inr q3⟩⟩
                · exact .inr ⟨decide_eq_false q3, by simpa using fun e => absurd (g5.1 e).2 (by omega)⟩
            · left
              refine ⟨by simpa using q1, ?_⟩
              have : rk ≠ 1 := fun e => by have := (g5.1 e).1; omega
              simpa using this
          obtain ⟨b1, b2, b3, b4, f1, f2, f3, f4, f5⟩ := key
          clear g5 hvk hRk e1 e2 g2 g3 g4
          subst hA5
          rcases f5 with ⟨rfl, rfl⟩ | ⟨rfl, ⟨rfl, rfl⟩ | ⟨rfl, ⟨rfl, rfl⟩ | ⟨rfl, rfl⟩⟩⟩
          all_goals (try exact absurd f4 (by decide))
          all_goals
            go_wp2_with fail
            refine HPUT.out.mono ?_
            rintro e w8 ⟨A8, c8, rfl, HS8⟩
            have HS9 := HS8.drop
            clear x0 x1 x2 HS8
            obtain ⟨x0, x1, x2⟩ := HREP.out HS9
            have o0 := HS9.up3.blk_at 0 rfl
            go_upto_region 15 with (fail)
            go_quiet (fail)
            have HS10 := HS9.drewN nq
            clear x0 x1 x2 o0 HS9
            go_wp2
            go_roundw
            case rel => exact ⟨k + 1, by omega, by go_num, HS10⟩
            case measure => simp [intOf]; omega
        · obtain rfl : m = k := by omega
          have hkm : ¬ (m : Int) < m := by omega
          have o0 := HSk.up3.blk_at 0 rfl
          have hAT : AT = p := by
            rw [HAT.out]
            rcases atI_zero vs nm with ⟨h, _⟩ | ⟨k, h, h'⟩
            · rw [HPP.out] at h; cases h
            · rw [HPP.out] at h; injection h with h; subst h; exact h'
          subst hAT
          obtain ⟨mm, hmm⟩ : ∃ mm, mm = (expR 7 v.nm v.size v.fixed inf).length := ⟨_, rfl⟩
          have hm1 : m = mm + 1 := by rw [HMR.out, HRR.out, List.length_append, hmm]; rfl
          have hmb2 : 1 ≤ mm ∧ mm ≤ 3 := by rw [hmm]; exact expR_len2 _ _ _ _ _
          have HMM := hid hmm
          have hp1 : p < n1 := by
            obtain ⟨h, _⟩ := List.getElem?_eq_some_iff.1 HVV.out
            have := HH.hvl
            omega
          have hp9 : (p : Int) < n1 := by omega
          have hp0 : (0 : Int) ≤ p := by omega
          have hB : (v.nm.toList == nm.toList) = true := by
            have h := HPP.out
            unfold vPos at h
            rw [List.findIdx?_eq_some_iff_getElem] at h
            obtain ⟨hlt', h1, _⟩ := h
            obtain ⟨hlt2, hev⟩ := List.getElem?_eq_some_iff.1 HVV.out
            rw [hev] at h1
            exact h1
          have HVOL : Aside (∀ {W : World} {L' : List Asr}, Sep w W (fun _ => False) L' → ∃ ad, A1 = some ad ∧ W.cell? ⟨(ad.add (p * 6)).block, (ad.add (p * 6)).off + 2, none⟩ = some (.int .u64 v.size)) := ⟨by
            intro W L' H
            obtain ⟨ad', u, hA, hu, -, -, y2, -, -, -⟩ := (HH.r1 _).volAt H hp1
            rw [HVV.out] at hu
            injection hu with hu
            subst hu
            exact ⟨ad', hA, y2⟩⟩
          have hok := HH.ok v (List.mem_of_getElem? HVV.out)
          have HSZ := hid hok.2.1
          have hwm : IntKind.i64.wrap ((m : Int) - 1) = mm := by rw [IntKind.wrap_i64]; omega
          have HM1 := hid hm1
          clear hmm hok hm1 hm2
          go_wp2_with fail
          go_loopw [15] (fun i wr => ∃ k : Nat, k ≤ mm ∧ i = .int .i64 k ∧ Sep w wr (fun _ => False) (own 35 3 A5 m c5 (rrow rs) :: dataA 5 rs :: own 9 1 B j cj (srow (namesL vs 0)) :: blk w.heap.size 66 #[.int .u32 7, .string nm, .slice A0 ni c0] :: [])) (fun i _ => mm - (intOf i).toNat)
          case atStart => exact ⟨0, Nat.zero_le _, rfl, HSk⟩
          case round =>
            obtain ⟨k, hk, rfl, HSl⟩ := hrel
            clear HSk o0
            by_cases hlt : k < mm
            · have hlm : k < m := by have := HM1.out; omega
              obtain ⟨ad, v', hA5, hvk, x0, x1, x2⟩ := (Rb.ownAt' 0 rfl : Rb w (fun _ => False) (own 35 3 A5 m c5 (rrow rs) :: dataA 5 rs :: own 9 1 B j cj (srow (namesL vs 0)) :: blk w.heap.size 66 #[.int .u32 7, .string nm, .slice A0 ni c0] :: []) 3 A5 m (rrow rs)).repAt HSl hlm
              have hRk : R[k]? = some v'.out := by rw [← HOUT.out, List.getElem?_map, hvk]; rfl
              rw [HRR.out, List.getElem?_append_left (by rw [← HMM.out]; exact hlt)] at hRk
              obtain ⟨ro, rk, rA, rc, rd⟩ := v'
              obtain ⟨h1, h2, h3, h4, h5, h6⟩ := expR_at HSZ.out.1 HSZ.out.2 k ro rk rd hRk
              subst h1
              subst h2
              have HDAT := hid ((Rb.dat 1 rfl : ∀ r ∈ rs, Rb w (fun _ => False) (own 35 3 A5 m c5 (rrow rs) :: dataA 5 rs :: own 9 1 B j cj (srow (namesL vs 0)) :: blk w.heap.size 66 #[.int .u32 7, .string nm, .slice A0 ni c0] :: []) 1 r.A r.d.length (by8 r.d)) _ (List.mem_of_getElem? hvk))
              have HTI := hid (takeinfo_calls (c := rc) HSl HDAT.out h4 (by dsimp only; omega))
              dsimp only at HTI
              rw [h5] at HTI
              have HREP : Aside (∀ {W : World} {L' : List Asr}, Sep w W (fun _ => False) (own 35 3 A5 m c5 (rrow rs) :: L') → W.cell? ⟨(ad.add (k * 3)).block, (ad.add (k * 3)).off + 1, none⟩ = some (.int .u32 3)) := ⟨by
                intro W L' H
                obtain ⟨ad', u, hA, hu, y0, y1, y2⟩ := (Rb.i0 : Rb w (fun _ => False) (own 35 3 A5 m c5 (rrow rs) :: L') 3 A5 m (rrow rs)).repAt H hlm
                rw [hA5] at hA
                injection hA with hA
                subst hA
                rw [hvk] at hu
                injection hu with hu
                subst hu
                exact y1⟩
              dsimp only at x2
              have hkm2 : (k : Int) < m := by omega
              have hkj : (k : Int) < mm := by omega
              have hk0 : (0 : Int) ≤ k := by omega
              clear hvk hRk h5 h4 h3 x0 x1
              generalize rd.length = nl at *
              obtain ⟨ad1, hA1, _⟩ := HVOL.out HSl
              have HVOL2 : Aside (∀ {W : World} {L' : List Asr}, Sep w W (fun _ => False) L' → W.cell? ⟨(ad1.add (p * 6)).block, (ad1.add (p * 6)).off + 2, none⟩ = some (.int .u64 v.size)) := ⟨by
                intro W L' H
                obtain ⟨ad', hA, h⟩ := HVOL.out H
                rw [hA1] at hA
                injection hA with hA
                subst hA
                exact h⟩
              subst hA5
              subst hA1
              rcases h6 with ⟨h6', fl', h6⟩ | ⟨h6, h7 | h7⟩
              · rw [h6] at HTI
                have hkz : ((k : Int) == 0) = true := by simp; omega
                clear h6 h6'
                go_wp2_with fail
                refine HTI.out.mono ?_
                rintro e w8 ⟨rfl, HS8⟩
                clear x2
                have HS9 := HS8.alloc #[.int .u16 0, .int .u64 v.size, .int .u16 fl', .string eStr, .int .u32 0, .int .u32 0, .int .u32 0] 104
                have y1 := HREP.out (HS9.sel 5 [1, 2, 3, 4])
                have y2 := HVOL2.out HS9
                have y3 := HS9.up4.blk_at 1 rfl
                have z0 := HS9.blk_at 0 rfl
                have z1 := HS9.blk_at 1 rfl
                have z3 := HS9.blk_at 3 rfl
                go_upto_region 38 with (fail)
                go_quiet (fail)
                have HS10 := (HS9.drewN nq).drop
                clear y1 y2 y3 z0 z1 z3 HS8 HS9
                go_wp2
                go_roundw
                case rel => exact ⟨k + 1, by omega, by go_num, HS10⟩
                case measure => simp [intOf]; omega
              · rw [h7] at HTI
                have hkz : ((k : Int) == 0) = false := by simp; omega
                clear h7 h6
                go_wp2_with fail
                refine HTI.out.mono ?_
                rintro e w8 ⟨rfl, HS8⟩
                clear x2
                have HS9 := HS8.alloc #[.int .u16 1, .int .u64 0, .int .u16 0, .string v.nm, .int .u32 0, .int .u32 0, .int .u32 0] 104
                have y1 := HREP.out (HS9.sel 5 [1, 2, 3, 4])
                have y2 := HVOL2.out HS9
                have y3 := HS9.up4.blk_at 1 rfl
                have z0 := HS9.blk_at 0 rfl
                have z1 := HS9.blk_at 1 rfl
                have z3 := HS9.blk_at 3 rfl
                go_upto_region 38 with (fail)
                go_quiet (fail)
                have HS10 := (HS9.drewN nq).drop
                clear y1 y2 y3 z0 z1 z3 HS8 HS9
                go_wp2
                go_roundw
                case rel => exact ⟨k + 1, by omega, by go_num, HS10⟩
                case measure => simp [intOf]; omega
              · rw [h7] at HTI
                have hkz : ((k : Int) == 0) = false := by simp; omega
                clear h7 h6
                go_wp2_with fail
                refine HTI.out.mono ?_
                rintro e w8 ⟨rfl, HS8⟩
                clear x2
                have HS9 := HS8.alloc #[.int .u16 3, .int .u64 0, .int .u16 0, .string eStr, .int .u32 1, .int .u32 256, .int .u32 4096] 104
                have y1 := HREP.out (HS9.sel 5 [1, 2, 3, 4])
                have y2 := HVOL2.out HS9
                have y3 := HS9.up4.blk_at 1 rfl
                have z0 := HS9.blk_at 0 rfl
                have z1 := HS9.blk_at 1 rfl
                have z3 := HS9.blk_at 3 rfl
                go_upto_region 38 with (fail)
                go_quiet (fail)
                have HS10 := (HS9.drewN nq).drop
                clear y1 y2 y3 z0 z1 z3 HS8 HS9
                go_wp2
                go_roundw
                case rel => exact ⟨k + 1, by omega, by go_num, HS10⟩
                case measure => simp [intOf]; omega
            · obtain rfl : k = mm := by omega
              have hkj : ¬ (k : Int) < k := by omega
              have r1 : (2 : Int) ≤ m := by have := HM1.out; omega
              have r2 : (m : Int) ≤ 4 := by have := HM1.out; omega
              go_wp2_with fail
              refine (wakes_calls HSl).mono ?_
              rintro e w20 ⟨rfl, HS20⟩
              go_wp2
              go_ret
              exact ⟨rfl, HS20.below⟩
    · rw [show ((q + 1 : Nat) : Int) - 1 = q from by omega]
      have hlt : q < n1 := by omega
      obtain ⟨ad, v, rfl, hvk, -, x1, -, -, -, -⟩ := (HH.r1 _).volAt HSq hlt
      have x1d := x1
      have o1 := HSq.up3.blk_at 1 rfl
      have HVK := hid hvk
      have jq : (q : Int) < n1 := by omega
      have jq0 : (0 : Int) ≤ q := by omega
      have wq : IntKind.i64.wrap ((q : Int) - 1) = q - 1 := by rw [IntKind.wrap_i64]; omega
      obtain ⟨vnm, hvnm⟩ : ∃ x, x = v.nm := ⟨_, rfl⟩
      rw [← hvnm] at x1 x1d
      have HVN := hid hvnm
      clear hvk hvnm
      have HVOL : Aside (∀ {W : World} {L' : List Asr}, Sep w W (fun _ => False) L' → W.cell? ⟨(ad.add (q * 6)).block, (ad.add (q * 6)).off + 1, none⟩ = some (.string vnm)) := ⟨by
        intro W L' H
        obtain ⟨ad', u, hA, hu, -, y1, -, -, -, -⟩ := (HH.r1 _).volAt H hlt
        injection hA with hA
        subst hA
        rw [HVK.out] at hu
        injection hu with hu
        subst hu
        rw [HVN.out]
        exact y1⟩
      rcases hB : (vnm.toList == nm.toList) with _ | _
      all_goals
        have HB := hid hB
        go_upto_region 7 with (fail)
        go_quiet (fail)
        obtain ⟨w6, hw6, HS6⟩ := Someone (HSq.drewN nq)
        rw [← hw6]
        clear x1 x1d o1 hw6 hB
        have x1 := HVOL.out HS6
        by_cases h16 : vnm.size ≤ 16
        · have k16 : (vnm.size : Int) ≤ 16 := by omega
          have HL := HS6.lit #[.string vnm] 9 1 1 rfl (by decide)
          have hrd := HL.rd1
          have hb1 : 1 + j ≤ maxLen := by simp only [maxLen]; omega
          have hb2 : (1 + j) * 16 ≤ 140737488355328 := by omega
          have hx1 : ∀ u ∈ xs, u.oneCell' = true := by rw [hxs.out]; exact srow_one _
          have HX1 := hid hx1
          have x1l := HVOL.out HL
          have H16 := hid h16
          clear hx1 h16
          go_wp2_with (at_builtin; (refine wpList_append_sep rfl (.tmp 49) (.tmp 50) 118 rfl 9 i0 _ 1 16 Try.underlying118 hi0 hz0 hz1 hz2 rfl (by decide) rfl HL rfl hrd HX1.out hb1 hb2 rfl rfl ?_; intro B7 c7 w7 HS7 hsz7))
          go_roundw
          case rel =>
            refine ⟨q, 1 + j, c7, B7, _, _, by omega, rfl, rfl, rfl, by omega, ⟨?_⟩, ⟨?_⟩, ⟨?_⟩, HS7.sel 5 [0, 2, 3, 4]⟩
            · first
                | (rw [atI_no HVK.out (by rw [← HVN.out]; exact HB.out)]; exact hat.out)
                | (rw [atI_yes HVK.out (by rw [← HVN.out]; exact HB.out)])
            · rw [namesL_yes HVK.out (by rw [← HVN.out]; exact H16.out), List.length_cons, ← hjl.out]; omega
            · rw [namesL_yes HVK.out (by rw [← HVN.out]; exact H16.out), hxs.out, ← HVN.out]; rfl
          case measure => simp only [intOf]; omega
        · have k16 : ¬ (vnm.size : Int) ≤ 16 := by omega
          have H16 := hid h16
          clear h16
          go_wp2
          go_roundw
          case rel =>
            refine ⟨q, j, cj, B, _, xs, by omega, rfl, rfl, rfl, by omega, ⟨?_⟩, ⟨?_⟩, ⟨?_⟩, HS6⟩
            · first
                | (rw [atI_no HVK.out (by rw [← HVN.out]; exact HB.out)]; exact hat.out)
                | (rw [atI_yes HVK.out (by rw [← HVN.out]; exact HB.out)])
            · rw [namesL_no HVK.out (by rw [← HVN.out]; exact H16.out)]; exact hjl.out
            · rw [namesL_no HVK.out (by rw [← HVN.out]; exact H16.out)]; exact hxs.out
          case measure => simp only [intOf]; omega

theorem helloTells_walk (cs0 : Array Value) (A1 : Option Addr) (n1 c1 : Nat) (x0 : Sh.V (.agg (.pair (.int .u32) (.pair .str (.pair (.slice (.int .u16) 2) .unit))))) (x1 : Sh.V (.slice (.agg (.pair (.int .u64) (.pair .str (.pair (.int .u64) (.pair (.int .u64) (.pair .bool (.pair (.int .u64) .unit))))))) 56)) (w : World) (s0 : Sees w.heap (.agg (.pair (.int .u32) (.pair .str (.pair (.slice (.int .u16) 2) .unit)))) cs0.toList x0) (s1 : Sees w.heap (.slice (.agg (.pair (.int .u64) (.pair .str (.pair (.int .u64) (.pair (.int .u64) (.pair .bool (.pair (.int .u64) .unit))))))) 56) [.slice A1 n1 c1] x1) (y0 : Light (.agg (.pair (.int .u32) (.pair .str (.pair (.slice (.int .u16) 2) .unit)))) x0) (y1 : Light (.slice (.agg (.pair (.int .u64) (.pair .str (.pair (.int .u64) (.pair (.int .u64) (.pair .bool (.pair (.int .u64) .unit))))))) 56) x1) :
    Calls Try.prog 11 #[.agg cs0, .slice A1 n1 c1] w fun e w' => e = .returned (.bool true) ∧ Below w.heap.size w w' := by
  obtain ⟨op, nm, A0, c0, inf, rfl, ho, hnm, hr0, hc0, hb0, hd0⟩ := sees_wish s0 y0
  obtain ⟨hc1, h56, vs, hvl, hok, hr1⟩ := sees_vols s1 y1
  have HH : Ht w op nm A0 inf.length c0 inf A1 n1 vs := ⟨ho, hd0, by omega, hvl, fun L => Rb.came hr0, fun L => Rb.came hr1, hok⟩
  by_cases h2 : op = 2
  · subst h2; exact tells_2 HH
  by_cases h3 : op = 3
  · subst h3; exact tells_3 HH
  by_cases h6 : op = 6
  · subst h6
    rcases hp : vPos vs nm with _ | p
    · exact tells_6n HH hp
    · obtain ⟨hlt, -⟩ := List.findIdx?_eq_some_iff_getElem.1 hp
      exact tells_6y HH hp (List.getElem?_eq_getElem hlt)
  by_cases h7 : op = 7
  · subst h7
    rcases hp : vPos vs nm with _ | p
    · exact tells_7n HH hp
    · obtain ⟨hlt, -⟩ := List.findIdx?_eq_some_iff_getElem.1 hp
      exact tells_7y HH hp (List.getElem?_eq_getElem hlt)
  · exact tells_none HH h2 h3 h6 h7
end Go.Proofs.Ytgepekailoopeaa
