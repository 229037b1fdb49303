/-
  Contract of cisternref22.Read: a name and infos, where it goes well; whole.
-/
import Derived.Test.YtgepekailoopeaaRefRdA
namespace Go.Proofs.Ytgepekailoopeaa
open Go.RowKit
set_option linter.unusedVariables false
set_option linter.unusedSimpArgs false
section
variable {w0 w : World} {O : Nat → Prop} {L : List Asr}
set_option maxHeartbeats 8000000 in
set_option maxRecDepth 100000 in
theorem rread_ok {op : Int} {A : Option Addr} {n c x k : Nat} {d : List Int} (ho : op = 6 ∨ op = 7) (HS : Sep w0 w O L) (hr : Rb w0 O L 1 A n (by8 d)) (hb : Byt d) (hc : n ≤ c) (hl : n ≤ 140737488355328) (hx : fN d 0 4 = x) (hxl : 4 + x ≤ d.length) {r : List Int} (hrr : d.drop (4 + x) = r) (h2 : r.length = 2 + 2 * k) (hk : fN r 0 2 = k) (h16 : x ≤ 16) :
    Calls Try.prog 47 #[.agg #[.int .u32 op, .slice A n c]] w (WiOut w0 O 71 ⟨0, op, strOfNums ((d.drop 4).take x), n2s (r.drop 2) k⟩ L) := by
  obtain ⟨i0, hi0, hz0, hz1, hz2⟩ := info_parts info_u16
  have hn := hr.klen HS
  have HR := ((HS.alloc #[.int .u32 op, .slice A n c] 25).allocB zWish 55 (B := w.heap.size + 1) (by simp)).allocB #[.int .u32 op, .string eStr, .slice none 0 0] 55 (B := w.heap.size + 2) (by simp)
  obtain ⟨ad, rfl⟩ : ∃ ad, A = some ad := by
    obtain ⟨ad, y, e, _⟩ := hr.elemn HS (j := 0) (by omega)
    exact ⟨ad, e⟩
  have HM : Aside (∀ {w' : World} {L' : List Asr}, Sep w0 w' O L' → Rb w0 O L' 1 (some ad) n (by8 d) → Calls Try.prog 35 #[.slice (some ad) 4 c] w' fun e w2 => e = .returned (.int .u64 (x : Int)) ∧ w' = w2) := ⟨by
    intro w' L' H q
    have := rnum_head (k := 4) (c := c) H q hb (by omega) (by decide)
    rwa [hx] at this⟩
  have hbr : Byt r := by rw [← hrr]; exact hb.drop _
  obtain ⟨m, hm⟩ : ∃ m, m = r.length := ⟨_, rfl⟩
  have hml : (m : Int) = n - (4 + x) := by rw [hm, ← hrr, List.length_drop]; omega
  have c6 : ¬ c = 4 + x := by omega
  have c4 : ¬ c = 4 := by omega
  obtain ⟨ae, hae⟩ : ∃ ae, ae = ad.add (4 + x) := ⟨_, rfl⟩
  have hcut : Rb w0 O L 1 (some ae) m (by8 r) := by
    have := hr.ktail hn.symm.symm (j := 4 + x) (cap := c) (by omega) hc
    rw [Option.map_some, if_neg c6, hrr, show n - (4 + x) = m by omega, ← hae] at this
    exact this
  have hnam : Rb w0 O L 1 (some ⟨ad.block, ad.off + 4, none⟩) x (by8 ((d.drop 4).take x)) := by
    have := hr.kcut (j := 4) (m := 4 + x) (cap := c) (by omega) (by omega) hc
    rw [Option.map_some, if_neg c4, Nat.add_sub_cancel_left, show ad.add 4 = ⟨ad.block, ad.off + 4, none⟩ by unfold Addr.add; rw [if_neg (by omega)]] at this
    exact this
  obtain ⟨cc, hcc⟩ : ∃ cc, cc = c - (4 + x) := ⟨_, rfl⟩
  have HN2 : Aside (∀ {w' : World} {L' : List Asr}, Sep w0 w' O L' → Rb w0 O L' 1 (some ae) m (by8 r) → Calls Try.prog 35 #[.slice (some ae) 2 cc] w' fun e w2 => e = .returned (.int .u64 (k : Int)) ∧ w' = w2) := ⟨by
    intro w' L' H q
    have := rnum_head (k := 2) (c := cc) H q hbr (by omega) (by decide)
    rwa [hk] at this⟩
  have HN3 : Aside (∀ {w' : World} {L' : List Asr} {q c : Nat}, q + 2 ≤ m → Sep w0 w' O L' → Rb w0 O L' 1 (some ae) m (by8 r) → Calls Try.prog 35 #[.slice (some (ae.add q)) 2 c] w' fun e w2 => e = .returned (.int .u64 (fN r q 2)) ∧ w' = w2) := ⟨by
    intro w' L' q c hq H R
    have := R.ksub q (q + 2) (by omega) (by omega)
    rw [Nat.add_sub_cancel_left] at this
    exact rnum_calls H this ((hbr.drop q).take 2) (by decide)⟩
  have b2 := fN_bd hbr 0 2
  simp only [show (256 : Int) ^ 2 = 65536 from rfl] at b2
  rw [hk] at b2
  have i1 : ¬ (n : Int) < 4 := by omega
  have i2 : (4 : Int) ≤ c := by omega
  have i3 : IntKind.u64.wrap ((n : Int) - 4) = n - 4 := by rw [IntKind.wrap_u64]; omega
  have i4 : IntKind.i64.wrap ((n : Int) - 4) = n - 4 := by rw [IntKind.wrap_i64]; omega
  have i5 : ¬ ((n : Int) - 4 < x) := by omega
  have j1 : IntKind.i64.wrap (x : Int) = x := by rw [IntKind.wrap_i64]; omega
  have j2 : IntKind.i64.wrap ((4 : Int) + x) = 4 + x := by rw [IntKind.wrap_i64]; omega
  have j3 : (4 : Int) ≤ 4 + x := by omega
  have j4 : (4 : Int) + x ≤ c := by omega
  have j5 : ((4 : Int) + x).toNat = 4 + x := by omega
  have j6 : 4 + x - 4 = x := by omega
  have j7 : (4 : Int) + x ≤ n := by omega
  have j8 : n - (4 + x) = m := by omega
  have j9 : (0 : Int) ≤ 4 + x := by omega
  have hnm : m ≤ 140737488355328 := by omega
  have hcm : m ≤ cc := by omega
  have k1 : ¬ (m : Int) < 2 := by omega
  have k2 : (2 : Int) ≤ (cc : Nat) := by omega
  have k3 : IntKind.u64.wrap (2 * (k : Int)) = 2 * k := by rw [IntKind.wrap_u64]; omega
  have k4 : IntKind.u64.wrap ((m : Int) - 2) = m - 2 := by rw [IntKind.wrap_u64]; omega
  have k5 : IntKind.i64.wrap ((m : Int) - 2) = m - 2 := by rw [IntKind.wrap_i64]; omega
  have k6 : (((m : Int) - 2) != 2 * (k : Int)) = false := by simp; omega
  have k7 : ¬ (16 : Int) < x := by omega
  have HMK : Aside (m = 2 + 2 * k ∧ k < 65536) := ⟨by omega, by omega⟩
  obtain ⟨s, hs⟩ : ∃ s, s = strOfNums ((d.drop 4).take x) := ⟨_, rfl⟩
  have HCV : Aside (∀ {W : World} {L' : List Asr}, Sep w0 W O L' → Rb w0 O L' 1 (some ⟨ad.block, ad.off + 4, none⟩) x (by8 ((d.drop 4).take x)) → ∀ c', (convert 23 9 (.slice (some ⟨ad.block, ad.off + 4, none⟩) x c')).run Try.prog W = .ok (.string s) W) := ⟨by
    intro W L' H R c'
    rw [hs]
    exact run_str (R.read H) _ _ _ Try.underlying23 Try.underlying5 Try.underlying9⟩
  rw [← hs]
  obtain ⟨Q, hQ⟩ : ∃ Q : Ending → World → Prop, Q = WiOut w0 O 71 ⟨0, op, s, n2s (r.drop 2) k⟩ L := ⟨_, rfl⟩
  have HQ := hid hQ
  rw [← hQ]
  have HCUT := hid hcut
  have HNAM := hid hnam
  have HCC := hid hcc
  have HAE := hid hae
  have n2e : Aside (∀ j, n2s (r.drop 2) (j + 1) = n2s (r.drop 2) j ++ [fN r (2 + 2 * j) 2]) := ⟨fun j => by rw [n2s_succ, fN, fN, List.drop_drop]⟩
  have fbd : Aside (∀ q, 0 ≤ fN r q 2 ∧ fN r q 2 < 65536) := ⟨fun q => by have := fN_bd hbr q 2; simpa only [show (256 : Int) ^ 2 = 65536 from rfl] using this⟩
  have H0 : Aside (n2s (r.drop 2) 0 = []) := ⟨rfl⟩
  have HLN : Aside ((n2s (r.drop 2) k).length = k) := ⟨n2s_len _ _⟩
  generalize n2s (r.drop 2) = N2 at *
  clear hn hQ hx hxl hrr hm hml hcut hbr hnam hcc hae hk h2 h16 b2 hs
  rcases ho with rfl | rfl
  · go_enter Try.func47, Try.ntmps47
    go_wp2_with fail
    with_reducible refine (HM.out HR hr.cons.cons.cons).mono ?_
    rintro e w1 ⟨rfl, rfl⟩
    go_wp2_with fail
    with_reducible refine (HM.out HR hr.cons.cons.cons).mono ?_
    rintro e w1 ⟨rfl, rfl⟩
    go_upto_region 19 with (fail)
    go_quiet (fail)
    obtain ⟨w6, hw6, HR2⟩ := (HR.drewN nq).someW
    rw [← hw6]
    rw [← HCC.out, ← HAE.out]
    clear hw6 HR HM
    have cz1 := HR2.blk_at 1 rfl
    have fz1 := HR2.blk_frozen 1
    go_wp2_with fail
    with_reducible refine (HN2.out HR2 HCUT.out.cons.cons.cons).mono ?_
    rintro e w1 ⟨rfl, rfl⟩
    have hcv := HCV.out HR2 HNAM.out.cons.cons.cons
    have HR3 := (HR2.blk_set 1 (.string s)).nil 71 1
    clear i1 i2 i3 i4 i5 j1 j2 j3 j4 j5 j6 j7 j8 j9 c4 c6
    go_wp2_with fail
    clear k3 k4 k5 k6 cz1 fz1 hcv
    obtain ⟨w7, hw7, HR4⟩ := HR3.someW
    rw [← hw7]
    clear hw7 HR3 HR2
    go_loopw [9] (fun i wr => ∃ (j q cj : Nat) (B : Option Addr), j ≤ k ∧ q = 2 + 2 * j ∧ i = .int .i64 q ∧ Sep w0 wr O (own 71 1 B j cj (kv .u16 (N2 j)) :: blk (w.heap.size + 2) 55 #[.int .u32 6, .string s, .slice B j cj] :: blk (w.heap.size + 1) 55 zWish :: blk w.heap.size 25 #[.int .u32 6, .slice (some ad) n c] :: L)) (fun i _ => m - (intOf i).toNat)
    case atStart => exact ⟨0, 2, 0, none, by omega, by omega, rfl, by rw [H0.out]; exact HR4⟩
    case round =>
      obtain ⟨j, q, cj, B, hj, hq, rfl, HS9⟩ := hrel
      clear HR4
      have hmk := HMK.out
      by_cases hlt : j < k
      · have u1 : (q : Int) < m := by omega
        have HQM : Aside (q + 2 ≤ m) := ⟨by omega⟩
        have u2 : IntKind.i64.wrap ((q : Int) + 2) = q + 2 := by rw [IntKind.wrap_i64]; omega
        have u3 : ((q : Int) + 2).toNat = q + 2 := by omega
        have u4 : q + 2 - q = 2 := by omega
        have u5 : (q : Int) + 2 ≤ (cc : Nat) := by omega
        have u6 : ¬ cc = q := by omega
        have u7 : (q : Int) ≤ q + 2 := by omega
        have u8 : (0 : Int) ≤ q := by omega
        have HN4 := hid (HN3.out (c := cc - q) HQM.out HS9.drew HCUT.out.cons.cons.cons.cons)
        have hfb := fbd.out q
        have HNS : Aside (N2 (j + 1) = N2 j ++ [fN r q 2]) := ⟨by rw [n2e.out, hq]⟩
        generalize fN r q 2 = y at *
        have y3 : IntKind.u16.wrap y = y := by rw [IntKind.wrap_u16]; omega
        have HLb := (HS9.lit #[.int .u16 y] 71 1 1 rfl (by decide)).up1
        have hrd := HLb.rd1
        have f2 := HS9.up1.blk_at 2 rfl
        have f2a := HS9.drew.up1.blk_at 2 rfl
        have f2b := HLb.up2.blk_at 2 rfl
        have f2c := HLb.drew.up2.blk_at 2 rfl
        have hb1 : j + 1 ≤ maxLen := by simp only [maxLen]; omega
        have hb2 : (j + 1) * 2 ≤ 140737488355328 := by omega
        have HQQ := hid hq
        clear hmk hq hfb
        go_upto_region 28 with (fail)
        go_region_law (first
          | (go_simp; go_at_call 35; (with_reducible refine (HN4.out).mono ?_); rintro e w1 ⟨rfl, rfl⟩)
          | (refine step_append_sep rfl (.tmp 92) (.tmp 100) 53 rfl 71 i0 _ 1 2 Try.underlying53 hi0 hz0 hz1 hz2 rfl (by decide) rfl HLb rfl hrd (kv_one .u16 [y]) hb1 hb2 rfl ((kv_append .u16 _ _).trans (congrArg (kv .u16) HNS.out.symm)) ?_; intro A12 c12 w12 HS12 hsz12; have q1 := HS12.up2.blk_frozen 2; have q2 := HS12.up2.blk_at 2 rfl))
        all_goals
          have HW := HS12.up2.blk_set 2 (.slice A12 (j + 1) c12)
          go_wp2
          go_roundw
          case rel => exact ⟨j + 1, q + 2, c12, A12, by omega, by have := HQQ.out; omega, by go_num, HW.sel 5 [1, 0, 3, 4]⟩
          case measure => simp [intOf]; omega
      · obtain rfl : j = k := by omega
        have u1 : ¬ (q : Int) < m := by omega
        have t0 := HS9.up1.blk_at 0 rfl
        have t1 := HS9.up1.blk_at 1 rfl
        have t2 := HS9.up1.blk_at 2 rfl
        have HB3 := HS9.up2
        have cz0 := HB3.blk_at 0 rfl
        have cz1 := HB3.blk_at 1 rfl
        have cz2 := HB3.blk_at 2 rfl
        have fz0 := HB3.blk_frozen 0
        have fz1 := HB3.blk_frozen 1
        have fz2 := HB3.blk_frozen 2
        have HRr := HB3.blk_set3 (.int .u32 6) (.string s) (.slice B j cj)
        clear hmk hq
        go_wp2
        (try simp only [Exit.inBlock, Exit.then])
        refine bodyPost_ret (results_rowa rfl _ _ _ _ _ _ _ rfl HRr.blk_heap Try.underlying55 rfl info_rwish) rfl ?_
        rw [HQ.out]
        exact ⟨B, cj, by dsimp only; rw [HLN.out]; rfl, by dsimp only; rw [HLN.out]; exact HRr.sel 4 [1]⟩
  · go_enter Try.func47, Try.ntmps47
    go_wp2_with fail
    with_reducible refine (HM.out HR hr.cons.cons.cons).mono ?_
    rintro e w1 ⟨rfl, rfl⟩
    go_wp2_with fail
    with_reducible refine (HM.out HR hr.cons.cons.cons).mono ?_
    rintro e w1 ⟨rfl, rfl⟩
    go_upto_region 19 with (fail)
    go_quiet (fail)
    obtain ⟨w6, hw6, HR2⟩ := (HR.drewN nq).someW
    rw [← hw6]
    rw [← HCC.out, ← HAE.out]
    clear hw6 HR HM
    have cz1 := HR2.blk_at 1 rfl
    have fz1 := HR2.blk_frozen 1
    go_wp2_with fail
    with_reducible refine (HN2.out HR2 HCUT.out.cons.cons.cons).mono ?_
    rintro e w1 ⟨rfl, rfl⟩
    have hcv := HCV.out HR2 HNAM.out.cons.cons.cons
    have HR3 := (HR2.blk_set 1 (.string s)).nil 71 1
    clear i1 i2 i3 i4 i5 j1 j2 j3 j4 j5 j6 j7 j8 j9 c4 c6
    go_wp2_with fail
    clear k3 k4 k5 k6 cz1 fz1 hcv
    obtain ⟨w7, hw7, HR4⟩ := HR3.someW
    rw [← hw7]
    clear hw7 HR3 HR2
    go_loopw [9] (fun i wr => ∃ (j q cj : Nat) (B : Option Addr), j ≤ k ∧ q = 2 + 2 * j ∧ i = .int .i64 q ∧ Sep w0 wr O (own 71 1 B j cj (kv .u16 (N2 j)) :: blk (w.heap.size + 2) 55 #[.int .u32 7, .string s, .slice B j cj] :: blk (w.heap.size + 1) 55 zWish :: blk w.heap.size 25 #[.int .u32 7, .slice (some ad) n c] :: L)) (fun i _ => m - (intOf i).toNat)
    case atStart => exact ⟨0, 2, 0, none, by omega, by omega, rfl, by rw [H0.out]; exact HR4⟩
    case round =>
      obtain ⟨j, q, cj, B, hj, hq, rfl, HS9⟩ := hrel
      clear HR4
      have hmk := HMK.out
      by_cases hlt : j < k
      · have u1 : (q : Int) < m := by omega
        have HQM : Aside (q + 2 ≤ m) := ⟨by omega⟩
        have u2 : IntKind.i64.wrap ((q : Int) + 2) = q + 2 := by rw [IntKind.wrap_i64]; omega
        have u3 : ((q : Int) + 2).toNat = q + 2 := by omega
        have u4 : q + 2 - q = 2 := by omega
        have u5 : (q : Int) + 2 ≤ (cc : Nat) := by omega
        have u6 : ¬ cc = q := by omega
        have u7 : (q : Int) ≤ q + 2 := by omega
        have u8 : (0 : Int) ≤ q := by omega
        have HN4 := hid (HN3.out (c := cc - q) HQM.out HS9.drew HCUT.out.cons.cons.cons.cons)
        have hfb := fbd.out q
        have HNS : Aside (N2 (j + 1) = N2 j ++ [fN r q 2]) := ⟨by rw [n2e.out, hq]⟩
        generalize fN r q 2 = y at *
        have y3 : IntKind.u16.wrap y = y := by rw [IntKind.wrap_u16]; omega
        have HLb := (HS9.lit #[.int .u16 y] 71 1 1 rfl (by decide)).up1
        have hrd := HLb.rd1
        have f2 := HS9.up1.blk_at 2 rfl
        have f2a := HS9.drew.up1.blk_at 2 rfl
        have f2b := HLb.up2.blk_at 2 rfl
        have f2c := HLb.drew.up2.blk_at 2 rfl
        have hb1 : j + 1 ≤ maxLen := by simp only [maxLen]; omega
        have hb2 : (j + 1) * 2 ≤ 140737488355328 := by omega
        have HQQ := hid hq
        clear hmk hq hfb
        go_upto_region 28 with (fail)
        go_region_law (first
          | (go_simp; go_at_call 35; (with_reducible refine (HN4.out).mono ?_); rintro e w1 ⟨rfl, rfl⟩)
          | (refine step_append_sep rfl (.tmp 92) (.tmp 100) 53 rfl 71 i0 _ 1 2 Try.underlying53 hi0 hz0 hz1 hz2 rfl (by decide) rfl HLb rfl hrd (kv_one .u16 [y]) hb1 hb2 rfl ((kv_append .u16 _ _).trans (congrArg (kv .u16) HNS.out.symm)) ?_; intro A12 c12 w12 HS12 hsz12; have q1 := HS12.up2.blk_frozen 2; have q2 := HS12.up2.blk_at 2 rfl))
        all_goals
          have HW := HS12.up2.blk_set 2 (.slice A12 (j + 1) c12)
          go_wp2
          go_roundw
          case rel => exact ⟨j + 1, q + 2, c12, A12, by omega, by have := HQQ.out; omega, by go_num, HW.sel 5 [1, 0, 3, 4]⟩
          case measure => simp [intOf]; omega
      · obtain rfl : j = k := by omega
        have u1 : ¬ (q : Int) < m := by omega
        have t0 := HS9.up1.blk_at 0 rfl
        have t1 := HS9.up1.blk_at 1 rfl
        have t2 := HS9.up1.blk_at 2 rfl
        have HB3 := HS9.up2
        have cz0 := HB3.blk_at 0 rfl
        have cz1 := HB3.blk_at 1 rfl
        have cz2 := HB3.blk_at 2 rfl
        have fz0 := HB3.blk_frozen 0
        have fz1 := HB3.blk_frozen 1
        have fz2 := HB3.blk_frozen 2
        have HRr := HB3.blk_set3 (.int .u32 7) (.string s) (.slice B j cj)
        clear hmk hq
        go_wp2
        (try simp only [Exit.inBlock, Exit.then])
        refine bodyPost_ret (results_rowa rfl _ _ _ _ _ _ _ rfl HRr.blk_heap Try.underlying55 rfl info_rwish) rfl ?_
        rw [HQ.out]
        exact ⟨B, cj, by dsimp only; rw [HLN.out]; rfl, by dsimp only; rw [HLN.out]; exact HRr.sel 4 [1]⟩

theorem rread_asks {op : Int} {A : Option Addr} {n c : Nat} {d : List Int} (ho : op = 6 ∨ op = 7) (HS : Sep w0 w O L) (hr : Rb w0 O L 1 A n (by8 d)) (hb : Byt d) (hc : n ≤ c) (hl : n ≤ 140737488355328) :
    Calls Try.prog 47 #[.agg #[.int .u32 op, .slice A n c]] w (WiOut w0 O 71 (askW op d) L) := by
  by_cases h1 : d.length < 4 ∨ (d.length : Int) - 4 < fN d 0 4
  · have e : askW op d = noWi 5 := by unfold askW; rw [if_pos h1]
    rw [e]
    exact rread_bad1 ho HS hr hb hc hl h1
  have hbd := fN_bd hb 0 4
  obtain ⟨x, hx⟩ : ∃ x : Nat, fN d 0 4 = x := ⟨_, (Int.toNat_of_nonneg hbd.1).symm⟩
  obtain ⟨r, hrr⟩ : ∃ r, d.drop (4 + x) = r := ⟨_, rfl⟩
  by_cases h2 : r.length < 2 ∨ (r.length : Int) - 2 ≠ 2 * fN r 0 2
  · have e : askW op d = noWi 5 := by unfold askW; rw [if_neg h1, hx, Int.toNat_natCast, hrr, if_pos h2]
    rw [e]
    exact rread_bad2 (E := 5) ho HS hr hb hc hl hx (by omega) hrr (by omega)
  by_cases h3 : 16 < x
  · have e : askW op d = noWi 3 := by unfold askW; rw [if_neg h1, hx, Int.toNat_natCast, hrr, if_neg h2, if_pos h3]
    rw [e]
    exact rread_bad2 (E := 3) ho HS hr hb hc hl hx (by omega) hrr (by omega)
  have hbr : Byt r := by rw [← hrr]; exact hb.drop _
  have hbd2 := fN_bd hbr 0 2
  obtain ⟨k, hk⟩ : ∃ k : Nat, fN r 0 2 = k := ⟨_, (Int.toNat_of_nonneg hbd2.1).symm⟩
  have e : askW op d = ⟨0, op, strOfNums ((d.drop 4).take x), n2s (r.drop 2) k⟩ := by unfold askW; rw [if_neg h1, hx, Int.toNat_natCast, hrr, if_neg h2, if_neg h3, hk, Int.toNat_natCast]
  rw [e]
  exact rread_ok ho HS hr hb hc hl hx (by omega) hrr (by omega) hk (by omega)
theorem rread_calls {op : Int} {A : Option Addr} {n c : Nat} {d : List Int} (HS : Sep w0 w O L) (hr : Rb w0 O L 1 A n (by8 d)) (hb : Byt d) (hc : n ≤ c) (hl : n ≤ 140737488355328) :
    Calls Try.prog 47 #[.agg #[.int .u32 op, .slice A n c]] w (WiOut w0 O 71 (readW op d) L) := by
  by_cases h1 : op = 1
  · subst h1; exact rread_1 HS hr
  by_cases h23 : op = 2 ∨ op = 3
  · exact rread_23 h23 HS hr
  by_cases h67 : op = 6 ∨ op = 7
  · rw [show readW op d = askW op d from by unfold readW; rw [if_neg h1, if_neg h23, if_pos h67]]
    exact rread_asks h67 HS hr hb hc hl
  · exact rread_none HS h1 (by omega) (by omega) (by omega) (by omega)
end
end Go.Proofs.Ytgepekailoopeaa
