/-
  Contract of cisternref24.TakeAnswer: the volumes, one behind the other.
-/
import Derived.Test.YtankfmfenbhkgaaRef24TkL
import Derived.Test.YtankfmfenbhkgaaLate
import Derived.Test.YtankfmfenbhkgaaRef24PutA
namespace Go.Proofs.Ytankfmfenbhkgaa
open Go.RowKit
set_option linter.unusedVariables false
set_option linter.unusedSimpArgs false
theorem volsFrom_err {l : List Int} {a : Nat} {e : Int} {k : Nat} : ∀ {N : Nat}, volsFrom l a k = .error e → k ≤ N → volsFrom l a N = .error e
  | 0, h, hk => by obtain rfl : k = 0 := by omega
                   exact h
  | N + 1, h, hk => by
    rcases Nat.lt_or_ge N k with h1 | h1
    · obtain rfl : k = N + 1 := by omega
      exact h
    · rw [volsFrom, volsFrom_err h h1]
theorem fN_drop (l : List Int) (a o s : Nat) : fN (l.drop a) o s = fN l (a + o) s := by simp [fN, List.drop_drop]
section
variable {w0 w : World} {O : Nat → Prop} {L : List Asr}
theorem rnum_head {ad : Addr} {n c : Nat} {l : List Int} (HS : Sep w0 w O L) (hr : Rb w0 O L 1 (some ad) n (by8 l)) (hb : Byt l) (h8 : 8 ≤ n) :
    Calls Try.prog 35 #[.slice (some ad) 8 c] w fun e w' => e = .returned (.int .u64 (fN l 0 8)) ∧ w = w' := by
  have := rnum_calls (c := c) HS (hr.ktake h8) (hb.take 8) (by omega)
  rwa [show num (l.take 8) = fN l 0 8 by simp [fN]] at this
set_option maxHeartbeats 4000000 in
set_option maxRecDepth 100000 in
theorem ref24takeA_rest {ad : Addr} {n c N : Nat} {l : List Int} (HS : Sep w0 w O L) (hr : Rb w0 O L 1 (some ad) n (by8 l)) (hb : Byt l) (hc : n ≤ c) (hl : n ≤ 140737488355328) (h25 : 25 ≤ n)
    (hm : num (l.take 4) = 1128878913) (hN : fN l 24 1 = N) (h16 : N ≤ 16) :
    Calls Try.prog 19 #[.slice (some ad) n c] w fun e w' => (∀ E, volsFrom l 25 N = .error E → e = .returned (.tuple #[.agg zAns, .int .i64 0, .int .i64 E]) ∧ Sep w0 w' O L) ∧
      (∀ us a, volsFrom l 25 N = .ok (us, a) → ∃ A' c', e = .returned (.tuple #[ransV (fN l 8 8) (fN l 4 4) (fN l 16 8) A' N c', .int .i64 (a : Nat), .int .i64 0]) ∧ Sep w0 w' O (own 48 6 A' N c' (vrow us) :: L)) := by
  obtain ⟨i0, hi0, hz0, hz1, hz2⟩ := info_parts info_vol6
  have hn := hr.klen HS
  have HSa := HS.alloc zAns 43
  have i1 : (4 : Int) ≤ n := by omega
  have i1' : ¬ (n : Int) < 4 := by omega
  have i2 : (n : Int) ≤ c := by omega
  have i3 : (0 : Int) ≤ 4 := by decide
  have i4 : (4 : Int) ≤ c := by omega
  have i8 : (8 : Int) ≤ c := by omega
  have i16 : (16 : Int) ≤ c := by omega
  have i24 : (24 : Int) ≤ c := by omega
  have c4 : ¬ c = 4 := by omega
  have c8 : ¬ c = 8 := by omega
  have c16 : ¬ c = 16 := by omega
  have hs := run_str (P := Try.prog) (c := c) ((hr.ktake (m := 4) (by omega)).cons.read HSa) 25 9 5 Try.underlying25 Try.underlying5 Try.underlying9
  have hs4 : l.take 4 = [67, 73, 83, 65] := num4_inj (hb.take 4) (by rw [List.length_take]; omega) rfl (by decide) (hm.trans (by decide))
  rw [hs4, show strOfNums [67, 73, 83, 65] = ByteArray.mk #[67, 73, 83, 65] from by decide] at hs
  have j1 : ¬ (n : Int) < 25 := by omega
  have b4 := fN_bd hb 4 4
  simp only [show (256 : Int) ^ 4 = 4294967296 from rfl] at b4
  have y0 : IntKind.u32.wrap (fN l 4 4) = fN l 4 4 := by rw [IntKind.wrap_u32]; omega
  have y1 : IntKind.i64.wrap (N : Int) = N := by rw [IntKind.wrap_i64]; omega
  have hN16 : ¬ 16 < (N : Int) := by omega
  have o24 : (24 : Int) < n := by omega
  have HLN := hid hn
  have HN16 := hid h16
  obtain ⟨Q, hQ⟩ : ∃ Q : Ending → World → Prop, Q = fun e w' => (∀ E, volsFrom l 25 N = .error E → e = .returned (.tuple #[.agg zAns, .int .i64 0, .int .i64 E]) ∧ Sep w0 w' O L) ∧
      (∀ us a, volsFrom l 25 N = .ok (us, a) → ∃ A' c', e = .returned (.tuple #[ransV (fN l 8 8) (fN l 4 4) (fN l 16 8) A' N c', .int .i64 (a : Nat), .int .i64 0]) ∧ Sep w0 w' O (own 48 6 A' N c' (vrow us) :: L)) := ⟨_, rfl⟩
  have HQ := hid hQ
  rw [← hQ]
  clear hm hs4 h16 hQ hn
  go_enter Try.func19, Try.ntmps19
  go_upto_region 5 with (fail)
  go_cut [5] (fun v wx => v = .pointer (some ⟨w.heap.size + 1, 0, none⟩) ∧ Sep w0 wx O (blk (w.heap.size + 1) 43 #[.int .u64 (fN l 8 8), .int .u32 (fN l 4 4), .int .u64 (fN l 16 8), .slice none 0 0] :: blk w.heap.size 43 zAns :: L))
  case first =>
    have HF := HSa.allocB #[.int .u64 (fN l 8 8), .int .u32 (fN l 4 4), .int .u64 (fN l 16 8), .slice none 0 0] 43 (B := w.heap.size + 1) (by simp)
    go_region_held_law (fun w' => Sep w0 w' O (blk w.heap.size 43 zAns :: L)) (first | exact HSa.drew | exact (HSa.alloc_ _).drew)
      (first
        | (go_at_call 35; refine (rnum_sub (by assumption) hr.cons hb h25 (by rfl)).mono ?_; rintro e w1 ⟨rfl, rfl⟩))
    all_goals
      go_wp2
      go_meet
      case rel => exact ⟨rfl, HF.drew⟩
  case rest =>
    obtain ⟨rfl, HS0⟩ := hcut
    clear HSa hs
    have k24 := Rb.byteAt hr.cons.cons HS0 (o := 24) (by omega) (by decide)
    rw [hN] at k24
    generalize fN l 4 4 = er at *
    generalize fN l 8 8 = ck at *
    generalize fN l 16 8 = idn at *
    go_wp2_with fail
    go_loopw [7, 8] (fun at' i wr => ∃ (k c' a : Nat) (B : Option Addr) (us : List Vol), k ≤ N ∧ i = .int .i64 k ∧ at' = .int .i64 a ∧ 25 ≤ a ∧ a ≤ n ∧ Aside (volsFrom l 25 k = .ok (us, a)) ∧
      Sep w0 wr O (own 48 6 B k c' (vrow us) :: blk (w.heap.size + 1) 43 #[.int .u64 ck, .int .u32 er, .int .u64 idn, .slice B k c'] :: blk w.heap.size 43 zAns :: L)) (fun _ i _ => N - (intOf i).toNat)
    case atStart => exact ⟨0, 0, 25, none, [], Nat.zero_le _, rfl, rfl, by omega, h25, ⟨rfl⟩, HS0.nil _ _⟩
    case round =>
      obtain ⟨k, c', a, B, us, hk, rfl, rfl, ha25, han, hvf, HS1⟩ := hrel
      clear HS0 k24
      by_cases hlt : k < N
      · have hj : (k : Int) < N := by omega
        have w26 : IntKind.i64.wrap ((a : Int) + 26) = a + 26 := by rw [IntKind.wrap_i64]; omega
        by_cases h26 : n < a + 26
        · have q26 : (n : Int) < a + 26 := by omega
          have HB := HS1.up2
          have c0 := HB.blk_at 0 rfl
          have c1 := HB.blk_at 1 rfl
          have c2' := HB.blk_at 2 rfl
          have c3 := HB.blk_at 3 rfl
          have f0 := HB.blk_frozen 0
          have f1 := HB.blk_frozen 1
          have f2 := HB.blk_frozen 2
          have f3 := HB.blk_frozen 3
          have HR := HB.blk_set4 (.int .u64 0) (.int .u32 0) (.int .u64 0) (.slice none 0 0)
          have HV : Aside (volsFrom l 25 N = .error 0) := ⟨by
            refine volsFrom_err (k := k + 1) ?_ (by omega)
            rw [volsFrom, hvf.out]
            simp only [volAt]
            rw [if_pos (by have := HLN.out; omega)]⟩
          go_wp2
          (try simp only [Exit.inBlock, Exit.then])
          refine bodyPost_ret (results_row2 rfl _ _ _ _ _ _ _ rfl HR.blk_heap Try.underlying43 rfl info_rans) rfl ?_
          rw [HQ.out]
          refine ⟨fun E hE => ?_, fun us' a' hE => ?_⟩
          · rw [HV.out] at hE
            cases hE
            exact ⟨rfl, HR.drop.drop.drop⟩
          · rw [HV.out] at hE
            cases hE
        · have q26 : ¬ (n : Int) < a + 26 := by omega
          have ca : ¬ c = a := by omega
          have qa1 : (a : Int) ≤ n := by omega
          have hrp := hr.ktail HLN.out (j := a) (cap := c) (by omega) hc
          rw [if_neg ca, Option.map_some] at hrp
          obtain ⟨ad2, had⟩ : ∃ x, ad.add a = x := ⟨_, rfl⟩
          obtain ⟨n2, hn2⟩ : ∃ x, n - a = x := ⟨_, rfl⟩
          obtain ⟨cc, hc2⟩ : ∃ x, c - a = x := ⟨_, rfl⟩
          rw [had, hn2] at hrp
          have hb2 := hb.drop a
          have hc2' : n2 ≤ cc := by omega
          have hn26 : 26 ≤ n2 := by omega
          have m24 : (24 : Int) < n2 := by omega
          have m25 : (25 : Int) < n2 := by omega
          have s8 : (8 : Int) ≤ cc := by omega
          have s16 : (16 : Int) ≤ cc := by omega
          have s24 : (24 : Int) ≤ cc := by omega
          have z8 : ¬ cc = 8 := by omega
          have z16 : ¬ cc = 16 := by omega
          have x24 := Rb.byteAt hrp.cons.cons.cons HS1 (o := 24) (by omega) (by decide)
          have x25 := Rb.byteAt hrp.cons.cons.cons HS1 (o := 25) (by omega) (by decide)
          have F24 := hid (fN_drop l a 24 1)
          have F25 := hid (fN_drop l a 25 1)
          have b25 := fN_bd hb2 25 1
          simp only [show (256 : Int) ^ 1 = 256 from rfl] at b25
          obtain ⟨y, hy⟩ : ∃ y : Nat, fN (l.drop a) 25 1 = y := ⟨_, (Int.toNat_of_nonneg b25.1).symm⟩
          obtain ⟨x, hx⟩ : ∃ x, fN (l.drop a) 24 1 = x := ⟨_, rfl⟩
          rw [hx] at x24
          rw [hy] at x25 b25
          have HY := hid hy
          have HX := hid hx
          have wy : IntKind.i64.wrap (y : Int) = y := by rw [IntKind.wrap_i64]; omega
          clear hy hx
          by_cases h1 : 1 < x
          · clear x25
            have HB := HS1.up2
            have c0 := HB.blk_at 0 rfl
            have c1 := HB.blk_at 1 rfl
            have c2' := HB.blk_at 2 rfl
            have c3 := HB.blk_at 3 rfl
            have f0 := HB.blk_frozen 0
            have f1 := HB.blk_frozen 1
            have f2 := HB.blk_frozen 2
            have f3 := HB.blk_frozen 3
            have HR := HB.blk_set4 (.int .u64 0) (.int .u32 0) (.int .u64 0) (.slice none 0 0)
            have HV : Aside (volsFrom l 25 N = .error 5) := ⟨by
              refine volsFrom_err (k := k + 1) ?_ (by omega)
              rw [volsFrom, hvf.out]
              simp only [volAt]
              rw [if_neg (by have := HLN.out; omega), if_pos (by rw [← F24.out, HX.out]; exact h1)]⟩
            go_wp2
            (try simp only [Exit.inBlock, Exit.then])
            refine bodyPost_ret (results_row2 rfl _ _ _ _ _ _ _ rfl HR.blk_heap Try.underlying43 rfl info_rans) rfl ?_
            rw [HQ.out]
            refine ⟨fun E hE => ?_, fun us' a' hE => ?_⟩
            · rw [HV.out] at hE
              cases hE
              exact ⟨rfl, HR.drop.drop.drop⟩
            · rw [HV.out] at hE
              cases hE
          · by_cases hy16 : 16 < y
            · have qy : 16 < (y : Int) := by omega
              clear hy16
              have HB := HS1.up2
              have c0 := HB.blk_at 0 rfl
              have c1 := HB.blk_at 1 rfl
              have c2' := HB.blk_at 2 rfl
              have c3 := HB.blk_at 3 rfl
              have f0 := HB.blk_frozen 0
              have f1 := HB.blk_frozen 1
              have f2 := HB.blk_frozen 2
              have f3 := HB.blk_frozen 3
              have HR := HB.blk_set4 (.int .u64 0) (.int .u32 0) (.int .u64 0) (.slice none 0 0)
              have HV : Aside (volsFrom l 25 N = .error 3) := ⟨by
                refine volsFrom_err (k := k + 1) ?_ (by omega)
                rw [volsFrom, hvf.out]
                simp only [volAt]
                rw [if_neg (by have := HLN.out; omega), if_neg (by rw [← F24.out, HX.out]; exact h1), if_pos (by rw [← F25.out, HY.out]; exact qy)]⟩
              go_wp2
              (try simp only [Exit.inBlock, Exit.then])
              refine bodyPost_ret (results_row2 rfl _ _ _ _ _ _ _ rfl HR.blk_heap Try.underlying43 rfl info_rans) rfl ?_
              rw [HQ.out]
              refine ⟨fun E hE => ?_, fun us' a' hE => ?_⟩
              · rw [HV.out] at hE
                cases hE
                exact ⟨rfl, HR.drop.drop.drop⟩
              · rw [HV.out] at hE
                cases hE
            · have qy : ¬ 16 < (y : Int) := by omega
              have wy2 : IntKind.i64.wrap (26 + (y : Int)) = 26 + y := by rw [IntKind.wrap_i64]; omega
              by_cases hf : n2 < 26 + y
              · have qf : (n2 : Int) < 26 + y := by omega
                clear hf
                have HB := HS1.up2
                have c0 := HB.blk_at 0 rfl
                have c1 := HB.blk_at 1 rfl
                have c2' := HB.blk_at 2 rfl
                have c3 := HB.blk_at 3 rfl
                have f0 := HB.blk_frozen 0
                have f1 := HB.blk_frozen 1
                have f2 := HB.blk_frozen 2
                have f3 := HB.blk_frozen 3
                have HR := HB.blk_set4 (.int .u64 0) (.int .u32 0) (.int .u64 0) (.slice none 0 0)
                have HV : Aside (volsFrom l 25 N = .error 0) := ⟨by
                  refine volsFrom_err (k := k + 1) ?_ (by omega)
                  rw [volsFrom, hvf.out]
                  simp only [volAt]
                  rw [if_neg (by have := HLN.out; omega), if_neg (by rw [← F24.out, HX.out]; exact h1), if_neg (by rw [← F25.out, HY.out]; exact qy), if_pos (by rw [← F25.out, HY.out, Int.toNat_natCast]; have := HLN.out; omega)]⟩
                go_wp2
                (try simp only [Exit.inBlock, Exit.then])
                refine bodyPost_ret (results_row2 rfl _ _ _ _ _ _ _ rfl HR.blk_heap Try.underlying43 rfl info_rans) rfl ?_
                rw [HQ.out]
                refine ⟨fun E hE => ?_, fun us' a' hE => ?_⟩
                · rw [HV.out] at hE
                  cases hE
                  exact ⟨rfl, HR.drop.drop.drop⟩
                · rw [HV.out] at hE
                  cases hE
              · have qf : ¬ (n2 : Int) < 26 + y := by omega
                have qf1 : (26 : Int) ≤ 26 + y := by omega
                have qf2 : (26 : Int) + y ≤ cc := by omega
                have qf3 : ((26 : Int) + y).toNat = 26 + y := by omega
                have qf4 : 26 + y - 26 = y := by omega
                obtain ⟨nm, hnm⟩ : ∃ nm, nm = strOfNums (((l.drop a).drop 26).take y) := ⟨_, rfl⟩
                obtain ⟨DA, hDA⟩ : ∃ DA : Option Addr, (if cc = 26 then some ad2 else some ⟨ad2.block, ad2.off + 26, none⟩) = DA := ⟨_, rfl⟩
                have HNM := hid hnm
                have hstr : ∀ {W' : World} {L' : List Asr}, Sep w0 W' O L' → Rb w0 O L' 1 (some ad2) n2 (by8 (l.drop a)) → ∀ c', (convert 25 9 (.slice DA y c')).run Try.prog W' = .ok (.string nm) W' := by
                  intro W' L' H R c'
                  have hq1 := R.kcut (j := 26) (m := 26 + y) (cap := cc) (by omega) (by omega) hc2'
                  have e : ad2.add 26 = ⟨ad2.block, ad2.off + 26, none⟩ := by unfold Addr.add; rw [if_neg (by omega)]
                  rw [Nat.add_sub_cancel_left, Option.map_some, e, hDA] at hq1
                  rw [hnm]
                  exact run_str (hq1.read H) _ _ _ Try.underlying25 Try.underlying5 Try.underlying9
                have HSTR := hid @hstr
                have hbyte : ∀ {W' : World} {L' : List Asr}, Sep w0 W' O L' → Rb w0 O L' 1 (some ad2) n2 (by8 (l.drop a)) → W'.cell? ⟨ad2.block, ad2.off + 24, none⟩ = some (.int .u8 x) := by
                  intro W' L' H R
                  have := Rb.byteAt R H (o := 24) (by omega) (by decide)
                  rw [HX.out] at this
                  exact this
                have HBY := hid @hbyte
                clear hnm hstr hbyte
                have hp8 : 8 ≤ n2 := by omega
                go_upto_region 23 with (fail)
                clear x24 x25
                refine wp_region_G 24 (fun w' => Sep w0 w' O (blk (w.heap.size + 1) 43 #[.int .u64 ck, .int .u32 er, .int .u64 idn, .slice B k c'] :: blk w.heap.size 43 zAns :: L)) #[false, false, false, false, false, false, false, false, false, false, false, false, false, false, false, false, false, false, false, false, false, false, false, false, false] (by kernel_rfl) rfl rfl HS1.drop.drew (fun hHeld => ?_)
                refine wpAnyG_take (i := 0) (d := some 75) (fuel := 24) (listed' := #[true, false, false, false, false, false, false, false, false, false, false, false, false, false, false, false, false, false, false, false, false, false, false, false, false]) (v := ?vv0) rfl rfl rfl rfl (by kernel_rfl) (fun _ _ _ h => h) hHeld (Or.inl ⟨by rfl, fun w' hS' => Or.inl ?yv0⟩) ?yr0
                case yv0 =>
                  (try dsimp only at hS')
                  go_simp
                  with_reducible rfl
                simp only [Act.put, List.setIfInBounds_toArray, List.set_cons_zero, List.set_cons_succ]
                refine wpAnyG_take (i := 1) (d := some 76) (fuel := 23) (listed' := #[true, true, false, false, false, false, false, false, false, false, false, false, false, false, false, false, false, false, false, false, false, false, false, false, false]) (v := ?vv1) rfl rfl rfl rfl (by kernel_rfl) (fun _ _ _ h => h) hHeld (Or.inl ⟨by rfl, fun w' hS' => Or.inl ?yv1⟩) ?yr1
                case yv1 =>
                  (try dsimp only at hS')
                  have q3 := hS'.blk_at 3 rfl
                  go_simp
                  with_reducible rfl
                simp only [Act.put, List.setIfInBounds_toArray, List.set_cons_zero, List.set_cons_succ]
                refine wpAnyG_take (i := 2) (d := some 77) (fuel := 22) (listed' := #[true, true, true, false, false, false, false, false, false, false, false, false, false, false, false, false, false, false, false, false, false, false, false, false, false]) (v := ?vv2) rfl rfl rfl rfl (by kernel_rfl) (fun _ _ _ h => h) hHeld (Or.inl ⟨by rfl, fun w' hS' => Or.inl ?yv2⟩) ?yr2
                case yv2 =>
                  (try dsimp only at hS')
                  go_simp
                  with_reducible rfl
                simp only [Act.put, List.setIfInBounds_toArray, List.set_cons_zero, List.set_cons_succ]
                refine wpAnyG_take (i := 3) (d := some 78) (fuel := 21) (listed' := #[true, true, true, true, false, false, false, false, false, false, false, false, false, false, false, false, false, false, false, false, false, false, false, false, false]) (v := ?vv3) rfl rfl rfl rfl (by kernel_rfl) (fun _ _ _ h => h) hHeld (Or.inl ⟨by rfl, fun w' hS' => Or.inl ?yv3⟩) ?yr3
                case yv3 =>
                  (try dsimp only at hS')
                  go_simp
                  with_reducible rfl
                simp only [Act.put, List.setIfInBounds_toArray, List.set_cons_zero, List.set_cons_succ]
                refine wpAnyG_take (i := 4) (d := some 79) (fuel := 20) (listed' := #[true, true, true, true, true, false, false, false, false, false, false, false, false, false, false, false, false, false, false, false, false, false, false, false, false]) (v := (.int .u64 (fN (l.drop a) 0 8))) rfl rfl rfl rfl (by kernel_rfl) (fun _ _ _ h => h) hHeld (Or.inl ⟨by rfl, fun w' hS' => Or.inr ⟨?ff4, ?aa4, ?ye4, ?yc4⟩⟩) ?yr4
                case ye4 =>
                  go_simp
                  constructor <;> with_reducible rfl
                case yc4 => exact (rnum_head hS' hrp.cons.cons hb2 hp8).mono (fun e w1 h => ⟨h.1, h.2.symm⟩)
                simp only [Act.put, List.setIfInBounds_toArray, List.set_cons_zero, List.set_cons_succ]
                refine wpAnyG_take (i := 5) (d := some 80) (fuel := 19) (listed' := #[true, true, true, true, true, true, false, false, false, false, false, false, false, false, false, false, false, false, false, false, false, false, false, false, false]) (v := ?vv5) rfl rfl rfl rfl (by kernel_rfl) (fun _ _ _ h => h) hHeld (Or.inl ⟨by rfl, fun w' hS' => Or.inl ?yv5⟩) ?yr5
                case yv5 =>
                  (try dsimp only at hS')
                  go_simp
                  with_reducible rfl
                simp only [Act.put, List.setIfInBounds_toArray, List.set_cons_zero, List.set_cons_succ]
                refine wpAnyG_take (i := 6) (d := some 81) (fuel := 18) (listed' := #[true, true, true, true, true, true, true, false, false, false, false, false, false, false, false, false, false, false, false, false, false, false, false, false, false]) (v := ?vv6) rfl rfl rfl rfl (by kernel_rfl) (fun _ _ _ h => h) hHeld (Or.inl ⟨by rfl, fun w' hS' => Or.inl ?yv6⟩) ?yr6
                case yv6 =>
                  (try dsimp only at hS')
                  go_simp
                  with_reducible rfl
                simp only [Act.put, List.setIfInBounds_toArray, List.set_cons_zero, List.set_cons_succ]
                refine wpAnyG_take (i := 7) (d := some 82) (fuel := 17) (listed' := #[true, true, true, true, true, true, true, true, false, false, false, false, false, false, false, false, false, false, false, false, false, false, false, false, false]) (v := (.int .u64 (fN (l.drop a) 8 8))) rfl rfl rfl rfl (by kernel_rfl) (fun _ _ _ h => h) hHeld (Or.inl ⟨by rfl, fun w' hS' => Or.inr ⟨?ff7, ?aa7, ?ye7, ?yc7⟩⟩) ?yr7
                case ye7 =>
                  go_simp
                  constructor <;> with_reducible rfl
                case yc7 => exact (rnum_sub hS' hrp.cons.cons hb2 hn26 (by rfl)).mono (fun e w1 h => ⟨h.1, h.2.symm⟩)
                simp only [Act.put, List.setIfInBounds_toArray, List.set_cons_zero, List.set_cons_succ]
                refine wpAnyG_take (i := 8) (d := some 83) (fuel := 16) (listed' := #[true, true, true, true, true, true, true, true, true, false, false, false, false, false, false, false, false, false, false, false, false, false, false, false, false]) (v := ?vv8) rfl rfl rfl rfl (by kernel_rfl) (fun _ _ _ h => h) hHeld (Or.inl ⟨by rfl, fun w' hS' => Or.inl ?yv8⟩) ?yr8
                case yv8 =>
                  (try dsimp only at hS')
                  go_simp
                  with_reducible rfl
                simp only [Act.put, List.setIfInBounds_toArray, List.set_cons_zero, List.set_cons_succ]
                refine wpAnyG_take (i := 9) (d := some 84) (fuel := 15) (listed' := #[true, true, true, true, true, true, true, true, true, true, false, false, false, false, false, false, false, false, false, false, false, false, false, false, false]) (v := ?vv9) rfl rfl rfl rfl (by kernel_rfl) (fun _ _ _ h => h) hHeld (Or.inl ⟨by rfl, fun w' hS' => Or.inl ?yv9⟩) ?yr9
                case yv9 =>
                  (try dsimp only at hS')
                  go_simp
                  with_reducible rfl
                simp only [Act.put, List.setIfInBounds_toArray, List.set_cons_zero, List.set_cons_succ]
                refine wpAnyG_take (i := 10) (d := some 85) (fuel := 14) (listed' := #[true, true, true, true, true, true, true, true, true, true, true, false, false, false, false, false, false, false, false, false, false, false, false, false, false]) (v := (.int .u64 (fN (l.drop a) 16 8))) rfl rfl rfl rfl (by kernel_rfl) (fun _ _ _ h => h) hHeld (Or.inl ⟨by rfl, fun w' hS' => Or.inr ⟨?ff10, ?aa10, ?ye10, ?yc10⟩⟩) ?yr10
                case ye10 =>
                  go_simp
                  constructor <;> with_reducible rfl
                case yc10 => exact (rnum_sub hS' hrp.cons.cons hb2 hn26 (by rfl)).mono (fun e w1 h => ⟨h.1, h.2.symm⟩)
                simp only [Act.put, List.setIfInBounds_toArray, List.set_cons_zero, List.set_cons_succ]
                refine wpAnyG_take (i := 11) (d := some 86) (fuel := 13) (listed' := #[true, true, true, true, true, true, true, true, true, true, true, true, false, false, false, false, false, false, false, false, false, false, false, false, false]) (v := ?vv11) rfl rfl rfl rfl (by kernel_rfl) (fun _ _ _ h => h) hHeld (Or.inl ⟨by rfl, fun w' hS' => Or.inl ?yv11⟩) ?yr11
                case yv11 =>
                  (try dsimp only at hS')
                  go_simp
                  with_reducible rfl
                simp only [Act.put, List.setIfInBounds_toArray, List.set_cons_zero, List.set_cons_succ]
                refine wpAnyG_take (i := 12) (d := some 87) (fuel := 12) (listed' := #[true, true, true, true, true, true, true, true, true, true, true, true, true, false, false, false, false, false, false, false, false, false, false, false, false]) (v := ?vv12) rfl rfl rfl rfl (by kernel_rfl) (fun _ _ _ h => h) hHeld (Or.inl ⟨by rfl, fun w' hS' => Or.inl ?yv12⟩) ?yr12
                case yv12 =>
                  (try dsimp only at hS')
                  go_simp
                  with_reducible rfl
                simp only [Act.put, List.setIfInBounds_toArray, List.set_cons_zero, List.set_cons_succ]
                refine wpAnyG_take (i := 13) (d := some 88) (fuel := 11) (listed' := #[true, true, true, true, true, true, true, true, true, true, true, true, true, true, false, false, false, false, false, false, false, false, false, false, false]) (v := ?vv13) rfl rfl rfl rfl (by kernel_rfl) (fun _ _ _ h => h) hHeld (Or.inl ⟨by rfl, fun w' hS' => Or.inl ?yv13⟩) ?yr13
                case yv13 =>
                  (try dsimp only at hS')
                  have q3 := HBY.out hS' hrp.cons.cons
                  go_simp
                  with_reducible rfl
                simp only [Act.put, List.setIfInBounds_toArray, List.set_cons_zero, List.set_cons_succ]
                refine wpAnyG_take (i := 14) (d := some 89) (fuel := 10) (listed' := #[true, true, true, true, true, true, true, true, true, true, true, true, true, true, true, false, false, false, false, false, false, false, false, false, false]) (v := ?vv14) rfl rfl rfl rfl (by kernel_rfl) (fun _ _ _ h => h) hHeld (Or.inl ⟨by rfl, fun w' hS' => Or.inl ?yv14⟩) ?yr14
                case yv14 =>
                  (try dsimp only at hS')
                  go_simp
                  with_reducible rfl
                simp only [Act.put, List.setIfInBounds_toArray, List.set_cons_zero, List.set_cons_succ]
                refine wpAnyG_take (i := 15) (d := some 90) (fuel := 9) (listed' := #[true, true, true, true, true, true, true, true, true, true, true, true, true, true, true, true, false, false, false, false, false, false, false, false, false]) (v := ?vv15) rfl rfl rfl rfl (by kernel_rfl) (fun _ _ _ h => h) hHeld (Or.inl ⟨by rfl, fun w' hS' => Or.inl ?yv15⟩) ?yr15
                case yv15 =>
                  (try dsimp only at hS')
                  go_simp
                  with_reducible rfl
                simp only [Act.put, List.setIfInBounds_toArray, List.set_cons_zero, List.set_cons_succ]
                refine wpAnyG_take (i := 16) (d := some 91) (fuel := 8) (listed' := #[true, true, true, true, true, true, true, true, true, true, true, true, true, true, true, true, true, false, false, false, false, false, false, false, false]) (v := ?vv16) rfl rfl rfl rfl (by kernel_rfl) (fun _ _ _ h => h) hHeld (Or.inl ⟨by rfl, fun w' hS' => Or.inl ?yv16⟩) ?yr16
                case yv16 =>
                  (try dsimp only at hS')
                  go_simp
                  with_reducible rfl
                simp only [Act.put, List.setIfInBounds_toArray, List.set_cons_zero, List.set_cons_succ]
                refine wpAnyG_take (i := 17) (d := some 92) (fuel := 7) (listed' := #[true, true, true, true, true, true, true, true, true, true, true, true, true, true, true, true, true, true, false, false, false, false, false, false, false]) (v := ?vv17) rfl rfl rfl rfl (by kernel_rfl) (fun _ _ _ h => h) hHeld (Or.inl ⟨by rfl, fun w' hS' => Or.inl ?yv17⟩) ?yr17
                case yv17 =>
                  (try dsimp only at hS')
                  go_simp
                  with_reducible rfl
                simp only [Act.put, List.setIfInBounds_toArray, List.set_cons_zero, List.set_cons_succ]
                refine wpAnyG_take (i := 18) (d := some 93) (fuel := 6) (listed' := #[true, true, true, true, true, true, true, true, true, true, true, true, true, true, true, true, true, true, true, false, false, false, false, false, false]) (v := ?vv18) rfl rfl rfl rfl (by kernel_rfl) (fun _ _ _ h => h) hHeld (Or.inl ⟨by rfl, fun w' hS' => Or.inl ?yv18⟩) ?yr18
                case yv18 =>
                  (try dsimp only at hS')
                  go_simp
                  with_reducible rfl
                simp only [Act.put, List.setIfInBounds_toArray, List.set_cons_zero, List.set_cons_succ]
                refine wpAnyG_take (i := 19) (d := some 94) (fuel := 5) (listed' := #[true, true, true, true, true, true, true, true, true, true, true, true, true, true, true, true, true, true, true, true, false, false, false, false, false]) (v := ?vv19) rfl rfl rfl rfl (by kernel_rfl) (fun _ _ _ h => h) hHeld (Or.inl ⟨by rfl, fun w' hS' => Or.inl ?yv19⟩) ?yr19
                case yv19 =>
                  (try dsimp only at hS')
                  have q3 := HSTR.out hS' hrp.cons.cons
                  go_simp
                  with_reducible rfl
                simp only [Act.put, List.setIfInBounds_toArray, List.set_cons_zero, List.set_cons_succ]
                refine wpAnyG_take (i := 20) (d := some 95) (fuel := 4) (listed' := #[true, true, true, true, true, true, true, true, true, true, true, true, true, true, true, true, true, true, true, true, true, false, false, false, false]) (v := ?vv20) rfl rfl rfl rfl (by kernel_rfl) (fun _ _ _ h => h) hHeld (Or.inl ⟨by rfl, fun w' hS' => Or.inl ?yv20⟩) ?yr20
                case yv20 =>
                  (try dsimp only at hS')
                  go_simp
                  with_reducible rfl
                simp only [Act.put, List.setIfInBounds_toArray, List.set_cons_zero, List.set_cons_succ]
                have hv : ∃ v : Vol, v = ⟨fN (l.drop a) 0 8, nm, fN (l.drop a) 8 8, 0, x == 1, fN (l.drop a) 16 8⟩ := ⟨_, rfl⟩
                have HL := (HS1.drew.litB #[.int .u64 (fN (l.drop a) 0 8), .string nm, .int .u64 (fN (l.drop a) 8 8), .int .u64 0, .bool (x == 1), .int .u64 (fN (l.drop a) 16 8)] 48 6 1 rfl (by decide) (B := wr.heap.size) rfl).up1
                have h1c : ∀ u ∈ (#[.int .u64 (fN (l.drop a) 0 8), .string nm, .int .u64 (fN (l.drop a) 8 8), .int .u64 0, .bool (x == 1), .int .u64 (fN (l.drop a) 16 8)] : Array Value).toList, u.oneCell' = true := by
                  intro u hu
                  simp at hu
                  rcases hu with rfl | rfl | rfl | rfl | rfl | rfl <;> rfl
                have hb3 : k + 1 ≤ maxLen := by simp only [maxLen]; have := HN16.out; omega
                have hb4 : (k + 1) * 56 ≤ 140737488355328 := by have := HN16.out; omega
                refine wpAnyG_one (j := 21) (fuel := 3) (listed' := #[true, true, true, true, true, true, true, true, true, true, true, true, true, true, true, true, true, true, true, true, true, true, false, false, false]) rfl rfl rfl (by kernel_rfl) (fun K hK => ?_)
                go_simp
                refine hK.out _ _ (fun _ => HL.drop.drop) ?_
                clear hK K
                (try simp only [Act.put, List.setIfInBounds_toArray, List.set_cons_zero, List.set_cons_succ])
                refine wpAnyG_one (j := 22) (fuel := 2) (listed' := #[true, true, true, true, true, true, true, true, true, true, true, true, true, true, true, true, true, true, true, true, true, true, true, false, false]) rfl rfl rfl (by kernel_rfl) (fun K hK => ?_)
                refine step_append_sep (by rfl) (.tmp 76) (.tmp 96) 41 (by rfl) 48 i0 _ 6 56 Try.underlying41 hi0 hz0 hz1 hz2 rfl (by decide) (by rfl) HL (by rfl) HL.rd1 h1c hb3 hb4 rfl rfl ?_
                intro B3 c3 w3 HS3 hsz3
                refine hK.out _ _ (fun _ => HS3.drop.drop) ?_
                clear hK K
                (try simp only [Act.put, List.setIfInBounds_toArray, List.set_cons_zero, List.set_cons_succ])
                have HT := HS3.up2
                have g0 := HT.blk_at 3 rfl
                have g1 := HT.blk_frozen 3
                have HW := HT.blk_set 3 (.slice B3 (k + 1) c3)
                refine wpAnyG_one (j := 23) (fuel := 1) (listed' := #[true, true, true, true, true, true, true, true, true, true, true, true, true, true, true, true, true, true, true, true, true, true, true, true, false]) rfl rfl rfl (by kernel_rfl) (fun K hK => ?_)
                go_simp
                refine hK.out _ _ (fun _ => HS3.drop.drop) ?_
                clear hK K
                (try simp only [Act.put, List.setIfInBounds_toArray, List.set_cons_zero, List.set_cons_succ])
                refine wpAnyG_one (j := 24) (fuel := 0) (listed' := #[true, true, true, true, true, true, true, true, true, true, true, true, true, true, true, true, true, true, true, true, true, true, true, true, true]) rfl rfl rfl (by kernel_rfl) (fun K hK => ?_)
                go_simp
                refine hK.out _ _ (fun h => absurd rfl h) ?_
                clear hK K
                refine wpAnyG_done (by kernel_rfl) ?_ _
                have w27 : IntKind.i64.wrap ((a : Int) + 26) = a + 26 := w26
                have w28 : IntKind.i64.wrap ((a : Int) + 26 + y) = a + 26 + y := by rw [IntKind.wrap_i64]; omega
                have w29 : IntKind.i64.wrap ((k : Int) + 1) = k + 1 := by rw [IntKind.wrap_i64]; omega
                go_wp2
                go_roundw
                case rel =>
                  refine ⟨k + 1, c3, a + 26 + y, B3, us ++ [⟨fN (l.drop a) 0 8, nm, fN (l.drop a) 8 8, 0, x == 1, fN (l.drop a) 16 8⟩], by omega, by go_num, by go_num, by omega, by omega, ⟨?_⟩, ?_⟩
                  · rw [volsFrom, hvf.out]
                    simp only [volAt]
                    rw [if_neg (by have := HLN.out; omega), if_neg (by rw [← F24.out, HX.out]; exact h1), if_neg (by rw [← F25.out, HY.out]; exact qy), if_neg (by rw [← F25.out, HY.out, Int.toNat_natCast]; have := HLN.out; omega)]
                    rw [← F24.out, ← F25.out, HX.out, HY.out, Int.toNat_natCast, HNM.out, List.drop_drop, fN_drop, fN_drop, fN_drop]
                    rfl
                  · have hvr : vrow (us ++ [⟨fN (l.drop a) 0 8, nm, fN (l.drop a) 8 8, 0, x == 1, fN (l.drop a) 16 8⟩]) = vrow us ++ (#[.int .u64 (fN (l.drop a) 0 8), .string nm, .int .u64 (fN (l.drop a) 8 8), .int .u64 0, .bool (x == 1), .int .u64 (fN (l.drop a) 16 8)] : Array Value).toList := by simp [vrow, Vol.cells]
                    rw [hvr]
                    exact HW.sel 4 [1, 0, 3]
                case measure => simp [intOf]; omega
      · obtain rfl : N = k := by omega
        have hj : ¬ (N : Int) < N := by omega
        have t0 := HS1.up1.blk_at 0 rfl
        have t1 := HS1.up1.blk_at 1 rfl
        have t2 := HS1.up1.blk_at 2 rfl
        have t3 := HS1.up1.blk_at 3 rfl
        have HB := HS1.up2
        have c0 := HB.blk_at 0 rfl
        have c1 := HB.blk_at 1 rfl
        have c2' := HB.blk_at 2 rfl
        have c3 := HB.blk_at 3 rfl
        have f0 := HB.blk_frozen 0
        have f1 := HB.blk_frozen 1
        have f2 := HB.blk_frozen 2
        have f3 := HB.blk_frozen 3
        have HR := HB.blk_set4 (.int .u64 ck) (.int .u32 er) (.int .u64 idn) (.slice B N c')
        go_wp2
        (try simp only [Exit.inBlock, Exit.then])
        refine bodyPost_ret (results_row2 rfl _ _ _ _ _ _ _ rfl HR.blk_heap Try.underlying43 rfl info_rans) rfl ?_
        rw [HQ.out]
        refine ⟨fun E hE => ?_, fun us' a' hE => ?_⟩
        · rw [hvf.out] at hE
          cases hE
        · rw [hvf.out] at hE
          cases hE
          exact ⟨B, c', rfl, HR.sel 3 [1]⟩
end
end Go.Proofs.Ytankfmfenbhkgaa
