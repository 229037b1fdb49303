/-
  The walk of HelloParts (the bounded form).
-/
import Derived.Test.YtgepekailoopeaaPartE
import Derived.Deep.DeepCutAuto
import Derived.Deep.RegionHeldLaw
namespace Go.Proofs.Ytgepekailoopeaa
open Go.RowKit
set_option linter.unusedVariables false
set_option linter.unusedSimpArgs false
theorem parts_join {l : List Int} {a o q : Nat} (ha : a ≤ l.length) (ho : o ≤ a) : (l.take a).drop o ++ (l.drop a).take q = (l.take (a + q)).drop o := by
  have hlen : (l.take a).length = a := by rw [List.length_take]; omega
  rw [List.take_add, List.drop_append, hlen, show o - a = 0 by omega, List.drop_zero]
theorem Hos_take (os : List Ho) (k : Nat) : (Hos (os.take k)).length ≤ (Hos os).length := by
  have : Hos os = Hos (os.take k) ++ Hos (os.drop k) := by unfold Hos; rw [← List.flatMap_append, List.take_append_drop]
  rw [this, List.length_append]; omega
theorem Hrs_take (rs : List Hr) (k : Nat) : (Hrs (rs.take k)).length ≤ (Hrs rs).length := by
  have : Hrs rs = Hrs (rs.take k) ++ Hrs (rs.drop k) := by unfold Hrs; rw [← List.flatMap_append, List.take_append_drop]
  rw [this, List.length_append]; omega
theorem Pc_le {os : List Ho} {n : Nat} (h : n ≤ os.length + 1) : Pc os n ≤ 4 + (Hos os).length := by
  have := Hos_take os (n - 1)
  unfold Pc; split <;> omega
theorem Pc_all (os : List Ho) : Pc os (os.length + 1) = 4 + (Hos os).length := by
  unfold Pc
  rw [if_neg (by omega), Nat.add_sub_cancel, List.take_of_length_le (Nat.le_refl _)]
theorem Ps_le {rs : List Hr} {nn : Bool} {n : Nat} (h : n ≤ rs.length + 2) : Ps rs nn n ≤ 18 + (Hrs rs).length + expH nn := by
  have := Hrs_take rs (n - 1)
  unfold Ps
  split
  · omega
  · split <;> omega
set_option maxHeartbeats 40000000 in
set_option maxRecDepth 100000 in
theorem helloParts_walk (cs0 : Array Value) (A1 : Option Addr) (n1 c1 : Nat) (A2 : Option Addr) (n2 c2 : Nat) (x0 : Sh.V (.agg (.pair (.int .u32) (.pair (.slice (.agg (.pair (.int .u32) (.pair (.slice (.int .u8) 1) .unit))) 32) (.pair (.slice (.agg (.pair (.int .u32) (.pair (.int .u32) (.pair (.slice (.int .u8) 1) .unit)))) 32) (.pair (.int .u64) (.pair .bool .unit))))))) (x1 : Sh.V (.slice (.int .u8) 1)) (x2 : Sh.V (.slice (.int .u8) 1)) (w : World) (s0 : Sees w.heap (.agg (.pair (.int .u32) (.pair (.slice (.agg (.pair (.int .u32) (.pair (.slice (.int .u8) 1) .unit))) 32) (.pair (.slice (.agg (.pair (.int .u32) (.pair (.int .u32) (.pair (.slice (.int .u8) 1) .unit)))) 32) (.pair (.int .u64) (.pair .bool .unit)))))) cs0.toList x0) (s1 : Sees w.heap (.slice (.int .u8) 1) [.slice A1 n1 c1] x1) (s2 : Sees w.heap (.slice (.int .u8) 1) [.slice A2 n2 c2] x2) (hsum : bulk (.agg (.pair (.int .u32) (.pair (.slice (.agg (.pair (.int .u32) (.pair (.slice (.int .u8) 1) .unit))) 32) (.pair (.slice (.agg (.pair (.int .u32) (.pair (.int .u32) (.pair (.slice (.int .u8) 1) .unit)))) 32) (.pair (.int .u64) (.pair .bool .unit)))))) x0 + bulk (.slice (.int .u8) 1) x1 + bulk (.slice (.int .u8) 1) x2 ≤ 1048576) :
    Calls Try.prog 12 #[.agg cs0, .slice A1 n1 c1, .slice A2 n2 c2] w fun e w' => e = .returned (.bool true) ∧ Below w.heap.size w w' := by
  obtain ⟨i0, hi0, hz0, hz1, hz2⟩ := info_parts info_u8
  obtain ⟨fl, Ao, no, co, Ar, nr, cr, sz, nn, os, rs, rfl, ⟨f0, f1⟩, ⟨q0, q1⟩, o1, o2, o3, o4, o5, p1, p2, p3, p4, p5⟩ := sees_talk s0 (by omega)
  have HT : Aside (Tk w.heap fl Ao no co os Ar nr cr rs sz) := ⟨⟨f0, f1, q0, q1, o1, o2, o3, o4, o5, p1, p2, p3, p4, p5⟩⟩
  clear f0 f1 q0 q1 o1 o2 o3 o5 p1 p2 p3 p5 s0
  obtain ⟨hn1, hr1, _, _, hw1⟩ := sees_ints s1
  obtain ⟨hn2, hr2, _, _, hw2⟩ := sees_ints s2
  have b1 : bulk (.slice (.int .u8) 1) x1 = List.length x1 + 1 := by show (List.map (bulk (.int .u8)) x1).sum + 1 = _; rw [bulk_ints]
  have b2 : bulk (.slice (.int .u8) 1) x2 = List.length x2 + 1 := by show (List.map (bulk (.int .u8)) x2).sum + 1 = _; rw [bulk_ints]
  have hn1' : n1 ≤ 1048576 := by omega
  have hn2' : n2 ≤ 1048576 := by omega
  obtain ⟨ps, hps⟩ : ∃ ps : List Int, ps = x1 := ⟨_, rfl⟩
  obtain ⟨bh, hbh⟩ : ∃ bh : List Int, bh = x2 := ⟨_, rfl⟩
  have HRP : Aside (∀ L, Rb w (fun _ => False) L 1 A1 n1 (kv .u8 ps)) := ⟨fun L => by rw [hps]; exact Rb.came (L := L) hr1⟩
  have HRB : Aside (∀ L, Rb w (fun _ => False) L 1 A2 n2 (by8 bh)) := ⟨fun L => by rw [hbh]; exact Rb.came (L := L) hr2⟩
  have HPS : Aside (∀ x ∈ ps, 0 ≤ x ∧ x < 256) := ⟨by rw [hps]; exact kv_byt hw1⟩
  have HBB : Aside (Byt bh) := ⟨by rw [hbh]; exact kv_byt hw2⟩
  have HLB : Aside (bh.length = n2) := ⟨by rw [hbh]; omega⟩
  clear hn1 hn2 hr1 hr2 hw1 hw2 b1 b2 hsum s1 s2 hps hbh
  obtain ⟨f16, hf16⟩ : ∃ f16, f16 = fl % 65536 := ⟨_, rfl⟩
  have HF := hid hf16
  clear hf16
  have HS0 := (Sep.start w).alloc #[.int .u32 fl, .slice Ao no co, .slice Ar nr cr, .int .u64 sz, .bool nn] 122
  go_enter Try.func12, Try.ntmps12
  go_wp2_with fail
  go_loopw [7] (fun s wr => ∃ k : Nat, k ≤ 2 ∧ s = .int .i64 k ∧ Sep w wr (fun _ => False) (blk w.heap.size 122 #[.int .u32 fl, .slice Ao no co, .slice Ar nr cr, .int .u64 sz, .bool nn] :: [])) (fun s _ => 2 - (intOf s).toNat)
  case atStart => exact ⟨0, by omega, rfl, HS0⟩
  case round =>
    obtain ⟨k, hk, rfl, HSo⟩ := hrel
    clear HS0
    rcases (show k = 0 ∨ k = 1 ∨ k = 2 by omega) with rfl | rfl | rfl
    ·
      have t0 := HSo.blk_at 0 rfl
      have t1 := HSo.blk_at 1 rfl
      have t2 := HSo.blk_at 2 rfl
      have t3 := HSo.blk_at 3 rfl
      have t4 := HSo.blk_at 4 rfl
      have hCALL := client_calls (nn := nn) HSo HT.out
      obtain ⟨nA, hnA⟩ : ∃ nA, nA = 4 + (Hos os).length := ⟨_, rfl⟩
      obtain ⟨l0, hl0⟩ : ∃ l0, l0 = cliL fl os := ⟨_, rfl⟩
      obtain ⟨want, hwant⟩ : ∃ want, want = no + 1 := ⟨_, rfl⟩
      obtain ⟨PF, hPF⟩ : ∃ PF : Nat → Nat, PF = Pc os := ⟨_, rfl⟩
      obtain ⟨TF, hTF⟩ : ∃ TF : Nat → Nat → List Int, TF = Tc fl os bh := ⟨_, rfl⟩
      have hll : l0.length = nA := by rw [hl0, hnA]; simp [cliL, be_len]
      have hlb : bh.length = n2 := HLB.out
      have hnAb : nA ≤ 9000000 := by rw [hnA]; have := Hos_len os; have := HT.out.obs; omega
      have hTFd : ∀ a q, TF a q = ((l0 ++ bh).take a).drop (PF q) := by intro a q; rw [hTF, hPF, hl0]; rfl
      have hP0 : PF 0 = 0 := by rw [hPF]; rfl
      have hPle : ∀ q, q ≤ want → PF q ≤ nA := by intro q hq; rw [hPF, hnA]; exact Pc_le (by rw [HT.out.ol]; omega)
      have hPall : PF want = nA := by rw [hPF, hnA]; rw [hwant, ← HT.out.ol]; exact Pc_all os
      have hHEAR : Aside (∀ {W : World} {L : List Asr} {g a q : Nat}, Sep w W (fun _ => False) (Go.Proofs.Ytgepekailoopeaa.tape g (TF a q) :: L) → q < want → PF q ≤ a → a ≤ nA + n2 → Calls Try.prog 61 #[.agg #[.int .u32 fl, .slice Ao no co, .slice Ar nr cr, .int .u64 sz, .bool nn], .pointer (some ⟨g, 0, none⟩), .int .i64 q] W fun e w' => ∃ n' : Nat, q ≤ n' ∧ n' ≤ want ∧ PF n' ≤ a ∧ (n' < want → a < PF (n' + 1)) ∧ e = .returned (.int .i64 n') ∧ Sep w w' (fun _ => False) (Go.Proofs.Ytgepekailoopeaa.tape g (TF a n') :: L)) := ⟨by
        intro W L g a q H h1 h2 h3
        have hlen : (cliL fl os ++ bh).length = nA + n2 := by show ((cliL fl os) ++ bh).length = _; rw [← hl0, List.length_append, hll, hlb]
        rw [hTF] at H
        rw [hPF] at h2
        rw [hwant] at h1
        refine (hears_calls H HT.out HBB.out (by omega) h2 (by omega) (by omega)).mono ?_
        rintro e w' ⟨n', g1, g2, g3, g4, rfl, g5⟩
        exact ⟨n', g1, by omega, by rw [hPF]; exact g3, fun h => by rw [hPF]; exact g4 (by omega), rfl, by rw [hTF]; exact g5⟩⟩
      have hWI : (want : Int) = (no + 1 : Nat) := by rw [hwant]
      have hJOIN : Aside (∀ a t q, a ≤ t → t ≤ nA + n2 → PF q ≤ a → TF a q ++ ((l0 ++ bh).drop a).take (t - a) = TF t q) := ⟨by
        intro a t q h1 h2 h3
        rw [hTFd, hTFd]
        have h := parts_join (l := l0 ++ bh) (a := a) (o := PF q) (q := t - a) (by rw [List.length_append, hll, hlb]; omega) h3
        rwa [show a + (t - a) = t by omega] at h⟩
      have hTLEN : Aside (∀ a q, (TF a q).length ≤ a) := ⟨fun a q => by rw [hTFd, List.length_drop, List.length_take]; omega⟩
      have hEND : Aside (TF (nA + n2) want = bh) := ⟨by rw [hTFd, hPall, List.take_of_length_le (by rw [List.length_append, hll, hlb]; exact Nat.le_refl _), List.drop_left' hll]⟩
      have hDROP : Aside ((l0 ++ bh).drop nA = bh) := ⟨List.drop_left' hll⟩
      rw [← hnA, ← hl0] at hCALL
      have HCALL := hid hCALL
      have HPLE := hid hPle
      clear hCALL hPle hTFd hPF hTF hl0 hnA hPall hwant
      have hb1 : nA + n2 ≤ maxLen := by simp only [maxLen]; omega
      have hb2 : (nA + n2) * 1 ≤ 140737488355328 := by omega
      go_wp2_with fail
      refine HCALL.out.mono ?_
      rintro e w1 ⟨B1, c1, rfl, HS1⟩
      clear t0 t1 t2 t3 t4 HCALL HSo
      have t1 := HS1.up1.blk_at 1 rfl
      have hw0 : IntKind.i64.wrap (1 + (no : Int)) = want := by rw [IntKind.wrap_i64, hWI]; omega
      clear hWI
      go_wp2_with (at_builtin; go_loud (refine wpList_append_sep rfl (.tmp 38) (.tmp 39) 23 rfl 5 i0 _ 1 1 Try.underlying23 hi0 hz0 hz1 hz2 rfl (by decide) rfl HS1 rfl ((HRB.out _).read HS1) (kv_one _ _) hb1 hb2 rfl (by8_append _ _) ?_); intro B bc w2 HS2 hsz2)
      refine (new_calls HS2).mono ?_
      rintro e w3 ⟨g, rfl, HS3⟩
      clear HS1 hsz2 t1 hw0
      have hle := own_le HS3.up1
      go_wp2
      generalize l0 ++ bh = BL at *
      go_loopw [12, 13, 14] (fun n' a i wr => ∃ (j at_ q : Nat), i = .int .i64 j ∧ a = .int .i64 at_ ∧ n' = .int .i64 q ∧ at_ ≤ nA + n2 ∧ q ≤ want ∧ PF q ≤ at_ ∧ j ≤ n1 + 1 ∧ (n1 < j → at_ = nA + n2) ∧ (0 < j → q < want → at_ < PF (q + 1)) ∧
        Sep w wr (fun _ => False) (Go.Proofs.Ytgepekailoopeaa.tape g (TF at_ q) :: own 5 1 B (nA + n2) bc (by8 BL) :: blk w.heap.size 122 #[.int .u32 fl, .slice Ao no co, .slice Ar nr cr, .int .u64 sz, .bool nn] :: [])) (fun _ _ i _ => n1 + 1 - (intOf i).toNat)
      case atStart => exact ⟨0, 0, 0, rfl, rfl, rfl, by omega, by omega, by omega, by omega, by omega, by omega, by
        have e : TF 0 0 = [] := List.eq_nil_of_length_eq_zero (by have := hTLEN.out 0 0; omega)
        rw [e]; exact HS3⟩
      case round =>
        obtain ⟨j, at_, q, rfl, rfl, rfl, ha, hq, hc, hj, hfin, hnx, HS4⟩ := hrel
        clear HS3 HS2
        by_cases hjn : j ≤ n1
        · clear hfin hnx
          have hjn' : (j : Int) ≤ n1 := by omega
          go_upto_if 53 with (fail)
          go_cut [15] (fun v wx => ∃ t2 : Nat, at_ ≤ t2 ∧ t2 ≤ nA + n2 ∧ (n1 ≤ j → t2 = nA + n2) ∧ v = .int .i64 t2 ∧ wx = wr)
          case first =>
            by_cases hp : j < n1
            · obtain ⟨ad1, y1, rfl, _, hm1, hcell1⟩ := (HRP.out _).elemn HS4 hp
              obtain ⟨hx1, hx1'⟩ := HPS.out y1 hm1
              clear hm1
              go_wp2
              all_goals
                go_meet
                case rel =>
                  first
                  | exact ⟨at_ + y1.toNat, by omega, by omega, by omega, by congr 1; omega, rfl⟩
                  | exact ⟨nA + n2, by omega, by omega, by omega, by first | rfl | (congr 1; omega), rfl⟩
            · go_wp2
              go_meet
              case rel => exact ⟨nA + n2, by omega, by omega, by omega, by first | rfl | (congr 1; omega), rfl⟩
          case rest =>
            obtain ⟨t2, ht1, ht2, ht3, rfl, rfl⟩ := hcut
            have HC := (Rb.i0 (w0 := w) (O := fun _ => False) (L := blk w.heap.size 122 #[.int .u32 fl, .slice Ao no co, .slice Ar nr cr, .int .u64 sz, .bool nn] :: []) (e := 5) (size := 1) (A := B) (n := nA + n2) (k := bc) (xs := by8 BL)).kcut (j := at_) (m := t2) (cap := bc) ht1 ht2 hle
            have HP' : Aside (∀ A' c', Rb w (fun _ => False) (own 5 1 B (nA + n2) bc (by8 BL) :: blk w.heap.size 122 #[.int .u32 fl, .slice Ao no co, .slice Ar nr cr, .int .u64 sz, .bool nn] :: []) 1 A' (t2 - at_) (by8 ((BL.drop at_).take (t2 - at_))) →
                Calls Try.prog 60 #[.pointer (some ⟨g, 0, none⟩), .slice A' (t2 - at_) c'] wc fun e w' => e = .returned (.tuple #[]) ∧ Sep w w' (fun _ => False) (Go.Proofs.Ytgepekailoopeaa.tape g (TF t2 q) :: own 5 1 B (nA + n2) bc (by8 BL) :: blk w.heap.size 122 #[.int .u32 fl, .slice Ao no co, .slice Ar nr cr, .int .u64 sz, .bool nn] :: [])) := ⟨by
              intro A' c' hr'
              rw [← hJOIN.out at_ t2 q ht1 ht2 hc]
              exact push_calls HS4 hr' (by have := hTLEN.out at_ q; omega)⟩
            have HCC := hid HC
            have k1 : (0 : Int) ≤ at_ := by omega
            have k2 : (at_ : Int) ≤ t2 := by omega
            have k3 : (t2 : Int) ≤ bc := by omega
            clear HC HS4
            go_upto_region 19 with (fail)
            go_cut [68] (fun _ wx => Sep w wx (fun _ => False) (Go.Proofs.Ytgepekailoopeaa.tape g (TF t2 q) :: own 5 1 B (nA + n2) bc (by8 BL) :: blk w.heap.size 122 #[.int .u32 fl, .slice Ao no co, .slice Ar nr cr, .int .u64 sz, .bool nn] :: []))
            case first =>
              rcases (show ¬ bc = at_ ∨ bc = at_ by omega) with hca | rfl
              all_goals
                have HC' := hid HCC.out
                first | rw [if_neg hca] at HC' | rw [if_pos rfl] at HC'
                clear HCC
              all_goals
                go_wp2_with fail
                refine (HP'.out _ _ HC'.out).mono ?_
                rintro e w4 ⟨rfl, HS5⟩
                clear HP' HC' k1 k2 k3
                go_wp2
                go_meet
                case rel => exact HS5
            case rest =>
              have HS5 := hcut
              clear hcut HP' HCC k1 k2 k3
              by_cases hqw : q = want
              · have hqw' : ((q : Int) == want) = true := by simp; omega
                go_wp2
                go_roundw
                case rel => exact ⟨j + 1, t2, q, by go_num, rfl, rfl, ht2, hq, by omega, by omega, fun h => ht3 (by omega), fun _ h => absurd hqw (by omega), HS5⟩
                case measure => simp [intOf]; omega
              · have hqw' : ((q : Int) == want) = false := by simp; omega
                have hHR := hHEAR.out HS5 (by omega) (by omega : PF q ≤ t2) ht2
                have HHR := hid hHR
                have t0 := HS5.up2.blk_at 0 rfl
                have t1 := HS5.up2.blk_at 1 rfl
                have t2' := HS5.up2.blk_at 2 rfl
                have t3 := HS5.up2.blk_at 3 rfl
                have t4 := HS5.up2.blk_at 4 rfl
                clear hHR hqw
                go_wp2_with fail
                refine HHR.out.mono ?_
                rintro e w5 ⟨q', r1, r2, r3, r4, rfl, HS6⟩
                have r5 : ¬ (q' : Int) < 0 := by omega
                clear t0 t1 t2' t3 t4 HS5 HHR
                go_wp2
                go_roundw
                case rel => exact ⟨j + 1, t2, q', by go_num, rfl, rfl, ht2, r2, r3, by omega, fun h => ht3 (by omega), fun _ h => r4 h, HS6⟩
                case measure => simp [intOf]; omega
        · have h1 := hfin (by omega)
          have h2 : q = want := by
            by_cases h : q = want
            · exact h
            · have := hnx (by omega) (by omega)
              have := HPLE.out (q + 1) (by omega)
              omega
          subst h1
          subst h2
          have hjn' : ¬ (j : Int) ≤ n1 := by omega
          rw [hEND.out] at HS4
          clear hfin hnx
          go_wp2_with fail
          refine (len_calls HS4).mono ?_
          rintro e w4 ⟨rfl, rfl⟩
          rw [hlb]
          go_wp2_with fail
          have hall := askL_all false bh
          rw [hlb] at hall
          refine (peek_any (m := n2) HS4 (by omega)).mono ?_
          rintro e w5 ⟨R, rc, rfl, HS5⟩
          rw [hall.1]
          rw [hall.2] at HS5 ⊢
          rw [hlb] at HS5 ⊢
          have hq2 := (Rb.i0 (w0 := w) (O := fun _ => False) (L := blk w.heap.size 122 #[.int .u32 fl, .slice Ao no co, .slice Ar nr cr, .int .u64 sz, .bool nn] :: []) (e := 5) (size := 1) (A := B) (n := nA + n2) (k := bc) (xs := by8 BL)).kcut (j := nA) (m := nA + n2) (cap := bc) (by omega) (Nat.le_refl _) hle
          rw [hDROP.out, Nat.add_sub_cancel_left, List.take_of_length_le (by omega)] at hq2
          have HQ2 := hid hq2
          clear hq2 hall
          have hs1 := fun q => run_str (P := Try.prog) (c := rc) (Rb.i0.read (HS5.drewN q)) 23 9 5 Try.underlying23 Try.underlying5 Try.underlying9
          have hs2 := fun q => run_str (P := Try.prog) (c := bc - nA) (HQ2.out.cons.cons.read (HS5.drewN q)) 23 9 5 Try.underlying23 Try.underlying5 Try.underlying9
          generalize strOfNums bh = st at hs1 hs2
          have k1 : (nA : Int) ≤ bc := by omega
          have k2 : (0 : Int) ≤ nA := by omega
          have k3 : nA + n2 - nA = n2 := by omega
          have t4 := HS5.up3.blk_at 4 rfl
          rcases (show ¬ bc = nA ∨ bc = nA by omega) with hca | hca
          · rw [if_neg hca] at hs2
            go_upto_region 28 with (fail)
            go_quiet (fail)
            clear hs1 hs2
            go_wp2
            go_roundw
            case rel => exact ⟨1, by omega, by go_num, (HS5.drewN nq).sel 4 [3]⟩
            case measure => simp [intOf]
          · rw [if_pos hca] at hs2
            have hnb0 : n2 = 0 := by omega
            subst hnb0
            subst hca
            simp only [Nat.sub_self, Nat.add_zero] at hs1 hs2 k3
            clear k3
            go_upto_region 28 with (fail)
            go_quiet (fail)
            clear hs1 hs2
            go_wp2
            go_roundw
            case rel => exact ⟨1, by omega, by go_num, (HS5.drewN nq).sel 4 [3]⟩
            case measure => simp [intOf]
    ·
      have t0 := HSo.blk_at 0 rfl
      have t1 := HSo.blk_at 1 rfl
      have t2 := HSo.blk_at 2 rfl
      have t3 := HSo.blk_at 3 rfl
      have t4 := HSo.blk_at 4 rfl
      have HC0 := hid (client_calls (nn := nn) HSo HT.out)
      have hw1 : IntKind.i64.wrap (1 + (no : Int)) = 1 + no := by rw [IntKind.wrap_i64]; omega
      go_wp2_with fail
      refine HC0.out.mono ?_
      rintro e wq ⟨B0, c0, rfl, HSq⟩
      clear t0 t1 t2 t3 t4 HC0 HSo
      have HSo := HSq.drop
      clear HSq
      have t0 := HSo.blk_at 0 rfl
      have t1 := HSo.blk_at 1 rfl
      have t2 := HSo.blk_at 2 rfl
      have t3 := HSo.blk_at 3 rfl
      have t4 := HSo.blk_at 4 rfl
      have hCALL := server_calls (nn := nn) HSo HT.out HF.out
      obtain ⟨nA, hnA⟩ : ∃ nA, nA = 18 + (Hrs rs).length + expH nn := ⟨_, rfl⟩
      obtain ⟨l0, hl0⟩ : ∃ l0, l0 = srvL f16 rs ++ expL sz f16 nn := ⟨_, rfl⟩
      obtain ⟨want, hwant⟩ : ∃ want, want = nr + 2 := ⟨_, rfl⟩
      obtain ⟨PF, hPF⟩ : ∃ PF : Nat → Nat, PF = Ps rs nn := ⟨_, rfl⟩
      obtain ⟨TF, hTF⟩ : ∃ TF : Nat → Nat → List Int, TF = Ts f16 sz rs nn bh := ⟨_, rfl⟩
      have hll : l0.length = nA := by rw [hl0, hnA]; simp [srvL, expL_len, greetL_len]; omega
      have hlb : bh.length = n2 := HLB.out
      have hnAb : nA ≤ 9000000 := by rw [hnA]; have := Hrs_len rs; have := HT.out.rbs; have : expH nn ≤ 134 := (by cases nn <;> decide); omega
      have hTFd : ∀ a q, TF a q = ((l0 ++ bh).take a).drop (PF q) := by intro a q; rw [hTF, hPF, hl0]; rfl
      have hP0 : PF 0 = 0 := by rw [hPF]; rfl
      have hPle : ∀ q, q ≤ want → PF q ≤ nA := by intro q hq; rw [hPF, hnA]; exact Ps_le (by rw [HT.out.rl]; omega)
      have hPall : PF want = nA := by rw [hPF, hnA]; rw [hwant, ← HT.out.rl]; exact Ps_all rs nn
      have hHEAR : Aside (∀ {W : World} {L : List Asr} {g a q : Nat}, Sep w W (fun _ => False) (Go.Proofs.Ytgepekailoopeaa.tape g (TF a q) :: L) → q < want → PF q ≤ a → a ≤ nA + n2 → Calls Try.prog 62 #[.agg #[.int .u32 fl, .slice Ao no co, .slice Ar nr cr, .int .u64 sz, .bool nn], .pointer (some ⟨g, 0, none⟩), .int .i64 q] W fun e w' => ∃ n' : Nat, q ≤ n' ∧ n' ≤ want ∧ PF n' ≤ a ∧ (n' < want → a < PF (n' + 1)) ∧ e = .returned (.int .i64 n') ∧ Sep w w' (fun _ => False) (Go.Proofs.Ytgepekailoopeaa.tape g (TF a n') :: L)) := ⟨by
        intro W L g a q H h1 h2 h3
        have hlen : (sayL f16 sz rs nn bh).length = nA + n2 := by show ((srvL f16 rs ++ expL sz f16 nn) ++ bh).length = _; rw [← hl0, List.length_append, hll, hlb]
        rw [hTF] at H
        rw [hPF] at h2
        rw [hwant] at h1
        refine (sees_calls H HT.out HF.out HBB.out (by omega) h2 (by omega) (by omega)).mono ?_
        rintro e w' ⟨n', g1, g2, g3, g4, rfl, g5⟩
        exact ⟨n', g1, by omega, by rw [hPF]; exact g3, fun h => by rw [hPF]; exact g4 (by omega), rfl, by rw [hTF]; exact g5⟩⟩
      have hWI : (want : Int) = (nr + 2 : Nat) := by rw [hwant]
      have hJOIN : Aside (∀ a t q, a ≤ t → t ≤ nA + n2 → PF q ≤ a → TF a q ++ ((l0 ++ bh).drop a).take (t - a) = TF t q) := ⟨by
        intro a t q h1 h2 h3
        rw [hTFd, hTFd]
        have h := parts_join (l := l0 ++ bh) (a := a) (o := PF q) (q := t - a) (by rw [List.length_append, hll, hlb]; omega) h3
        rwa [show a + (t - a) = t by omega] at h⟩
      have hTLEN : Aside (∀ a q, (TF a q).length ≤ a) := ⟨fun a q => by rw [hTFd, List.length_drop, List.length_take]; omega⟩
      have hEND : Aside (TF (nA + n2) want = bh) := ⟨by rw [hTFd, hPall, List.take_of_length_le (by rw [List.length_append, hll, hlb]; exact Nat.le_refl _), List.drop_left' hll]⟩
      have hDROP : Aside ((l0 ++ bh).drop nA = bh) := ⟨List.drop_left' hll⟩
      rw [← hnA, ← hl0] at hCALL
      have HCALL := hid hCALL
      have HPLE := hid hPle
      clear hCALL hPle hTFd hPF hTF hl0 hnA hPall hwant
      have hb1 : nA + n2 ≤ maxLen := by simp only [maxLen]; omega
      have hb2 : (nA + n2) * 1 ≤ 140737488355328 := by omega
      go_wp2_with fail
      refine HCALL.out.mono ?_
      rintro e w1 ⟨B1, c1, rfl, HS1⟩
      clear t0 t1 t2 t3 t4 HCALL HSo
      have t2 := HS1.up1.blk_at 2 rfl
      have hw0 : IntKind.i64.wrap (2 + (nr : Int)) = want := by rw [IntKind.wrap_i64, hWI]; omega
      clear hWI
      go_wp2_with (at_builtin; go_loud (refine wpList_append_sep rfl (.tmp 38) (.tmp 39) 23 rfl 5 i0 _ 1 1 Try.underlying23 hi0 hz0 hz1 hz2 rfl (by decide) rfl HS1 rfl ((HRB.out _).read HS1) (kv_one _ _) hb1 hb2 rfl (by8_append _ _) ?_); intro B bc w2 HS2 hsz2)
      refine (new_calls HS2).mono ?_
      rintro e w3 ⟨g, rfl, HS3⟩
      clear HS1 hsz2 t2 hw0
      have hle := own_le HS3.up1
      go_wp2
      generalize l0 ++ bh = BL at *
      go_loopw [12, 13, 14] (fun n' a i wr => ∃ (j at_ q : Nat), i = .int .i64 j ∧ a = .int .i64 at_ ∧ n' = .int .i64 q ∧ at_ ≤ nA + n2 ∧ q ≤ want ∧ PF q ≤ at_ ∧ j ≤ n1 + 1 ∧ (n1 < j → at_ = nA + n2) ∧ (0 < j → q < want → at_ < PF (q + 1)) ∧
        Sep w wr (fun _ => False) (Go.Proofs.Ytgepekailoopeaa.tape g (TF at_ q) :: own 5 1 B (nA + n2) bc (by8 BL) :: blk w.heap.size 122 #[.int .u32 fl, .slice Ao no co, .slice Ar nr cr, .int .u64 sz, .bool nn] :: [])) (fun _ _ i _ => n1 + 1 - (intOf i).toNat)
      case atStart => exact ⟨0, 0, 0, rfl, rfl, rfl, by omega, by omega, by omega, by omega, by omega, by omega, by
        have e : TF 0 0 = [] := List.eq_nil_of_length_eq_zero (by have := hTLEN.out 0 0; omega)
        rw [e]; exact HS3⟩
      case round =>
        obtain ⟨j, at_, q, rfl, rfl, rfl, ha, hq, hc, hj, hfin, hnx, HS4⟩ := hrel
        clear HS3 HS2
        by_cases hjn : j ≤ n1
        · clear hfin hnx
          have hjn' : (j : Int) ≤ n1 := by omega
          go_upto_if 53 with (fail)
          go_cut [15] (fun v wx => ∃ t2 : Nat, at_ ≤ t2 ∧ t2 ≤ nA + n2 ∧ (n1 ≤ j → t2 = nA + n2) ∧ v = .int .i64 t2 ∧ wx = wr)
          case first =>
            by_cases hp : j < n1
            · obtain ⟨ad1, y1, rfl, _, hm1, hcell1⟩ := (HRP.out _).elemn HS4 hp
              obtain ⟨hx1, hx1'⟩ := HPS.out y1 hm1
              clear hm1
              go_wp2
              all_goals
                go_meet
                case rel =>
                  first
                  | exact ⟨at_ + y1.toNat, by omega, by omega, by omega, by congr 1; omega, rfl⟩
                  | exact ⟨nA + n2, by omega, by omega, by omega, by first | rfl | (congr 1; omega), rfl⟩
            · go_wp2
              go_meet
              case rel => exact ⟨nA + n2, by omega, by omega, by omega, by first | rfl | (congr 1; omega), rfl⟩
          case rest =>
            obtain ⟨t2, ht1, ht2, ht3, rfl, rfl⟩ := hcut
            have HC := (Rb.i0 (w0 := w) (O := fun _ => False) (L := blk w.heap.size 122 #[.int .u32 fl, .slice Ao no co, .slice Ar nr cr, .int .u64 sz, .bool nn] :: []) (e := 5) (size := 1) (A := B) (n := nA + n2) (k := bc) (xs := by8 BL)).kcut (j := at_) (m := t2) (cap := bc) ht1 ht2 hle
            have HP' : Aside (∀ A' c', Rb w (fun _ => False) (own 5 1 B (nA + n2) bc (by8 BL) :: blk w.heap.size 122 #[.int .u32 fl, .slice Ao no co, .slice Ar nr cr, .int .u64 sz, .bool nn] :: []) 1 A' (t2 - at_) (by8 ((BL.drop at_).take (t2 - at_))) →
                Calls Try.prog 60 #[.pointer (some ⟨g, 0, none⟩), .slice A' (t2 - at_) c'] wc fun e w' => e = .returned (.tuple #[]) ∧ Sep w w' (fun _ => False) (Go.Proofs.Ytgepekailoopeaa.tape g (TF t2 q) :: own 5 1 B (nA + n2) bc (by8 BL) :: blk w.heap.size 122 #[.int .u32 fl, .slice Ao no co, .slice Ar nr cr, .int .u64 sz, .bool nn] :: [])) := ⟨by
              intro A' c' hr'
              rw [← hJOIN.out at_ t2 q ht1 ht2 hc]
              exact push_calls HS4 hr' (by have := hTLEN.out at_ q; omega)⟩
            have HCC := hid HC
            have k1 : (0 : Int) ≤ at_ := by omega
            have k2 : (at_ : Int) ≤ t2 := by omega
            have k3 : (t2 : Int) ≤ bc := by omega
            clear HC HS4
            go_upto_region 19 with (fail)
            go_cut [68] (fun _ wx => Sep w wx (fun _ => False) (Go.Proofs.Ytgepekailoopeaa.tape g (TF t2 q) :: own 5 1 B (nA + n2) bc (by8 BL) :: blk w.heap.size 122 #[.int .u32 fl, .slice Ao no co, .slice Ar nr cr, .int .u64 sz, .bool nn] :: []))
            case first =>
              rcases (show ¬ bc = at_ ∨ bc = at_ by omega) with hca | rfl
              all_goals
                have HC' := hid HCC.out
                first | rw [if_neg hca] at HC' | rw [if_pos rfl] at HC'
                clear HCC
              all_goals
                go_wp2_with fail
                refine (HP'.out _ _ HC'.out).mono ?_
                rintro e w4 ⟨rfl, HS5⟩
                clear HP' HC' k1 k2 k3
                go_wp2
                go_meet
                case rel => exact HS5
            case rest =>
              have HS5 := hcut
              clear hcut HP' HCC k1 k2 k3
              by_cases hqw : q = want
              · have hqw' : ((q : Int) == want) = true := by simp; omega
                go_wp2
                go_roundw
                case rel => exact ⟨j + 1, t2, q, by go_num, rfl, rfl, ht2, hq, by omega, by omega, fun h => ht3 (by omega), fun _ h => absurd hqw (by omega), HS5⟩
                case measure => simp [intOf]; omega
              · have hqw' : ((q : Int) == want) = false := by simp; omega
                have hHR := hHEAR.out HS5 (by omega) (by omega : PF q ≤ t2) ht2
                have HHR := hid hHR
                have t0 := HS5.up2.blk_at 0 rfl
                have t1 := HS5.up2.blk_at 1 rfl
                have t2' := HS5.up2.blk_at 2 rfl
                have t3 := HS5.up2.blk_at 3 rfl
                have t4 := HS5.up2.blk_at 4 rfl
                clear hHR hqw
                go_wp2_with fail
                refine HHR.out.mono ?_
                rintro e w5 ⟨q', r1, r2, r3, r4, rfl, HS6⟩
                have r5 : ¬ (q' : Int) < 0 := by omega
                clear t0 t1 t2' t3 t4 HS5 HHR
                go_wp2
                go_roundw
                case rel => exact ⟨j + 1, t2, q', by go_num, rfl, rfl, ht2, r2, r3, by omega, fun h => ht3 (by omega), fun _ h => r4 h, HS6⟩
                case measure => simp [intOf]; omega
        · have h1 := hfin (by omega)
          have h2 : q = want := by
            by_cases h : q = want
            · exact h
            · have := hnx (by omega) (by omega)
              have := HPLE.out (q + 1) (by omega)
              omega
          subst h1
          subst h2
          have hjn' : ¬ (j : Int) ≤ n1 := by omega
          rw [hEND.out] at HS4
          clear hfin hnx
          go_wp2_with fail
          refine (len_calls HS4).mono ?_
          rintro e w4 ⟨rfl, rfl⟩
          rw [hlb]
          go_wp2_with fail
          have hall := askL_all false bh
          rw [hlb] at hall
          refine (peek_any (m := n2) HS4 (by omega)).mono ?_
          rintro e w5 ⟨R, rc, rfl, HS5⟩
          rw [hall.1]
          rw [hall.2] at HS5 ⊢
          rw [hlb] at HS5 ⊢
          have hq2 := (Rb.i0 (w0 := w) (O := fun _ => False) (L := blk w.heap.size 122 #[.int .u32 fl, .slice Ao no co, .slice Ar nr cr, .int .u64 sz, .bool nn] :: []) (e := 5) (size := 1) (A := B) (n := nA + n2) (k := bc) (xs := by8 BL)).kcut (j := nA) (m := nA + n2) (cap := bc) (by omega) (Nat.le_refl _) hle
          rw [hDROP.out, Nat.add_sub_cancel_left, List.take_of_length_le (by omega)] at hq2
          have HQ2 := hid hq2
          clear hq2 hall
          have hs1 := fun q => run_str (P := Try.prog) (c := rc) (Rb.i0.read (HS5.drewN q)) 23 9 5 Try.underlying23 Try.underlying5 Try.underlying9
          have hs2 := fun q => run_str (P := Try.prog) (c := bc - nA) (HQ2.out.cons.cons.read (HS5.drewN q)) 23 9 5 Try.underlying23 Try.underlying5 Try.underlying9
          generalize strOfNums bh = st at hs1 hs2
          have k1 : (nA : Int) ≤ bc := by omega
          have k2 : (0 : Int) ≤ nA := by omega
          have k3 : nA + n2 - nA = n2 := by omega
          have t4 := HS5.up3.blk_at 4 rfl
          rcases (show ¬ bc = nA ∨ bc = nA by omega) with hca | hca
          · rw [if_neg hca] at hs2
            go_upto_region 28 with (fail)
            go_quiet (fail)
            clear hs1 hs2
            go_wp2
            go_roundw
            case rel => exact ⟨2, by omega, by go_num, (HS5.drewN nq).sel 4 [3]⟩
            case measure => simp [intOf]
          · rw [if_pos hca] at hs2
            have hnb0 : n2 = 0 := by omega
            subst hnb0
            subst hca
            simp only [Nat.sub_self, Nat.add_zero] at hs1 hs2 k3
            clear k3
            go_upto_region 28 with (fail)
            go_quiet (fail)
            clear hs1 hs2
            go_wp2
            go_roundw
            case rel => exact ⟨2, by omega, by go_num, (HS5.drewN nq).sel 4 [3]⟩
            case measure => simp [intOf]
    · go_wp2_with fail
      refine (wakes_calls HSo).mono ?_
      rintro e w20 ⟨rfl, HS20⟩
      go_wp2
      go_ret
      exact ⟨rfl, HS20.below⟩
end Go.Proofs.Ytgepekailoopeaa
