/-
  The walk of HelloWishes.
-/
import Derived.Test.YtgepekailoopeaaLaw22
import Derived.Test.YtgepekailoopeaaSameW
import Derived.Test.YtgepekailoopeaaIsRaw
import Derived.Test.YtgepekailoopeaaSees22
import Derived.Test.YtgepekailoopeaaRefWrA
import Derived.Test.YtgepekailoopeaaRefRdB
namespace Go.Proofs.Ytgepekailoopeaa
open Go.RowKit
set_option linter.unusedVariables false
set_option linter.unusedSimpArgs false
section
variable {w0 : World} {O : Nat → Prop} {L : List Asr} {e : TypeId} {size : Nat} {A : Option Addr} {n c : Nat} {xs : List Value}
theorem Rb.roAt (k : Nat) (h : L[k]? = some (Go.Proofs.Ytgepekailoopeaa.ro size A n xs)) : Rb w0 O L size A n xs := .ro (List.mem_of_getElem? h)
theorem Rb.ownAt (k : Nat) (h : L[k]? = some (Go.Proofs.Ytgepekailoopeaa.own e size A n c xs)) : Rb w0 O L size A n xs := .own (List.mem_of_getElem? h)
end
set_option maxHeartbeats 8000000 in
set_option maxRecDepth 100000 in
theorem helloWishes_walk (cs0 : Array Value) (cs1 : Array Value) (x0 : Sh.V (.agg (.pair (.int .u32) (.pair .str (.pair (.slice (.int .u16) 2) .unit))))) (x1 : Sh.V (.agg (.pair (.int .u32) (.pair (.slice (.int .u8) 1) .unit)))) (w : World) (s0 : Sees w.heap (.agg (.pair (.int .u32) (.pair .str (.pair (.slice (.int .u16) 2) .unit)))) cs0.toList x0) (s1 : Sees w.heap (.agg (.pair (.int .u32) (.pair (.slice (.int .u8) 1) .unit))) cs1.toList x1) (y0 : Light (.agg (.pair (.int .u32) (.pair .str (.pair (.slice (.int .u16) 2) .unit)))) x0) (y1 : Light (.agg (.pair (.int .u32) (.pair (.slice (.int .u8) 1) .unit))) x1) :
    Calls Try.prog 7 #[.agg cs0, .agg cs1] w fun e w' => e = .returned (.bool true) ∧ Below w.heap.size w w' := by
  obtain ⟨op, nm, A0, c0, inf, rfl, ⟨o0, o1⟩, hnm, hr0, hc0, hb0, hd0⟩ := sees_wish s0 y0
  obtain ⟨rop, A1, c1, d, rfl, ⟨ro0, ro1⟩, hr1, hc1, hb1, hd1⟩ := sees_raw s1 y1
  have R0 := hid (fun L => Rb.came (L := L) hr0)
  have R1 := hid (fun L => Rb.came (L := L) hr1)
  obtain ⟨n, hn⟩ : ∃ m, m = inf.length := ⟨_, rfl⟩
  obtain ⟨m, hm⟩ : ∃ m, m = d.length := ⟨_, rfl⟩
  rw [← hn] at hc0 hd0 R0 ⊢
  rw [← hm] at hc1 hd1 R1 ⊢
  have P1 : ∀ {w' : World} {L' : List Asr} {A : Option Addr} {c : Nat}, Sep w w' (fun _ => False) L' → Rb w (fun _ => False) L' 1 A n (kv .u16 inf) → Calls Try.prog 44 #[.agg #[.int .u32 op, .string nm, .slice A n c]] w' (RoOut w (fun _ => False) (writeR op nm inf) L') := fun H q => hwrite_calls H q hb0 (by omega)
  have P2 : ∀ {w' : World} {L' : List Asr}, Sep w w' (fun _ => False) L' → Calls Try.prog 45 #[.agg #[.int .u32 op, .string nm, .slice A0 n c0]] w' (RoOut w (fun _ => False) (writeR op nm inf) L') := fun H => rwrite_calls H (R0.out _) hb0 (by omega)
  have P3 : ∀ {w' : World} {L' : List Asr}, Sep w w' (fun _ => False) L' → Calls Try.prog 46 #[.agg #[.int .u32 rop, .slice A1 m c1]] w' (WiOut w (fun _ => False) 71 (readW rop d) L') := fun H => read_calls H (R1.out _) hb1 (by omega)
  have P4 : ∀ {w' : World} {L' : List Asr}, Sep w w' (fun _ => False) L' → Calls Try.prog 47 #[.agg #[.int .u32 rop, .slice A1 m c1]] w' (WiOut w (fun _ => False) 71 (readW rop d) L') := fun H => rread_calls H (R1.out _) hb1 hc1 (by omega)
  have hwl : (readW rop d).inf.length ≤ 70368744177664 := by
    unfold readW
    split
    · split <;> exact Nat.zero_le _
    · split
      · split <;> exact Nat.zero_le _
      · split
        · unfold askW
          split
          · exact Nat.zero_le _
          · split
            · exact Nat.zero_le _
            · split
              · exact Nat.zero_le _
              · dsimp only
                rw [n2s_len]
                have hbd := fN_bd (l := d.drop (4 + (fN d 0 4).toNat)) ((show Byt d from hb1).drop _) 0 2
                simp only [show (256 : Int) ^ 2 = 65536 from rfl] at hbd
                omega
        · exact Nat.zero_le _
  generalize writeR op nm inf = R at P1 P2
  generalize readW rop d = W at P3 P4 hwl
  obtain ⟨rE, rop', rd⟩ := R
  obtain ⟨wE, wop, wnm, winf⟩ := W
  have HP1 := hid @P1
  have HP2 := hid @P2
  have HP3 := hid @P3
  have HP4 := hid @P4
  dsimp only at hwl
  have HWL := hid hwl
  clear P1 P2 P3 P4 s0 s1 y0 y1 hr0 hr1 hb0 hb1 hwl hn hm
  obtain ⟨i0, hi0, hz0, hz1, hz2⟩ := info_parts info_u16
  have HSa := ((Sep.start w).alloc #[.int .u32 op, .string nm, .slice A0 n c0] 55).allocB #[.int .u32 rop, .slice A1 m c1] 25 (B := w.heap.size + 1) (by simp)
  have HT := HSa.nil 71 1
  have h63 : 0 + n ≤ maxLen := by simp only [maxLen]; omega
  have h140 : (0 + n) * 2 ≤ 140737488355328 := by omega
  go_enter Try.func7, Try.ntmps7
  go_wp2_with (at_builtin; (refine wpList_append_sep rfl (.const (.slice none 0 0)) (.tmp 16) 53 rfl 71 i0 _ 1 2 Try.underlying53 hi0 hz0 hz1 hz2 rfl (by decide) rfl HT rfl ((R0.out _).read HT) (kv_one .u16 inf) h63 h140 (Nat.zero_add n) rfl ?_; intro A3 c3 w3 HS3 hsz3; have a0 := HS3.up2.blk_at 0 rfl; have a1 := HS3.up2.blk_at 1 rfl))
  refine (HP1.out HS3 Rb.i0).mono ?_
  rintro e w4 ⟨A4, c4, rfl, hc4, HS4⟩
  clear a0 a1
  have HS4a := HS4.alloc #[.int .u32 rop', .slice A4 rd.length c4] 31
  have a0 := HS4a.up4.blk_at 0 rfl
  have a1 := HS4a.up4.blk_at 1 rfl
  have a2 := HS4a.up4.blk_at 2 rfl
  go_wp2_with fail
  refine (HP2.out HS4a).mono ?_
  rintro e w5 ⟨A5, c5, rfl, hc5, HS5⟩
  clear a0 a1 a2
  have HS5a := HS5.alloc #[.int .u32 rop', .slice A5 rd.length c5] 25
  have b0 := HS5a.up5.blk_at 0 rfl
  have b1 := HS5a.up5.blk_at 1 rfl
  go_wp2_with fail
  refine (HP3.out HS5a).mono ?_
  rintro e w6 ⟨A6, c6, rfl, HS6⟩
  clear b0 b1
  have HS6a := HS6.alloc #[.int .u32 wop, .string wnm, .slice A6 winf.length c6] 66
  have b0 := (HS6a.sel 9 [7]).blk_at 0 rfl
  have b1 := (HS6a.sel 9 [7]).blk_at 1 rfl
  go_wp2_with fail
  refine (HP4.out HS6a).mono ?_
  rintro e w7 ⟨A7, c7, rfl, HS7⟩
  clear b0 b1
  have HS7a := HS7.alloc #[.int .u32 wop, .string wnm, .slice A7 winf.length c7] 55
  have HX : Sep w _ (fun _ => False) (own 71 1 A3 n c3 (kv .u16 inf) :: blk w.heap.size 55 #[.int .u32 op, .string nm, .slice A0 n c0] :: blk w7.heap.size 55 #[.int .u32 wop, .string wnm, .slice A7 winf.length c7] :: own 71 1 A7 winf.length c7 (kv .u16 winf) :: blk w6.heap.size 66 #[.int .u32 wop, .string wnm, .slice A6 winf.length c6] :: own 71 1 A6 winf.length c6 (kv .u16 winf) :: blk w5.heap.size 25 #[.int .u32 rop', .slice A5 rd.length c5] :: ro 1 A5 rd.length (by8 rd) :: blk w4.heap.size 31 #[.int .u32 rop', .slice A4 rd.length c4] :: ro 1 A4 rd.length (by8 rd) :: []) := HS7a.sel 11 [8, 10, 0, 1, 2, 3, 4, 5, 6, 7]
  clear HS7a HS7 HS6a HS6 HS5a HS5 HS4a HS4 HS3 HT HSa
  go_wp2_with fail
  generalize w7.alloc (Obj.cells #[.int .u32 wop, .string wnm, .slice A7 winf.length c7] 55) = w8 at *
  go_loopw [14] (fun i wr => ∃ k : Nat, k ≤ n ∧ i = .int .i64 k ∧ Sep w wr (fun _ => False) (own 71 1 A3 n c3 (kv .u16 inf) :: blk w.heap.size 55 #[.int .u32 op, .string nm, .slice A0 n c0] :: blk w7.heap.size 55 #[.int .u32 wop, .string wnm, .slice A7 winf.length c7] :: own 71 1 A7 winf.length c7 (kv .u16 winf) :: blk w6.heap.size 66 #[.int .u32 wop, .string wnm, .slice A6 winf.length c6] :: own 71 1 A6 winf.length c6 (kv .u16 winf) :: blk w5.heap.size 25 #[.int .u32 rop', .slice A5 rd.length c5] :: ro 1 A5 rd.length (by8 rd) :: blk w4.heap.size 31 #[.int .u32 rop', .slice A4 rd.length c4] :: ro 1 A4 rd.length (by8 rd) :: [])) (fun i _ => n - (intOf i).toNat)
  case atStart => exact ⟨0, Nat.zero_le _, rfl, HX⟩
  case round =>
    obtain ⟨k, hk, rfl, HSk⟩ := hrel
    clear HX
    by_cases hlt : k < n
    · obtain ⟨ad, y, rfl, hy, hm, hcell⟩ := (Rb.i0 (w0 := w) (O := fun _ => False)).elemn HSk (j := k) hlt
      obtain ⟨bd, y', rfl, hy', hm', hcell'⟩ := (R0.out _).elemn HSk (j := k) hlt
      obtain rfl : y = y' := by rw [hy] at hy'; injection hy'
      clear hy hy' hm hm'
      have a2 := HSk.up1.blk_at 2 rfl
      have hj : (k : Int) < n := by omega
      have j0 : (0 : Int) ≤ k := by omega
      go_upto_region 9 with (fail)
      go_quiet (fail)
      have HS9 := HSk.drewN nq
      clear HSk
      go_wp2
      go_roundw
      case rel => exact ⟨k + 1, by omega, by go_num, HS9⟩
      case measure => simp [intOf]; omega
    · obtain rfl : n = k := by omega
      have hj : ¬ (n : Int) < n := by omega
      have p0 := (HSk.sel 10 [8]).blk_at 0 rfl
      have p1 := (HSk.sel 10 [8]).blk_at 1 rfl
      have p2 := (HSk.sel 10 [6]).blk_at 0 rfl
      have p3 := (HSk.sel 10 [6]).blk_at 1 rfl
      go_wp2_with fail
      refine (israw_true (l := rd) HSk (Rb.roAt 9 rfl) (Rb.roAt 7 rfl)).mono ?_
      rintro e w9 ⟨rfl, HS9⟩
      clear HSk p0 p1 p2 p3
      have p0 := (HS9.sel 10 [4]).blk_at 0 rfl
      have p1 := (HS9.sel 10 [4]).blk_at 1 rfl
      have p2 := (HS9.sel 10 [4]).blk_at 2 rfl
      have p3 := (HS9.sel 10 [2]).blk_at 0 rfl
      have p4 := (HS9.sel 10 [2]).blk_at 1 rfl
      have p5 := (HS9.sel 10 [2]).blk_at 2 rfl
      go_wp2_with fail
      refine (iswish_true (l := winf) HS9 (Rb.ownAt 5 rfl) (Rb.ownAt 3 rfl) HWL.out).mono ?_
      rintro e w10 ⟨rfl, HS10⟩
      clear HS9 p0 p1 p2 p3 p4 p5
      go_wp2_with fail
      refine (wakes_calls HS10).mono ?_
      rintro e w11 ⟨rfl, HS11⟩
      go_wp2
      go_ret
      exact ⟨rfl, HS11.below⟩
end Go.Proofs.Ytgepekailoopeaa
