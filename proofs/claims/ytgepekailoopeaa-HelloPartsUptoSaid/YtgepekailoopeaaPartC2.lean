/-
  Contract of Talk.client.
-/
import Derived.Test.YtgepekailoopeaaPartC
namespace Go.Proofs.Ytgepekailoopeaa
open Go.RowKit
set_option linter.unusedVariables false
set_option linter.unusedSimpArgs false
abbrev cliL (fl : Int) (os : List Ho) : List Int := be 4 fl ++ Hos os
section
variable {w0 w : World} {L : List Asr} {fl sz : Int} {Ao Ar : Option Addr} {no co nr cr : Nat} {os : List Ho} {rs : List Hr} {nn : Bool}
set_option maxHeartbeats 4000000 in
set_option maxRecDepth 100000 in
theorem client_calls (HS : Sep w0 w (fun _ => False) L) (T : Tk w0.heap fl Ao no co os Ar nr cr rs sz) :
    Calls Try.prog 57 #[.agg #[.int .u32 fl, .slice Ao no co, .slice Ar nr cr, .int .u64 sz, .bool nn]] w fun e w' => ∃ A c, e = .returned (.slice A (4 + (Hos os).length) c) ∧ Sep w0 w' (fun _ => False) (own 5 1 A (4 + (Hos os).length) c (by8 (cliL fl os)) :: L) := by
  obtain ⟨i0, hi0, hz0, hz1, hz2⟩ := info_parts info_u8
  have HSa := HS.alloc #[.int .u32 fl, .slice Ao no co, .slice Ar nr cr, .int .u64 sz, .bool nn] 122
  have HT := hid T
  have hon := T.on
  have HO := Hos_len os
  have hob := T.obs
  have f0 := T.f0
  have f1 := T.f1
  clear T
  go_enter Try.func57, Try.ntmps57
  go_wp2_with fail
  refine (putflags_calls HSa f0 f1).mono ?_
  rintro e w1 ⟨A1, c1, rfl, HS1⟩
  clear HSa
  go_wp2_with fail
  go_loopw [3, 4] (fun b i wr => ∃ (k cb : Nat) (B : Option Addr), k ≤ no ∧ i = .int .i64 k ∧ b = .slice B (4 + (Hos (os.take k)).length) cb ∧
    Sep w0 wr (fun _ => False) (own 5 1 B (4 + (Hos (os.take k)).length) cb (by8 (cliL fl (os.take k))) :: blk w.heap.size 122 #[.int .u32 fl, .slice Ao no co, .slice Ar nr cr, .int .u64 sz, .bool nn] :: L)) (fun _ i _ => no - (intOf i).toNat)
  case atStart => exact ⟨0, c1, A1, Nat.zero_le _, rfl, rfl, by simpa [cliL, Hos] using HS1⟩
  case round =>
    obtain ⟨k, cb, B, hk, rfl, rfl, HSk⟩ := hrel
    clear HS1
    have o1 := HSk.up1.blk_at 1 rfl
    by_cases hlt : k < no
    · obtain ⟨ad, r, rfl, hr0, hgood, y0, y1⟩ := HT.out.oat hlt
      have x0 := HSk.cell_old y0
      have x1 := HSk.cell_old y1
      have hsl := Hos_len (os.take (k + 1))
      have hst := sum_take_le (fun r : Ho => 16 + r.d.length) os (k + 1)
      have e1 := Hos_succ hr0
      have hbl := r.blen
      obtain ⟨m, hm⟩ : ∃ m, m = min r.d.length 256 := ⟨_, rfl⟩
      have hb1 : r.bytes = rawB mOp [r.op] (r.d.take 256) := by
        unfold rawB Ho.bytes
        rw [if_neg (by rw [List.length_take]; omega)]
      have hE : rawE (r.d.take 256) = 0 := by unfold rawE; rw [if_neg (by rw [List.length_take]; omega)]
      have hrd : Rb w0 (fun _ => False) (own 5 1 B (4 + (Hos (os.take k)).length) cb (by8 (cliL fl (os.take k))) :: blk w.heap.size 122 #[.int .u32 fl, .slice (some ad) no co, .slice Ar nr cr, .int .u64 sz, .bool nn] :: L) 1 r.A m (by8 (r.d.take 256)) := by
        have := (Rb.came (L := own 5 1 B (4 + (Hos (os.take k)).length) cb (by8 (cliL fl (os.take k))) :: blk w.heap.size 122 #[.int .u32 fl, .slice (some ad) no co, .slice Ar nr cr, .int .u64 sz, .bool nn] :: L) hgood.2.1).ktake (m := m) (by omega)
        rwa [show r.d.take m = r.d.take 256 by
          by_cases h : r.d.length ≤ 256
          · rw [List.take_of_length_le (by omega), List.take_of_length_le (by omega)]
          · rw [show m = 256 by omega]] at this
      have HSH := hid (fun W => short_calls (w := W) (A := r.A) (c := r.c) hm hgood.2.2.2.1)
      have HPUT : Aside (∀ {W : World}, Sep w0 W (fun _ => False) (own 5 1 B (4 + (Hos (os.take k)).length) cb (by8 (cliL fl (os.take k))) :: blk w.heap.size 122 #[.int .u32 fl, .slice (some ad) no co, .slice Ar nr cr, .int .u64 sz, .bool nn] :: L) → Calls Try.prog 14 #[.agg #[.int .u32 r.op, .slice r.A m r.c]] W fun e w' => ∃ A' c', e = .returned (.tuple #[.slice A' r.bytes.length c', .int .i64 0]) ∧ Sep w0 w' (fun _ => False) (own 5 1 A' r.bytes.length c' (by8 r.bytes) :: own 5 1 B (4 + (Hos (os.take k)).length) cb (by8 (cliL fl (os.take k))) :: blk w.heap.size 122 #[.int .u32 fl, .slice (some ad) no co, .slice Ar nr cr, .int .u64 sz, .bool nn] :: L)) := ⟨by
        intro W H
        rw [hb1, ← hE]
        exact hPut_calls H hrd hgood.1.1 hgood.1.2⟩
      have E1 : cliL fl (os.take (k + 1)) = cliL fl (os.take k) ++ r.bytes := by unfold cliL; rw [e1, List.append_assoc]
      have E2 : 4 + (Hos (os.take k)).length + r.bytes.length = 4 + (Hos (os.take (k + 1))).length := by rw [e1, List.length_append]; omega
      have hq1 : 4 + (Hos (os.take k)).length + r.bytes.length ≤ maxLen := by rw [E2]; simp only [maxLen]; omega
      have hq2 : (4 + (Hos (os.take k)).length + r.bytes.length) * 1 ≤ 140737488355328 := by rw [E2]; omega
      have hE1 := hid E1
      have hE2 := hid E2
      have hkn : (k : Int) < no := by omega
      have Y0 := hid y0
      have Y1 := hid y1
      clear e1 hb1 hE hrd hsl hst hbl E1 E2 hm y0 y1 hr0 hgood
      generalize hB : 4 + (Hos (os.take (k + 1))).length = nb1 at *
      generalize hX : cliL fl (os.take (k + 1)) = xb1 at *
      generalize 4 + (Hos (os.take k)).length = nb0 at *
      generalize cliL fl (os.take k) = xb0 at *
      have HB := hid hB
      have HX := hid hX
      clear hB hX
      obtain ⟨rop, rA, rc, rd⟩ := r
      dsimp only at *
      generalize Ho.bytes ⟨rop, rA, rc, rd⟩ = rb at *
      go_upto_region 5 with (fail)
      go_region_held_law (fun w' => w'.cell? ⟨w.heap.size, 1, none⟩ = some (.slice (some ad) no co) ∧ w'.cell? (ad.add (k * 2)) = some (.int .u32 rop) ∧ w'.cell? ⟨(ad.add (k * 2)).block, (ad.add (k * 2)).off + 1, none⟩ = some (.slice rA rd.length rc))
        (first | exact ⟨HS5.up2.blk_at 1 rfl, HS5.cell_old Y0.out, HS5.cell_old Y1.out⟩ | exact ⟨HSk.drew.up1.blk_at 1 rfl, HSk.drew.cell_old Y0.out, HSk.drew.cell_old Y1.out⟩ | exact ⟨o1, x0, x1⟩)
        (first
          | (refine (HPUT.out HSk.drew).mono ?_; rintro e w5 ⟨A5, c5, rfl, HS5⟩)
          | (refine (HSH.out _).mono ?_; rintro e w5 ⟨rfl, rfl⟩))
      clear o1 x0 x1 HSk
      go_wp2_with (at_builtin; go_loud (refine wpList_append_sep rfl (.tmp 35) (.tmp 36) 23 rfl 5 i0 _ 1 1 Try.underlying23 hi0 hz0 hz1 hz2 rfl (by decide) rfl HS5.up1 rfl HS5.up1.rd1 (kv_one _ _) hq1 hq2 hE2.out ((by8_append _ _).trans (congrArg by8 hE1.out.symm)) ?_); intro B' cb' w6 HS6 hsz6)
      go_roundw
      case rel => exact ⟨k + 1, cb', B', by omega, by go_num, by rw [HB.out], by rw [HB.out, HX.out]; exact HS6.sel 3 [0, 2]⟩
      case measure => simp [intOf]; omega
    · obtain rfl : no = k := by omega
      have hkn : ¬ (no : Int) < no := by omega
      rw [List.take_of_length_le (by rw [HT.out.ol]; omega)] at HSk ⊢
      go_wp2
      go_ret
      exact ⟨B, cb, rfl, HSk.sel 2 [0]⟩
end
end Go.Proofs.Ytgepekailoopeaa
