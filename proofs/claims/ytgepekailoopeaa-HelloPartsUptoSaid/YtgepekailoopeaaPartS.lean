/-
  Contract of Talk.server.
-/
import Derived.Test.YtgepekailoopeaaPartC
namespace Go.Proofs.Ytgepekailoopeaa
open Go.RowKit
set_option linter.unusedVariables false
set_option linter.unusedSimpArgs false
abbrev srvL (fl : Int) (rs : List Hr) : List Int := greetL fl ++ Hrs rs
section
variable {w0 w : World} {L : List Asr} {fl f16 sz : Int} {Ao Ar : Option Addr} {no co nr cr : Nat} {os : List Ho} {rs : List Hr} {nn : Bool}
theorem putexp_calls (HS : Sep w0 w (fun _ => False) L) (z0 : 0 ≤ sz) (z1 : sz < 18446744073709551616) (f0 : 0 ≤ fl) (f1 : fl < 65536) :
    Calls Try.prog 42 #[.int .u64 sz, .int .u16 fl, .bool nn] w fun e w' => ∃ A' c', e = .returned (.slice A' (expH nn) c') ∧ Sep w0 w' (fun _ => False) (own 5 1 A' (expH nn) c' (by8 (expL sz fl nn)) :: L) := by
  cases nn
  · exact hPutExport_false HS z0 z1 f0 f1
  · exact hPutExport_true HS z0 z1 f0 f1
set_option maxHeartbeats 4000000 in
set_option maxRecDepth 100000 in
theorem server_calls (HS : Sep w0 w (fun _ => False) L) (T : Tk w0.heap fl Ao no co os Ar nr cr rs sz) (hf : f16 = fl % 65536) :
    Calls Try.prog 58 #[.agg #[.int .u32 fl, .slice Ao no co, .slice Ar nr cr, .int .u64 sz, .bool nn]] w fun e w' => ∃ A c, e = .returned (.slice A (18 + (Hrs rs).length + expH nn) c) ∧ Sep w0 w' (fun _ => False) (own 5 1 A (18 + (Hrs rs).length + expH nn) c (by8 (srvL f16 rs ++ expL sz f16 nn)) :: L) := by
  obtain ⟨i0, hi0, hz0, hz1, hz2⟩ := info_parts info_u8
  have HSa := HS.alloc #[.int .u32 fl, .slice Ao no co, .slice Ar nr cr, .int .u64 sz, .bool nn] 122
  have HT := hid T
  have hon := T.rn
  have HO := Hrs_len rs
  have hob := T.rbs
  have f0 : 0 ≤ f16 := by omega
  have f1 : f16 < 65536 := by omega
  have y16 : IntKind.u16.wrap fl = f16 := by rw [IntKind.wrap_u16]; omega
  have hx9 : expH nn ≤ 134 := by cases nn <;> decide
  clear T hf
  go_enter Try.func58, Try.ntmps58
  go_wp2_with fail
  refine (greet_calls HSa f0 f1).mono ?_
  rintro e w1 ⟨A1, c1, rfl, HS1⟩
  clear HSa
  go_wp2_with fail
  go_loopw [3, 4] (fun b i wr => ∃ (k cb : Nat) (B : Option Addr), k ≤ nr ∧ i = .int .i64 k ∧ b = .slice B (18 + (Hrs (rs.take k)).length) cb ∧
    Sep w0 wr (fun _ => False) (own 5 1 B (18 + (Hrs (rs.take k)).length) cb (by8 (srvL f16 (rs.take k))) :: blk w.heap.size 122 #[.int .u32 fl, .slice Ao no co, .slice Ar nr cr, .int .u64 sz, .bool nn] :: L)) (fun _ i _ => nr - (intOf i).toNat)
  case atStart => exact ⟨0, c1, A1, Nat.zero_le _, rfl, rfl, by simpa [srvL, Hrs] using HS1⟩
  case round =>
    obtain ⟨k, cb, B, hk, rfl, rfl, HSk⟩ := hrel
    clear HS1
    have o1 := HSk.up1.blk_at 2 rfl
    by_cases hlt : k < nr
    · obtain ⟨ad, r, rfl, hr0, hgood, y0, y1, y2⟩ := HT.out.rat hlt
      have x0 := HSk.cell_old y0
      have x1 := HSk.cell_old y1
      have x2 := HSk.cell_old y2
      have hsl := Hrs_len (rs.take (k + 1))
      have hst := sum_take_le (fun r : Hr => 20 + r.d.length) rs (k + 1)
      have e1 := Hrs_succ hr0
      have hbl := r.blen
      obtain ⟨m, hm⟩ : ∃ m, m = min r.d.length 256 := ⟨_, rfl⟩
      have hb1 : r.bytes = rawB mRe [r.op, r.kd] (r.d.take 256) := by
        unfold rawB Hr.bytes
        rw [if_neg (by rw [List.length_take]; omega)]
      have hE : rawE (r.d.take 256) = 0 := by unfold rawE; rw [if_neg (by rw [List.length_take]; omega)]
      have hrd : Rb w0 (fun _ => False) (own 5 1 B (18 + (Hrs (rs.take k)).length) cb (by8 (srvL f16 (rs.take k))) :: blk w.heap.size 122 #[.int .u32 fl, .slice Ao no co, .slice (some ad) nr cr, .int .u64 sz, .bool nn] :: L) 1 r.A m (by8 (r.d.take 256)) := by
        have := (Rb.came (L := own 5 1 B (18 + (Hrs (rs.take k)).length) cb (by8 (srvL f16 (rs.take k))) :: blk w.heap.size 122 #[.int .u32 fl, .slice Ao no co, .slice (some ad) nr cr, .int .u64 sz, .bool nn] :: L) hgood.2.1).ktake (m := m) (by omega)
        rwa [show r.d.take m = r.d.take 256 by
          by_cases h : r.d.length ≤ 256
          · rw [List.take_of_length_le (by omega), List.take_of_length_le (by omega)]
          · rw [show m = 256 by omega]] at this
      have HSH := hid (fun W => short_calls (w := W) (A := r.A) (c := r.c) hm hgood.2.2.2.1)
      have HPUT : Aside (∀ {W : World}, Sep w0 W (fun _ => False) (own 5 1 B (18 + (Hrs (rs.take k)).length) cb (by8 (srvL f16 (rs.take k))) :: blk w.heap.size 122 #[.int .u32 fl, .slice Ao no co, .slice (some ad) nr cr, .int .u64 sz, .bool nn] :: L) → Calls Try.prog 16 #[.agg #[.int .u32 r.op, .int .u32 r.kd, .slice r.A m r.c]] W fun e w' => ∃ A' c', e = .returned (.tuple #[.slice A' r.bytes.length c', .int .i64 0]) ∧ Sep w0 w' (fun _ => False) (own 5 1 A' r.bytes.length c' (by8 r.bytes) :: own 5 1 B (18 + (Hrs (rs.take k)).length) cb (by8 (srvL f16 (rs.take k))) :: blk w.heap.size 122 #[.int .u32 fl, .slice Ao no co, .slice (some ad) nr cr, .int .u64 sz, .bool nn] :: L)) := ⟨by
        intro W H
        rw [hb1, ← hE]
        exact hPutReply_calls H hrd hgood.1.1 hgood.1.2.1 hgood.1.2.2.1 hgood.1.2.2.2⟩
      have E1 : srvL f16 (rs.take (k + 1)) = srvL f16 (rs.take k) ++ r.bytes := by unfold srvL; rw [e1, List.append_assoc]
      have E2 : 18 + (Hrs (rs.take k)).length + r.bytes.length = 18 + (Hrs (rs.take (k + 1))).length := by rw [e1, List.length_append]; omega
      have hq1 : 18 + (Hrs (rs.take k)).length + r.bytes.length ≤ maxLen := by rw [E2]; simp only [maxLen]; omega
      have hq2 : (18 + (Hrs (rs.take k)).length + r.bytes.length) * 1 ≤ 140737488355328 := by rw [E2]; omega
      have hE1 := hid E1
      have hE2 := hid E2
      have hkn : (k : Int) < nr := by omega
      have Y0 := hid y0
      have Y1 := hid y1
      have Y2 := hid y2
      clear e1 hb1 hE hrd hsl hst hbl E1 E2 hm y0 y1 y2 hr0 hgood
      generalize hB : 18 + (Hrs (rs.take (k + 1))).length = nb1 at *
      generalize hX : srvL f16 (rs.take (k + 1)) = xb1 at *
      generalize 18 + (Hrs (rs.take k)).length = nb0 at *
      generalize srvL f16 (rs.take k) = xb0 at *
      have HB := hid hB
      have HX := hid hX
      clear hB hX
      obtain ⟨rop, rkd, rA, rc, rd⟩ := r
      dsimp only at *
      generalize Hr.bytes ⟨rop, rkd, rA, rc, rd⟩ = rb at *
      go_upto_region 5 with (fail)
      go_region_held_law (fun w' => w'.cell? ⟨w.heap.size, 2, none⟩ = some (.slice (some ad) nr cr) ∧ w'.cell? (ad.add (k * 3)) = some (.int .u32 rop) ∧ w'.cell? ⟨(ad.add (k * 3)).block, (ad.add (k * 3)).off + 1, none⟩ = some (.int .u32 rkd) ∧ w'.cell? ⟨(ad.add (k * 3)).block, (ad.add (k * 3)).off + 2, none⟩ = some (.slice rA rd.length rc))
        (first | exact ⟨HS5.up2.blk_at 2 rfl, HS5.cell_old Y0.out, HS5.cell_old Y1.out, HS5.cell_old Y2.out⟩ | exact ⟨HSk.drew.up1.blk_at 2 rfl, HSk.drew.cell_old Y0.out, HSk.drew.cell_old Y1.out, HSk.drew.cell_old Y2.out⟩ | exact ⟨o1, x0, x1, x2⟩)
        (first
          | (refine (HPUT.out HSk.drew).mono ?_; rintro e w5 ⟨A5, c5, rfl, HS5⟩)
          | (refine (HSH.out _).mono ?_; rintro e w5 ⟨rfl, rfl⟩))
      clear o1 x0 x1 x2 HSk
      go_wp2_with (at_builtin; go_loud (refine wpList_append_sep rfl (.tmp 42) (.tmp 43) 23 rfl 5 i0 _ 1 1 Try.underlying23 hi0 hz0 hz1 hz2 rfl (by decide) rfl HS5.up1 rfl HS5.up1.rd1 (kv_one _ _) hq1 hq2 hE2.out ((by8_append _ _).trans (congrArg by8 hE1.out.symm)) ?_); intro B' cb' w6 HS6 hsz6)
      go_roundw
      case rel => exact ⟨k + 1, cb', B', by omega, by go_num, by rw [HB.out], by rw [HB.out, HX.out]; exact HS6.sel 3 [0, 2]⟩
      case measure => simp [intOf]; omega
    · obtain rfl : nr = k := by omega
      have hkn : ¬ (nr : Int) < nr := by omega
      rw [List.take_of_length_le (by rw [HT.out.rl]; omega)] at HSk ⊢
      have z0 := HSk.up1.blk_at 0 rfl
      have z3 := HSk.up1.blk_at 3 rfl
      have z4 := HSk.up1.blk_at 4 rfl
      have q0 := HT.out.z0
      have q1 := HT.out.z1
      have hq1 : 18 + (Hrs rs).length + expH nn ≤ maxLen := by simp only [maxLen]; omega
      have hq2 : (18 + (Hrs rs).length + expH nn) * 1 ≤ 140737488355328 := by omega
      have HPE := hid (putexp_calls (nn := nn) HSk q0 q1 f0 f1)
      clear q0 q1
      go_wp2_with fail
      refine HPE.out.mono ?_
      rintro e w5 ⟨A5, c5, rfl, HS5⟩
      clear z0 z3 z4
      go_wp2_with (at_builtin; go_loud (refine wpList_append_sep rfl (.tmp 45) (.tmp 53) 23 rfl 5 i0 _ 1 1 Try.underlying23 hi0 hz0 hz1 hz2 rfl (by decide) rfl HS5.up1 rfl HS5.up1.rd1 (kv_one _ _) hq1 hq2 rfl (by8_append _ _) ?_); intro B' cb' w6 HS6 hsz6)
      go_ret
      exact ⟨B', cb', rfl, HS6.sel 3 [0]⟩
end
end Go.Proofs.Ytgepekailoopeaa
