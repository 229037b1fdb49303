/-
  Contract of hello.Raw.asks.
-/
import Derived.Test.YtgepekailoopeaaHel7
import Derived.Deep.LoopGhost
namespace Go.Proofs.Ytgepekailoopeaa
open Go.RowKit
set_option linter.unusedVariables false
set_option linter.unusedSimpArgs false
theorem info_u16 : (Try.prog.info? 71).map (fun i => (i.zero, i.size, i.bytes)) = some (some (.int .u16 0), 1, 2) := by kernel_rfl
/-- numbers of two bytes, one behind the other -/
def n2s (l : List Int) (k : Nat) : List Int := (List.range k).map fun j => fN l (2 * j) 2
theorem n2s_len (l : List Int) (k : Nat) : (n2s l k).length = k := by simp [n2s]
theorem n2s_succ (l : List Int) (k : Nat) : n2s l (k + 1) = n2s l k ++ [fN l (2 * k) 2] := by simp [n2s, List.range_succ]
section
variable {w0 w : World} {O : Nat → Prop} {L : List Asr}

set_option maxHeartbeats 4000000 in
set_option maxRecDepth 100000 in
theorem asks_bad1 {op : Int} {A : Option Addr} {n c : Nat} {d : List Int} (HS : Sep w0 w O L) (hr : Rb w0 O L 1 A n (by8 d)) (hb : Byt d) (hl : n ≤ 140737488355328) (h : d.length < 4 ∨ (d.length : Int) - 4 < fN d 0 4) :
    Calls Try.prog 89 #[.agg #[.int .u32 op, .slice A n c]] w fun e w' => e = .returned (.tuple #[.agg zWish, .int .i64 5]) ∧ Sep w0 w' O L := by
  have hn := hr.klen HS
  have HSa := (HS.alloc #[.int .u32 op, .slice A n c] 31).allocB zWish 66 (B := w.heap.size + 1) (by simp)
  have HN := hid hn
  have H := hid h
  have HB := hid hb
  clear h hn hb
  go_enter Try.func89, Try.ntmps89
  go_wp2_with fail
  refine (new_calls HSa).mono ?_
  rintro e w1 ⟨g, rfl, HS1⟩
  have a1 := HS1.up2.blk_at 1 rfl
  go_wp2_with fail
  refine (push_calls (m := d) HS1 hr.cons.cons (by have := HN.out; simp only [List.length_nil]; omega)).mono ?_
  rintro e w2 ⟨rfl, HS2⟩
  rw [List.nil_append] at HS2
  clear a1 HS1 HSa
  go_wp2_with fail
  refine (long_no HS2 HB.out (by have := HN.out; omega) H.out).mono ?_
  rintro e w3 ⟨rfl, HS3⟩
  have cz0 := HS3.blk_at 0 rfl
  have cz1 := HS3.blk_at 1 rfl
  have cz2 := HS3.blk_at 2 rfl
  have fz0 := HS3.blk_frozen 0
  have fz1 := HS3.blk_frozen 1
  have fz2 := HS3.blk_frozen 2
  have HR := HS3.blk_set3 (.int .u32 0) (.string ByteArray.empty) (.slice none 0 0)
  go_wp2
  (try simp only [Exit.inBlock, Exit.then])
  refine bodyPost_ret (results_rowa rfl _ _ _ _ _ _ _ rfl HR.blk_heap Try.underlying66 rfl info_hwish) rfl ?_
  exact ⟨rfl, HR.drop.drop⟩

set_option maxHeartbeats 4000000 in
set_option maxRecDepth 100000 in
theorem asks_bad2 {op : Int} {A : Option Addr} {n c x : Nat} {d : List Int} (HS : Sep w0 w O L) (hr : Rb w0 O L 1 A n (by8 d)) (hb : Byt d) (hl : n ≤ 140737488355328) (hx : fN d 0 4 = x) (hxl : 4 + x ≤ d.length) {r : List Int} {E : Int} (hrr : d.drop (4 + x) = r) (h : r.length < 2 ∨ (2 ≤ r.length ∧ ((r.length : Int) - 2 ≠ 2 * fN r 0 2 ∧ E = 5 ∨ (r.length : Int) - 2 = 2 * fN r 0 2 ∧ 16 < x ∧ E = 3))) (hE : r.length < 2 → E = 5) :
    Calls Try.prog 89 #[.agg #[.int .u32 op, .slice A n c]] w fun e w' => e = .returned (.tuple #[.agg zWish, .int .i64 E]) ∧ Sep w0 w' O L := by
  have hn := hr.klen HS
  have HSa := (HS.alloc #[.int .u32 op, .slice A n c] 31).allocB zWish 66 (B := w.heap.size + 1) (by simp)
  have HN := hid hn
  have HX := hid (And.intro hx hxl)
  have HB := hid hb
  have hbr : Byt r := by rw [← hrr]; exact hb.drop _
  have hrl : r.length ≤ 140737488355328 := by rw [← hrr, List.length_drop]; omega
  have HRR := hid hrr
  have HBR := hid hbr
  clear hn hb hx hxl hrr hbr
  go_enter Try.func89, Try.ntmps89
  go_wp2_with fail
  refine (new_calls HSa).mono ?_
  rintro e w1 ⟨g, rfl, HS1⟩
  have a1 := HS1.up2.blk_at 1 rfl
  go_wp2_with fail
  refine (push_calls (m := d) HS1 hr.cons.cons (by have := HN.out; simp only [List.length_nil]; omega)).mono ?_
  rintro e w2 ⟨rfl, HS2⟩
  rw [List.nil_append] at HS2
  clear a1 HS1 HSa
  go_wp2_with fail
  refine (long_ok HS2 HB.out (by have := HN.out; omega) HX.out.1 HX.out.2).mono ?_
  rintro e w3 ⟨A3, c3, rfl, HS3⟩
  rw [HRR.out] at HS3
  have HL := (HS3.lit #[.int .i64 2] 3 1 1 rfl (by decide)).sel 3 [2, 0, 1]
  replace HL : Sep w0 _ O (Go.Proofs.Ytgepekailoopeaa.tape g r :: own 3 1 (some ⟨w3.heap.size, 0, none⟩) 1 1 (iv [2]) :: own 5 1 A3 x c3 (by8 ((d.drop 4).take x)) :: blk (w.heap.size + 1) 66 zWish :: blk w.heap.size 31 #[.int .u32 op, .slice A n c] :: L) := HL
  by_cases h2 : r.length < 2
  · have e1 := numL_no (b := true) (l := r) (ss := [2]) (by show r.length < 2; omega)
    rw [show [2].map Int.ofNat = [2] from rfl] at e1
    have E1 := hid e1
    have hE5 := hE h2
    subst hE5
    clear e1 h hE h2
    go_wp2_with fail
    refine (numbers_any (zs := [2]) HL Rb.i0 (by decide) HBR.out hrl).mono ?_
    rintro e w4 ⟨A4, c4, rfl, HS4⟩
    rw [E1.out] at HS4 ⊢
    dsimp only at HS4 ⊢
    go_upto_region 7 with (fail)
    go_quiet (fail)
    have HS5 : Sep w0 (w4.drewN nq) O (blk (w.heap.size + 1) 66 zWish :: blk w.heap.size 31 #[.int .u32 op, .slice A n c] :: L) := (HS4.drewN nq).drop.drop.drop.drop
    have cz0 := HS5.blk_at 0 rfl
    have cz1 := HS5.blk_at 1 rfl
    have cz2 := HS5.blk_at 2 rfl
    have fz0 := HS5.blk_frozen 0
    have fz1 := HS5.blk_frozen 1
    have fz2 := HS5.blk_frozen 2
    have HR := HS5.blk_set3 (.int .u32 0) (.string ByteArray.empty) (.slice none 0 0)
    go_wp2
    (try simp only [Exit.inBlock, Exit.then])
    refine bodyPost_ret (results_rowa rfl _ _ _ _ _ _ _ rfl HR.blk_heap Try.underlying66 rfl info_hwish) rfl ?_
    exact ⟨rfl, HR.drop.drop⟩
  · have e1 := numL_ok (b := true) (l := r) (ss := [2]) (by decide) (by show 2 ≤ r.length; omega)
    have b2 := fN_bd HBR.out 0 2
    simp only [show (256 : Int) ^ 2 = 65536 from rfl] at b2
    rw [show [2].map Int.ofNat = [2] from rfl, show cut r [2] = [fN r 0 2] by simp [cut, fN], show tot [2] = 2 from rfl, if_pos rfl] at e1
    replace h : ((r.length : Int) - 2 ≠ 2 * fN r 0 2 ∧ E = 5 ∨ (r.length : Int) - 2 = 2 * fN r 0 2 ∧ 16 < x ∧ E = 3) := by
      rcases h with h | h
      · omega
      · exact h.2
    generalize fN r 0 2 = y at *
    have hdl : ((r.drop 2).length : Int) = r.length - 2 := by rw [List.length_drop]; omega
    obtain ⟨r2, hr2⟩ : ∃ r2, r.drop 2 = r2 := ⟨_, rfl⟩
    rw [hr2] at e1 hdl
    have E1 := hid e1
    have y1 : IntKind.u64.wrap (r2.length : Int) = r2.length := by rw [IntKind.wrap_u64]; omega
    have y2 : IntKind.u64.wrap (2 * y) = 2 * y := by rw [IntKind.wrap_u64]; omega
    have hne : (r2.length : Int) ≠ 2 * y ∧ E = 5 ∨ (r2.length : Int) = 2 * y ∧ 16 < (x : Int) ∧ E = 3 := by omega
    clear e1 h hE h2 hr2 hdl
    rcases hne with ⟨hne, rfl⟩ | ⟨hne, h16, rfl⟩
    · have hneB : ((r2.length : Int) != 2 * y) = true := by simpa using hne
      go_wp2_with fail
      refine (numbers_any (zs := [2]) HL Rb.i0 (by decide) HBR.out hrl).mono ?_
      rintro e w4 ⟨A4, c4, rfl, HS4⟩
      rw [E1.out] at HS4 ⊢
      dsimp only at HS4 ⊢
      rw [show ([y] : List Int).length = 1 from rfl] at HS4 ⊢
      obtain ⟨g1, rfl⟩ := HS4.own_some (by decide)
      have hc : w4.cell? ⟨g1, 0, none⟩ = some (.int .u64 y) := HS4.kcell (j := 0) (by simp) rfl
      go_upto_region 7 with (fail)
      go_quiet (first | (go_at_call 22; exact Calls.quiet_of_same (Calls.quiet_at (len_calls (HS4.up1.drewN _)) (by with_reducible rfl))))
      have HS5 : Sep w0 (w4.drewN nq) O (blk (w.heap.size + 1) 66 zWish :: blk w.heap.size 31 #[.int .u32 op, .slice A n c] :: L) := (HS4.drewN nq).drop.drop.drop.drop
      have cz0 := HS5.blk_at 0 rfl
      have cz1 := HS5.blk_at 1 rfl
      have cz2 := HS5.blk_at 2 rfl
      have fz0 := HS5.blk_frozen 0
      have fz1 := HS5.blk_frozen 1
      have fz2 := HS5.blk_frozen 2
      have HR := HS5.blk_set3 (.int .u32 0) (.string ByteArray.empty) (.slice none 0 0)
      go_wp2
      (try simp only [Exit.inBlock, Exit.then])
      refine bodyPost_ret (results_rowa rfl _ _ _ _ _ _ _ rfl HR.blk_heap Try.underlying66 rfl info_hwish) rfl ?_
      exact ⟨rfl, HR.drop.drop⟩
    · have hneB : ((r2.length : Int) != 2 * y) = false := by simpa using hne
      go_wp2_with fail
      refine (numbers_any (zs := [2]) HL Rb.i0 (by decide) HBR.out hrl).mono ?_
      rintro e w4 ⟨A4, c4, rfl, HS4⟩
      rw [E1.out] at HS4 ⊢
      dsimp only at HS4 ⊢
      rw [show ([y] : List Int).length = 1 from rfl] at HS4 ⊢
      obtain ⟨g1, rfl⟩ := HS4.own_some (by decide)
      have hc : w4.cell? ⟨g1, 0, none⟩ = some (.int .u64 y) := HS4.kcell (j := 0) (by simp) rfl
      clear hne
      go_upto_region 7 with (fail)
      go_quiet (first | (go_at_call 22; exact Calls.quiet_of_same (Calls.quiet_at (len_calls (HS4.up1.drewN _)) (by with_reducible rfl))))
      have HS5 : Sep w0 (w4.drewN nq) O (blk (w.heap.size + 1) 66 zWish :: blk w.heap.size 31 #[.int .u32 op, .slice A n c] :: L) := (HS4.drewN nq).drop.drop.drop.drop
      have cz0 := HS5.blk_at 0 rfl
      have cz1 := HS5.blk_at 1 rfl
      have cz2 := HS5.blk_at 2 rfl
      have fz0 := HS5.blk_frozen 0
      have fz1 := HS5.blk_frozen 1
      have fz2 := HS5.blk_frozen 2
      have HR := HS5.blk_set3 (.int .u32 0) (.string ByteArray.empty) (.slice none 0 0)
      go_wp2
      (try simp only [Exit.inBlock, Exit.then])
      refine bodyPost_ret (results_rowa rfl _ _ _ _ _ _ _ rfl HR.blk_heap Try.underlying66 rfl info_hwish) rfl ?_
      exact ⟨rfl, HR.drop.drop⟩

set_option maxHeartbeats 4000000 in
set_option maxRecDepth 100000 in
theorem asks_ok {op : Int} {A : Option Addr} {n c x k : Nat} {d : List Int} (HS : Sep w0 w O L) (hr : Rb w0 O L 1 A n (by8 d)) (hb : Byt d) (hl : n ≤ 140737488355328) (hx : fN d 0 4 = x) (hxl : 4 + x ≤ d.length) {r : List Int} (hrr : d.drop (4 + x) = r) (h2 : r.length = 2 + 2 * k) (hk : fN r 0 2 = k) (h16 : x ≤ 16) :
    Calls Try.prog 89 #[.agg #[.int .u32 op, .slice A n c]] w fun e w' => ∃ A' c', e = .returned (.tuple #[.agg #[.int .u32 op, .string (strOfNums ((d.drop 4).take x)), .slice A' k c'], .int .i64 0]) ∧ Sep w0 w' O (own 71 1 A' k c' (kv .u16 (n2s (r.drop 2) k)) :: L) := by
  obtain ⟨i0, hi0, hz0, hz1, hz2⟩ := info_parts info_u16
  have hn := hr.klen HS
  have HSa := (HS.alloc #[.int .u32 op, .slice A n c] 31).allocB zWish 66 (B := w.heap.size + 1) (by simp)
  have HN := hid hn
  have HX := hid (And.intro hx hxl)
  have HB := hid hb
  have hbr : Byt r := by rw [← hrr]; exact hb.drop _
  have hrl : r.length ≤ 140737488355328 := by rw [← hrr, List.length_drop]; omega
  have b2 := fN_bd hbr 0 2
  simp only [show (256 : Int) ^ 2 = 65536 from rfl] at b2
  rw [hk] at b2
  have e1 := numL_ok (b := true) (l := r) (ss := [2]) (by decide) (by show 2 ≤ r.length; omega)
  rw [show [2].map Int.ofNat = [2] from rfl, show cut r [2] = [fN r 0 2] by simp [cut, fN], hk, show tot [2] = 2 from rfl, if_pos rfl] at e1
  have hr2l : (r.drop 2).length = 2 * k := by rw [List.length_drop]; omega
  have hbr2 : Byt (r.drop 2) := hbr.drop 2
  obtain ⟨r2, hr2⟩ : ∃ r2, r.drop 2 = r2 := ⟨_, rfl⟩
  rw [hr2] at e1 hr2l hbr2 ⊢
  have HRR := hid hrr
  have HBR := hid hbr
  have HBR2 := hid hbr2
  have HR2L := hid hr2l
  have E1 := hid e1
  have y1 : IntKind.u64.wrap (r2.length : Int) = r2.length := by rw [IntKind.wrap_u64]; omega
  have y2 : IntKind.u64.wrap (2 * (k : Int)) = 2 * k := by rw [IntKind.wrap_u64]; omega
  have hneB : ((r2.length : Int) != 2 * (k : Int)) = false := by simp; omega
  have i16 : ¬ 16 < (x : Int) := by omega
  have hk6 : k < 65536 := by omega
  clear hn hb hx hxl hrr hbr hk h2 e1 hr2 b2 hr2l hbr2
  go_enter Try.func89, Try.ntmps89
  go_wp2_with fail
  refine (new_calls HSa).mono ?_
  rintro e w1 ⟨g, rfl, HS1⟩
  have a1 := HS1.up2.blk_at 1 rfl
  go_wp2_with fail
  refine (push_calls (m := d) HS1 hr.cons.cons (by have := HN.out; simp only [List.length_nil]; omega)).mono ?_
  rintro e w2 ⟨rfl, HS2⟩
  rw [List.nil_append] at HS2
  clear a1 HS1 HSa
  go_wp2_with fail
  refine (long_ok HS2 HB.out (by have := HN.out; omega) HX.out.1 HX.out.2).mono ?_
  rintro e w3 ⟨A3, c3, rfl, HS3⟩
  rw [HRR.out] at HS3
  have HL : Sep w0 _ O (Go.Proofs.Ytgepekailoopeaa.tape g r :: own 3 1 (some ⟨w3.heap.size, 0, none⟩) 1 1 (iv [2]) :: own 5 1 A3 x c3 (by8 ((d.drop 4).take x)) :: blk (w.heap.size + 1) 66 zWish :: blk w.heap.size 31 #[.int .u32 op, .slice A n c] :: L) := (HS3.lit #[.int .i64 2] 3 1 1 rfl (by decide)).sel 3 [2, 0, 1]
  go_wp2_with fail
  refine (numbers_any (zs := [2]) HL Rb.i0 (by decide) HBR.out hrl).mono ?_
  rintro e w4 ⟨A4, c4, rfl, HS4⟩
  rw [E1.out] at HS4 ⊢
  dsimp only at HS4 ⊢
  rw [show ([(k : Int)] : List Int).length = 1 from rfl] at HS4 ⊢
  obtain ⟨g1, rfl⟩ := HS4.own_some (by decide)
  have hc : w4.cell? ⟨g1, 0, none⟩ = some (.int .u64 k) := HS4.kcell (j := 0) (by simp) rfl
  go_upto_region 7 with (fail)
  go_quiet (first | (go_at_call 22; exact Calls.quiet_of_same (Calls.quiet_at (len_calls (HS4.up1.drewN _)) (by with_reducible rfl))))
  have HS5 := (HS4.drewN nq).sel 6 [1, 3, 4, 5]
  replace HS5 : Sep w0 (w4.drewN nq) O (Go.Proofs.Ytgepekailoopeaa.tape g r2 :: own 5 1 A3 x c3 (by8 ((d.drop 4).take x)) :: blk (w.heap.size + 1) 66 zWish :: blk w.heap.size 31 #[.int .u32 op, .slice A n c] :: L) := HS5
  clear HS4 HL HS3 hc
  generalize w4.drewN nq = w6 at *
  have hs := run_str (P := Try.prog) (c := c3) (Rb.i1.read HS5) 23 9 5 Try.underlying23 Try.underlying5 Try.underlying9
  obtain ⟨s, hsE⟩ : ∃ s, strOfNums ((d.drop 4).take x) = s := ⟨_, rfl⟩
  rw [hsE] at hs
  have HSE := hid hsE
  clear hsE
  have a0 := HS5.up3.blk_at 0 rfl
  have HS7 : Sep w0 _ O (Go.Proofs.Ytgepekailoopeaa.tape g r2 :: blk w6.heap.size 66 #[.int .u32 op, .string s, .slice none 0 0] :: blk (w.heap.size + 1) 66 zWish :: blk w.heap.size 31 #[.int .u32 op, .slice A n c] :: L) := (HS5.alloc #[.int .u32 op, .string s, .slice none 0 0] 66).sel 5 [1, 0, 3, 4]
  have HS8 := HS7.nil 71 1
  clear HS5 HS7
  go_wp2_with fail
  go_loopg [9, 10] k (fun gk v v' wr => ∃ (j cj : Nat) (B : Option Addr), gk + j = k ∧
    Sep w0 wr O (own 71 1 B j cj (kv .u16 (n2s r2 j)) :: Go.Proofs.Ytgepekailoopeaa.tape g (r2.drop (2 * j)) :: blk w6.heap.size 66 #[.int .u32 op, .string s, .slice B j cj] :: blk (w.heap.size + 1) 66 zWish :: blk w.heap.size 31 #[.int .u32 op, .slice A n c] :: L))
  case atStart => exact ⟨0, 0, none, rfl, by simpa [n2s, kv] using HS8⟩
  case round =>
    obtain ⟨j, cj, B, hgj, HS9⟩ := hrel
    clear HS8 a0 hs
    have hlen : ((r2.drop (2 * j)).length : Int) = 2 * gk := by rw [List.length_drop]; have := HR2L.out; omega
    have hlen2 : (r2.drop (2 * j)).length ≤ 140737488355328 := by omega
    have HLEN := hid hlen
    clear hlen
    go_wp2_with fail
    refine (len_calls HS9.up1).mono ?_
    rintro e w10 ⟨rfl, rfl⟩
    rw [HLEN.out]
    by_cases hz : gk = 0
    · subst hz
      obtain rfl : j = k := by omega
      have t0 := HS9.up2.blk_at 0 rfl
      have t1 := HS9.up2.blk_at 1 rfl
      have t2 := HS9.up2.blk_at 2 rfl
      have HB3 := HS9.up3
      have cz0 := HB3.blk_at 0 rfl
      have cz1 := HB3.blk_at 1 rfl
      have cz2 := HB3.blk_at 2 rfl
      have fz0 := HB3.blk_frozen 0
      have fz1 := HB3.blk_frozen 1
      have fz2 := HB3.blk_frozen 2
      have HR := HB3.blk_set3 (.int .u32 op) (.string s) (.slice B j cj)
      go_wp2
      (try simp only [Exit.inBlock, Exit.then])
      refine bodyPost_ret (results_rowa rfl _ _ _ _ _ _ _ rfl HR.blk_heap Try.underlying66 rfl info_hwish) rfl ?_
      rw [HSE.out]
      exact ⟨B, cj, rfl, HR.sel 5 [1]⟩
    · have hp : (0 : Int) < 2 * gk := by omega
      have e2 := numL_ok (b := true) (l := r2.drop (2 * j)) (ss := [2]) (by decide) (by show 2 ≤ (r2.drop (2 * j)).length; have := HLEN.out; omega)
      have b3 := fN_bd HBR2.out (2 * j) 2
      simp only [show (256 : Int) ^ 2 = 65536 from rfl] at b3
      rw [show [2].map Int.ofNat = [2] from rfl, show cut (r2.drop (2 * j)) [2] = [fN r2 (2 * j) 2] by simp [cut, fN], show tot [2] = 2 from rfl, if_pos rfl, List.drop_drop] at e2
      have HSU := hid (n2s_succ r2 j)
      generalize fN r2 (2 * j) 2 = y at *
      have E2 := hid e2
      have y3 : IntKind.u16.wrap y = y := by rw [IntKind.wrap_u16]; omega
      clear e2 b3
      have HLa : Sep w0 _ O (Go.Proofs.Ytgepekailoopeaa.tape g (r2.drop (2 * j)) :: own 3 1 (some ⟨wr.heap.size, 0, none⟩) 1 1 (iv [2]) :: own 71 1 B j cj (kv .u16 (n2s r2 j)) :: blk w6.heap.size 66 #[.int .u32 op, .string s, .slice B j cj] :: blk (w.heap.size + 1) 66 zWish :: blk w.heap.size 31 #[.int .u32 op, .slice A n c] :: L) := (HS9.lit #[.int .i64 2] 3 1 1 rfl (by decide)).sel 6 [2, 0, 1, 3, 4, 5]
      go_wp2_with fail
      refine (numbers_any (zs := [2]) HLa Rb.i0 (by decide) (HBR2.out.drop _) hlen2).mono ?_
      rintro e w11 ⟨A11, c11, rfl, HS11⟩
      rw [E2.out] at HS11 ⊢
      dsimp only at HS11 ⊢
      rw [show ([y] : List Int).length = 1 from rfl] at HS11 ⊢
      obtain ⟨g2, rfl⟩ := HS11.own_some (by decide)
      have hc : w11.cell? ⟨g2, 0, none⟩ = some (.int .u64 y) := HS11.kcell (j := 0) (by simp) rfl
      have f2 := HS11.up4.blk_at 2 rfl
      have HM : Sep w0 w11 O (own 71 1 B j cj (kv .u16 (n2s r2 j)) :: Go.Proofs.Ytgepekailoopeaa.tape g (r2.drop (2 * j + 2)) :: blk w6.heap.size 66 #[.int .u32 op, .string s, .slice B j cj] :: blk (w.heap.size + 1) 66 zWish :: blk w.heap.size 31 #[.int .u32 op, .slice A n c] :: L) := HS11.sel 7 [3, 1, 4, 5, 6]
      have HLb := (HM.lit #[.int .u16 y] 71 1 1 rfl (by decide)).up1
      have hrd := HLb.rd1
      have f2b := HLb.up3.blk_at 2 rfl
      have f2c := HLb.drew.up3.blk_at 2 rfl
      have hb1 : j + 1 ≤ maxLen := by simp only [maxLen]; omega
      have hb2 : (j + 1) * 2 ≤ 140737488355328 := by omega
      clear HLa HS9
      go_upto_region 14 with (fail)
      go_region_law (first | (refine step_append_sep rfl (.tmp 62) (.tmp 67) 53 rfl 71 i0 _ 1 2 Try.underlying53 hi0 hz0 hz1 hz2 rfl (by decide) rfl HLb rfl hrd (kv_one .u16 [y]) hb1 hb2 rfl ((kv_append .u16 _ _).trans (congrArg (kv .u16) HSU.out.symm)) ?_; intro A12 c12 w12 HS12 hsz12; have q1 := HS12.up3.blk_frozen 2; have q2 := HS12.up3.blk_at 2 rfl))
      all_goals
        have HW := HS12.up3.blk_set 2 (.slice A12 (j + 1) c12)
        go_wp2
        go_roundg (gk - 1)
        case measure => omega
        case rel => exact ⟨j + 1, c12, A12, by omega, by rw [show 2 * (j + 1) = 2 * j + 2 by omega]; exact HW.sel 6 [1, 3, 0, 4, 5]⟩
end
end Go.Proofs.Ytgepekailoopeaa
