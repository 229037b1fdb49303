/-
  Contract of hello.TakeInfo.
-/
import Derived.Test.YtgepekailoopeaaInfP
import Derived.Deep.DeepCutAuto
import Derived.Deep.RegionHeldLaw
namespace Go.Proofs.Ytgepekailoopeaa
open Go.RowKit
set_option linter.unusedVariables false
set_option linter.unusedSimpArgs false
abbrev zIf : If := ⟨0, 0, 0, eStr, 0, 0, 0⟩
def tiE (b : List Int) : Int :=
  if b.length < 2 then 5 else if fN b 0 2 = 0 then (if b.length = 12 then 0 else 5) else if fN b 0 2 = 1 then (if 18 < b.length then 3 else 0)
  else if fN b 0 2 = 3 then (if b.length = 14 then 0 else 5) else 6
def tiI (b : List Int) : If :=
  if tiE b ≠ 0 then zIf else if fN b 0 2 = 0 then ⟨0, fN b 2 8, fN b 10 2, eStr, 0, 0, 0⟩ else if fN b 0 2 = 1 then ⟨1, 0, 0, strOfNums (b.drop 2), 0, 0, 0⟩ else ⟨3, 0, 0, eStr, fN b 2 4, fN b 6 4, fN b 10 4⟩
theorem info_hinfo : (Try.prog.info? 104).map (·.size) = some 7 := by kernel_rfl
section
variable {w0 w : World} {O : Nat → Prop} {L : List Asr}
theorem Sep.blk_set7 {g : Nat} {t : TypeId} {a0 a1 a2 a3 a4 a5 a6 : Value} (h : Sep w0 w O (blk g t #[a0, a1, a2, a3, a4, a5, a6] :: L)) (b0 b1 b2 b3 b4 b5 b6 : Value) :
    Sep w0 (((((((w.setCell ⟨g, 0, none⟩ b0).setCell ⟨g, 1, none⟩ b1).setCell ⟨g, 2, none⟩ b2).setCell ⟨g, 3, none⟩ b3).setCell ⟨g, 4, none⟩ b4).setCell ⟨g, 5, none⟩ b5).setCell ⟨g, 6, none⟩ b6) O (blk g t #[b0, b1, b2, b3, b4, b5, b6] :: L) := by
  have := ((((((h.blk_set 0 b0).blk_set 1 b1).blk_set 2 b2).blk_set 3 b3).blk_set 4 b4).blk_set 5 b5).blk_set 6 b6
  simpa using this
def TiOut (w0 : World) (O : Nat → Prop) (I : If) (E : Int) (L : List Asr) : Ending → World → Prop := fun e w' => e = .returned (.tuple #[.agg I.cells, .int .i64 E]) ∧ Sep w0 w' O L

set_option maxHeartbeats 8000000 in
set_option maxRecDepth 100000 in
theorem ti_short {A : Option Addr} {n c : Nat} {d : List Int} (HS : Sep w0 w O L) (hr : Rb w0 O L 1 A n (by8 d)) (hb : Byt d) (hl : n ≤ 140737488355328) (h : d.length < 2) :
    Calls Try.prog 51 #[.slice A n c] w (TiOut w0 O zIf 5 L) := by
  have hn := hr.klen HS
  have HN := hid hn
  have HB := hid hb
  have HSa := HS.alloc #[.int .u16 0, .int .u64 0, .int .u16 0, .string eStr, .int .u32 0, .int .u32 0, .int .u32 0] 104
  obtain ⟨Q, hQ⟩ : ∃ Q : Ending → World → Prop, Q = TiOut w0 O zIf 5 L := ⟨_, rfl⟩
  have HQ := hid hQ
  rw [← hQ]
  clear hQ
  have e1 := numL_no (b := true) (l := d) (ss := [2]) (by show d.length < 2; omega)
  rw [show [2].map Int.ofNat = [2] from rfl] at e1
  have E1 := hid e1
  clear e1 h hn hb
  go_enter Try.func51, Try.ntmps51
  go_wp2_with fail
  refine (new_calls HSa).mono ?_
  rintro e w1 ⟨g, rfl, HS1⟩
  go_wp2_with fail
  refine (push_calls (m := d) HS1 hr.cons (by have := HN.out; simp only [List.length_nil]; omega)).mono ?_
  rintro e w2 ⟨rfl, HS2⟩
  rw [List.nil_append] at HS2
  have HL : Sep w0 _ O (Go.Proofs.Ytgepekailoopeaa.tape g d :: own 3 1 (some ⟨w2.heap.size, 0, none⟩) 1 1 (iv [2]) :: blk w.heap.size 104 #[.int .u16 0, .int .u64 0, .int .u16 0, .string eStr, .int .u32 0, .int .u32 0, .int .u32 0] :: L) := (HS2.lit #[.int .i64 2] 3 1 1 rfl (by decide)).sel 3 [1, 0, 2]
  clear HSa HS1 HS2
  go_wp2_with fail
  refine (numbers_any (zs := [2]) HL Rb.i0 (by decide) HB.out (by have := HN.out; omega)).mono ?_
  rintro e w4 ⟨A4, c4, rfl, HS4⟩
  rw [E1.out] at HS4 ⊢
  dsimp only at HS4 ⊢
  have HB2 := HS4.up3
  have cz0 := HB2.blk_at 0 rfl
  have fz0 := HB2.blk_frozen 0
  have cz1 := HB2.blk_at 1 rfl
  have fz1 := HB2.blk_frozen 1
  have cz2 := HB2.blk_at 2 rfl
  have fz2 := HB2.blk_frozen 2
  have cz3 := HB2.blk_at 3 rfl
  have fz3 := HB2.blk_frozen 3
  have cz4 := HB2.blk_at 4 rfl
  have fz4 := HB2.blk_frozen 4
  have cz5 := HB2.blk_at 5 rfl
  have fz5 := HB2.blk_frozen 5
  have cz6 := HB2.blk_at 6 rfl
  have fz6 := HB2.blk_frozen 6
  have HR := HB2.blk_set7 (.int .u16 0) (.int .u64 0) (.int .u16 0) (.string eStr) (.int .u32 0) (.int .u32 0) (.int .u32 0)
  go_wp2
  (try simp only [Exit.inBlock, Exit.then])
  refine bodyPost_ret (results_rowa rfl _ _ _ _ _ _ _ rfl HR.blk_heap Try.underlying104 rfl info_hinfo) rfl ?_
  rw [HQ.out]
  exact ⟨rfl, HR.sel 4 []⟩

theorem Sep.someW' (h : Sep w0 w O L) : ∃ W, W = w ∧ Sep w0 W O L := ⟨w, rfl, h⟩

set_option maxHeartbeats 8000000 in
set_option maxRecDepth 100000 in
theorem ti0_less {A : Option Addr} {n c : Nat} {d : List Int} (HS : Sep w0 w O L) (hr : Rb w0 O L 1 A n (by8 d)) (hb : Byt d) (hl : n ≤ 140737488355328) (h : 2 ≤ d.length) (hk : fN d 0 2 = 0) (h2 : d.length < 12) :
    Calls Try.prog 51 #[.slice A n c] w (TiOut w0 O zIf 5 L) := by
  have hn := hr.klen HS
  have HN := hid hn
  have HB := hid hb
  have HSa := HS.alloc #[.int .u16 0, .int .u64 0, .int .u16 0, .string eStr, .int .u32 0, .int .u32 0, .int .u32 0] 104
  obtain ⟨Q, hQ⟩ : ∃ Q : Ending → World → Prop, Q = TiOut w0 O zIf 5 L := ⟨_, rfl⟩
  have HQ := hid hQ
  rw [← hQ]
  clear hQ
  have e1 := numL_ok (b := true) (l := d) (ss := [2]) (by decide) (by show 2 ≤ d.length; omega)
  rw [show [2].map Int.ofNat = [2] from rfl, show cut d [2] = [fN d 0 2] by simp [cut, fN], hk, show tot [2] = 2 from rfl, if_pos rfl] at e1
  have E1 := hid e1
  have hbr : Byt (d.drop 2) := hb.drop 2
  have HBR := hid hbr
  have hrl : (d.drop 2).length = d.length - 2 := by rw [List.length_drop]
  obtain ⟨r, hrr⟩ : ∃ r, r = d.drop 2 := ⟨_, rfl⟩
  rw [← hrr] at e1 E1 HBR hrl
  have HRL := hid hrl
  have e2 := numL_no (b := true) (l := r) (ss := [8, 2]) (by show r.length < 10; omega)
  rw [show [8, 2].map Int.ofNat = [8, 2] from rfl] at e2
  have E2 := hid e2
  clear e1 e2 h hn hb hbr hrl hrr hk h2
  go_enter Try.func51, Try.ntmps51
  go_wp2_with fail
  refine (new_calls HSa).mono ?_
  rintro e w1 ⟨g, rfl, HS1⟩
  go_wp2_with fail
  refine (push_calls (m := d) HS1 hr.cons (by have := HN.out; simp only [List.length_nil]; omega)).mono ?_
  rintro e w2 ⟨rfl, HS2⟩
  rw [List.nil_append] at HS2
  have HL : Sep w0 _ O (Go.Proofs.Ytgepekailoopeaa.tape g d :: own 3 1 (some ⟨w2.heap.size, 0, none⟩) 1 1 (iv [2]) :: blk w.heap.size 104 #[.int .u16 0, .int .u64 0, .int .u16 0, .string eStr, .int .u32 0, .int .u32 0, .int .u32 0] :: L) := (HS2.lit #[.int .i64 2] 3 1 1 rfl (by decide)).sel 3 [1, 0, 2]
  clear HSa HS1 HS2
  go_wp2_with fail
  refine (numbers_any (zs := [2]) HL Rb.i0 (by decide) HB.out (by have := HN.out; omega)).mono ?_
  rintro e w4 ⟨A4, c4, rfl, HS4⟩
  rw [E1.out] at HS4 ⊢
  dsimp only at HS4 ⊢
  rw [show ([(0 : Int)] : List Int).length = 1 from rfl] at HS4 ⊢
  obtain ⟨g1, rfl⟩ := HS4.own_some (by decide)
  have hc : w4.cell? ⟨g1, 0, none⟩ = some (.int .u64 0) := HS4.kcell (j := 0) (by simp) rfl
  have HS5 : Sep w0 _ O (blk w4.heap.size 104 #[.int .u16 0, .int .u64 0, .int .u16 0, .string eStr, .int .u32 0, .int .u32 0, .int .u32 0] :: Go.Proofs.Ytgepekailoopeaa.tape g r :: blk w.heap.size 104 #[.int .u16 0, .int .u64 0, .int .u16 0, .string eStr, .int .u32 0, .int .u32 0, .int .u32 0] :: L) := (HS4.alloc #[.int .u16 0, .int .u64 0, .int .u16 0, .string eStr, .int .u32 0, .int .u32 0, .int .u32 0] 104).sel 5 [0, 2, 4]
  clear HS4 HL
  have HL2 : Sep w0 _ O (Go.Proofs.Ytgepekailoopeaa.tape g r :: own 3 1 (some ⟨w4.heap.size + 1, 0, none⟩) 2 2 (iv [8, 2]) :: blk w4.heap.size 104 #[.int .u16 0, .int .u64 0, .int .u16 0, .string eStr, .int .u32 0, .int .u32 0, .int .u32 0] :: blk w.heap.size 104 #[.int .u16 0, .int .u64 0, .int .u16 0, .string eStr, .int .u32 0, .int .u32 0, .int .u32 0] :: L) := (HS5.litB #[.int .i64 8, .int .i64 2] 3 1 2 rfl (by decide) (B := w4.heap.size + 1) (by simp)).sel 4 [2, 0, 1, 3]
  go_wp2_with fail
  refine (numbers_any (zs := [8, 2]) HL2 Rb.i0 (by decide) HBR.out (by have := HN.out; have := HRL.out; omega)).mono ?_
  rintro e w6 ⟨A6, c6, rfl, HS6⟩
  rw [E2.out] at HS6 ⊢
  dsimp only at HS6 ⊢
  clear hc HS5 HL2
  have HB2 := (HS6.sel 5 [4])
  have cz0 := HB2.blk_at 0 rfl
  have fz0 := HB2.blk_frozen 0
  have cz1 := HB2.blk_at 1 rfl
  have fz1 := HB2.blk_frozen 1
  have cz2 := HB2.blk_at 2 rfl
  have fz2 := HB2.blk_frozen 2
  have cz3 := HB2.blk_at 3 rfl
  have fz3 := HB2.blk_frozen 3
  have cz4 := HB2.blk_at 4 rfl
  have fz4 := HB2.blk_frozen 4
  have cz5 := HB2.blk_at 5 rfl
  have fz5 := HB2.blk_frozen 5
  have cz6 := HB2.blk_at 6 rfl
  have fz6 := HB2.blk_frozen 6
  have HR := HB2.blk_set7 (.int .u16 0) (.int .u64 0) (.int .u16 0) (.string eStr) (.int .u32 0) (.int .u32 0) (.int .u32 0)
  go_wp2
  (try simp only [Exit.inBlock, Exit.then])
  refine bodyPost_ret (results_rowa rfl _ _ _ _ _ _ _ rfl HR.blk_heap Try.underlying104 rfl info_hinfo) rfl ?_
  rw [HQ.out]
  exact ⟨rfl, HR.sel 1 []⟩

set_option maxHeartbeats 8000000 in
set_option maxRecDepth 100000 in
theorem ti0_more {A : Option Addr} {n c : Nat} {d : List Int} (HS : Sep w0 w O L) (hr : Rb w0 O L 1 A n (by8 d)) (hb : Byt d) (hl : n ≤ 140737488355328) (hk : fN d 0 2 = 0) (h2 : 12 < d.length) :
    Calls Try.prog 51 #[.slice A n c] w (TiOut w0 O zIf 5 L) := by
  have hn := hr.klen HS
  have HN := hid hn
  have HB := hid hb
  have HSa := HS.alloc #[.int .u16 0, .int .u64 0, .int .u16 0, .string eStr, .int .u32 0, .int .u32 0, .int .u32 0] 104
  obtain ⟨Q, hQ⟩ : ∃ Q : Ending → World → Prop, Q = TiOut w0 O zIf 5 L := ⟨_, rfl⟩
  have HQ := hid hQ
  rw [← hQ]
  clear hQ
  have e1 := numL_ok (b := true) (l := d) (ss := [2]) (by decide) (by show 2 ≤ d.length; omega)
  rw [show [2].map Int.ofNat = [2] from rfl, show cut d [2] = [fN d 0 2] by simp [cut, fN], hk, show tot [2] = 2 from rfl, if_pos rfl] at e1
  have E1 := hid e1
  have hbr : Byt (d.drop 2) := hb.drop 2
  have HBR := hid hbr
  have hrl : (d.drop 2).length = d.length - 2 := by rw [List.length_drop]
  obtain ⟨r, hrr⟩ : ∃ r, r = d.drop 2 := ⟨_, rfl⟩
  rw [← hrr] at e1 E1 HBR hrl hbr
  have HRL := hid hrl
  have e2 := numL_ok (b := true) (l := r) (ss := [8, 2]) (by decide) (by show 10 ≤ r.length; omega)
  rw [show [8, 2].map Int.ofNat = [8, 2] from rfl, show cut r [8, 2] = [fN r 0 8, fN r 8 2] by simp [cut, fN, List.drop_drop], show tot [8, 2] = 10 from rfl, if_pos rfl] at e2
  have q0 : fN r 0 8 = fN d 2 8 := by rw [hrr]; unfold fN; rw [List.drop_drop]
  have bb0 := fN_bd hbr 0 8
  simp only [show (256 : Int) ^ 8 = 18446744073709551616 from rfl] at bb0
  have q1 : fN r 8 2 = fN d 10 2 := by rw [hrr]; unfold fN; rw [List.drop_drop]
  have bb1 := fN_bd hbr 8 2
  simp only [show (256 : Int) ^ 2 = 65536 from rfl] at bb1
  generalize fN r 0 8 = x0 at *
  generalize fN r 8 2 = x1 at *
  have y1 : IntKind.u16.wrap x1 = x1 := by rw [IntKind.wrap_u16]; omega
  obtain ⟨m, hm⟩ : ∃ m, m = (r.drop 10).length := ⟨_, rfl⟩
  have k1 : (0 : Int) < m := by rw [hm, List.length_drop]; omega
  have HLN : Aside ((r.drop 10).length = m) := ⟨hm.symm⟩
  have E2 := hid e2
  clear e1 e2 hn hb hbr hrl hrr hk h2 hm q0 bb0 q1 bb1
  go_enter Try.func51, Try.ntmps51
  go_wp2_with fail
  refine (new_calls HSa).mono ?_
  rintro e w1 ⟨g, rfl, HS1⟩
  go_wp2_with fail
  refine (push_calls (m := d) HS1 hr.cons (by have := HN.out; simp only [List.length_nil]; omega)).mono ?_
  rintro e w2 ⟨rfl, HS2⟩
  rw [List.nil_append] at HS2
  have HL : Sep w0 _ O (Go.Proofs.Ytgepekailoopeaa.tape g d :: own 3 1 (some ⟨w2.heap.size, 0, none⟩) 1 1 (iv [2]) :: blk w.heap.size 104 #[.int .u16 0, .int .u64 0, .int .u16 0, .string eStr, .int .u32 0, .int .u32 0, .int .u32 0] :: L) := (HS2.lit #[.int .i64 2] 3 1 1 rfl (by decide)).sel 3 [1, 0, 2]
  clear HSa HS1 HS2
  go_wp2_with fail
  refine (numbers_any (zs := [2]) HL Rb.i0 (by decide) HB.out (by have := HN.out; omega)).mono ?_
  rintro e w4 ⟨A4, c4, rfl, HS4⟩
  rw [E1.out] at HS4 ⊢
  dsimp only at HS4 ⊢
  rw [show ([(0 : Int)] : List Int).length = 1 from rfl] at HS4 ⊢
  obtain ⟨g1, rfl⟩ := HS4.own_some (by decide)
  have hc : w4.cell? ⟨g1, 0, none⟩ = some (.int .u64 0) := HS4.kcell (j := 0) (by simp) rfl
  have HS5 : Sep w0 _ O (blk w4.heap.size 104 #[.int .u16 0, .int .u64 0, .int .u16 0, .string eStr, .int .u32 0, .int .u32 0, .int .u32 0] :: Go.Proofs.Ytgepekailoopeaa.tape g r :: blk w.heap.size 104 #[.int .u16 0, .int .u64 0, .int .u16 0, .string eStr, .int .u32 0, .int .u32 0, .int .u32 0] :: L) := (HS4.alloc #[.int .u16 0, .int .u64 0, .int .u16 0, .string eStr, .int .u32 0, .int .u32 0, .int .u32 0] 104).sel 5 [0, 2, 4]
  clear HS4 HL
  have HL2 : Sep w0 _ O (Go.Proofs.Ytgepekailoopeaa.tape g r :: own 3 1 (some ⟨w4.heap.size + 1, 0, none⟩) 2 2 (iv [8, 2]) :: blk w4.heap.size 104 #[.int .u16 0, .int .u64 0, .int .u16 0, .string eStr, .int .u32 0, .int .u32 0, .int .u32 0] :: blk w.heap.size 104 #[.int .u16 0, .int .u64 0, .int .u16 0, .string eStr, .int .u32 0, .int .u32 0, .int .u32 0] :: L) := (HS5.litB #[.int .i64 8, .int .i64 2] 3 1 2 rfl (by decide) (B := w4.heap.size + 1) (by simp)).sel 4 [2, 0, 1, 3]
  go_wp2_with fail
  refine (numbers_any (zs := [8, 2]) HL2 Rb.i0 (by decide) HBR.out (by have := HN.out; have := HRL.out; omega)).mono ?_
  rintro e w6 ⟨A6, c6, rfl, HS6⟩
  rw [E2.out] at HS6 ⊢
  dsimp only at HS6 ⊢
  clear hc HS5 HL2
  rw [show ([x0, x1] : List Int).length = 2 from rfl] at HS6 ⊢
  obtain ⟨g6, rfl⟩ := HS6.own_some (by decide)
  have HS7 : Sep w0 w6 O (blk w4.heap.size 104 #[.int .u16 0, .int .u64 0, .int .u16 0, .string eStr, .int .u32 0, .int .u32 0, .int .u32 0] :: own 58 1 (some ⟨g6, 0, none⟩) 2 c6 (uv [x0, x1]) :: Go.Proofs.Ytgepekailoopeaa.tape g (r.drop 10) :: blk w.heap.size 104 #[.int .u16 0, .int .u64 0, .int .u16 0, .string eStr, .int .u32 0, .int .u32 0, .int .u32 0] :: L) := HS6.sel 5 [3, 0, 1, 4]
  have s1 := HS7.blk_at 1 rfl
  have t1 := HS7.blk_frozen 1
  have s2 := HS7.blk_at 2 rfl
  have t2 := HS7.blk_frozen 2
  clear HS6
  go_upto_region 13 with (fail)
  have Z0 : Aside (w6.drew.cell? ⟨g6, 0, none⟩ = some (.int .u64 x0) ∧ w6.drew.cell? ⟨g6, 1, none⟩ = some (.int .u64 x1)) := ⟨(HS7.drew).up1.kcell (j := 0) (by simp) rfl, (HS7.drew).up1.kcell (j := 1) (by simp) rfl⟩
  have Z1 : Aside ((w6.setCell ⟨w4.heap.size, 1, none⟩ (.int .u64 x0)).drew.cell? ⟨g6, 0, none⟩ = some (.int .u64 x0) ∧ (w6.setCell ⟨w4.heap.size, 1, none⟩ (.int .u64 x0)).drew.cell? ⟨g6, 1, none⟩ = some (.int .u64 x1)) := ⟨((HS7.blk_set 1 (.int .u64 x0)).drew).up1.kcell (j := 0) (by simp) rfl, ((HS7.blk_set 1 (.int .u64 x0)).drew).up1.kcell (j := 1) (by simp) rfl⟩
  have Z2 : Aside (((w6.setCell ⟨w4.heap.size, 1, none⟩ (.int .u64 x0)).setCell ⟨w4.heap.size, 2, none⟩ (.int .u16 x1)).drew.cell? ⟨g6, 0, none⟩ = some (.int .u64 x0) ∧ ((w6.setCell ⟨w4.heap.size, 1, none⟩ (.int .u64 x0)).setCell ⟨w4.heap.size, 2, none⟩ (.int .u16 x1)).drew.cell? ⟨g6, 1, none⟩ = some (.int .u64 x1)) := ⟨(((HS7.blk_set 1 (.int .u64 x0)).blk_set 2 (.int .u16 x1)).drew).up1.kcell (j := 0) (by simp) rfl, (((HS7.blk_set 1 (.int .u64 x0)).blk_set 2 (.int .u16 x1)).drew).up1.kcell (j := 1) (by simp) rfl⟩
  have Z3 : Aside ((w6.setCell ⟨w4.heap.size, 2, none⟩ (.int .u16 x1)).drew.cell? ⟨g6, 0, none⟩ = some (.int .u64 x0) ∧ (w6.setCell ⟨w4.heap.size, 2, none⟩ (.int .u16 x1)).drew.cell? ⟨g6, 1, none⟩ = some (.int .u64 x1)) := ⟨((HS7.blk_set 2 (.int .u16 x1)).drew).up1.kcell (j := 0) (by simp) rfl, ((HS7.blk_set 2 (.int .u16 x1)).drew).up1.kcell (j := 1) (by simp) rfl⟩
  have Z4 : Aside (((w6.setCell ⟨w4.heap.size, 2, none⟩ (.int .u16 x1)).setCell ⟨w4.heap.size, 1, none⟩ (.int .u64 x0)).drew.cell? ⟨g6, 0, none⟩ = some (.int .u64 x0) ∧ ((w6.setCell ⟨w4.heap.size, 2, none⟩ (.int .u16 x1)).setCell ⟨w4.heap.size, 1, none⟩ (.int .u64 x0)).drew.cell? ⟨g6, 1, none⟩ = some (.int .u64 x1)) := ⟨(((HS7.blk_set 2 (.int .u16 x1)).blk_set 1 (.int .u64 x0)).drew).up1.kcell (j := 0) (by simp) rfl, (((HS7.blk_set 2 (.int .u16 x1)).blk_set 1 (.int .u64 x0)).drew).up1.kcell (j := 1) (by simp) rfl⟩
  go_region_held_law (fun w' => w'.cell? ⟨g6, 0, none⟩ = some (.int .u64 x0) ∧ w'.cell? ⟨g6, 1, none⟩ = some (.int .u64 x1)) (first | with_reducible exact Z0.out | with_reducible exact Z1.out | with_reducible exact Z2.out | with_reducible exact Z3.out | with_reducible exact Z4.out) (fail)
  all_goals
    clear Z0 Z1 Z2 Z3 Z4 s1 t1 s2 t2
    have HS8 := ((HS7.blk_set 1 (.int .u64 x0)).blk_set 2 (.int .u16 x1)).drew
    have HS8' := ((HS7.blk_set 2 (.int .u16 x1)).blk_set 1 (.int .u64 x0)).drew
    first | (obtain ⟨w8, hw8, HS9'⟩ := HS8.someW'; rw [← hw8]) | (obtain ⟨w8, hw8, HS9'⟩ := HS8'.someW'; rw [← hw8])
    have HS9 : Sep w0 w8 O (blk w4.heap.size 104 #[.int .u16 0, .int .u64 x0, .int .u16 x1, .string eStr, .int .u32 0, .int .u32 0, .int .u32 0] :: Go.Proofs.Ytgepekailoopeaa.tape g (r.drop 10) :: blk w.heap.size 104 #[.int .u16 0, .int .u64 0, .int .u16 0, .string eStr, .int .u32 0, .int .u32 0, .int .u32 0] :: L) := HS9'.sel 4 [0, 2, 3]
    clear hw8 HS7 HS8 HS8' HS9'
    go_wp2_with fail
    refine (len_calls HS9.up1).mono ?_
    rintro e w9 ⟨rfl, rfl⟩
    rw [HLN.out]
    have HB2 := HS9.up2
    have cz0 := HB2.blk_at 0 rfl
    have fz0 := HB2.blk_frozen 0
    have cz1 := HB2.blk_at 1 rfl
    have fz1 := HB2.blk_frozen 1
    have cz2 := HB2.blk_at 2 rfl
    have fz2 := HB2.blk_frozen 2
    have cz3 := HB2.blk_at 3 rfl
    have fz3 := HB2.blk_frozen 3
    have cz4 := HB2.blk_at 4 rfl
    have fz4 := HB2.blk_frozen 4
    have cz5 := HB2.blk_at 5 rfl
    have fz5 := HB2.blk_frozen 5
    have cz6 := HB2.blk_at 6 rfl
    have fz6 := HB2.blk_frozen 6
    have HR := HB2.blk_set7 (.int .u16 0) (.int .u64 0) (.int .u16 0) (.string eStr) (.int .u32 0) (.int .u32 0) (.int .u32 0)
    go_wp2
    (try simp only [Exit.inBlock, Exit.then])
    refine bodyPost_ret (results_rowa rfl _ _ _ _ _ _ _ rfl HR.blk_heap Try.underlying104 rfl info_hinfo) rfl ?_
    rw [HQ.out]
    exact ⟨rfl, HR.sel 3 []⟩

set_option maxHeartbeats 8000000 in
set_option maxRecDepth 100000 in
theorem ti0_ok {A : Option Addr} {n c : Nat} {d : List Int} (HS : Sep w0 w O L) (hr : Rb w0 O L 1 A n (by8 d)) (hb : Byt d) (hl : n ≤ 140737488355328) (hk : fN d 0 2 = 0) (h2 : d.length = 12) :
    Calls Try.prog 51 #[.slice A n c] w (TiOut w0 O ⟨0, fN d 2 8, fN d 10 2, eStr, 0, 0, 0⟩ 0 L) := by
  have hn := hr.klen HS
  have HN := hid hn
  have HB := hid hb
  have HSa := HS.alloc #[.int .u16 0, .int .u64 0, .int .u16 0, .string eStr, .int .u32 0, .int .u32 0, .int .u32 0] 104
  obtain ⟨Q, hQ⟩ : ∃ Q : Ending → World → Prop, Q = TiOut w0 O ⟨0, fN d 2 8, fN d 10 2, eStr, 0, 0, 0⟩ 0 L := ⟨_, rfl⟩
  have HQ := hid hQ
  rw [← hQ]
  clear hQ
  have e1 := numL_ok (b := true) (l := d) (ss := [2]) (by decide) (by show 2 ≤ d.length; omega)
  rw [show [2].map Int.ofNat = [2] from rfl, show cut d [2] = [fN d 0 2] by simp [cut, fN], hk, show tot [2] = 2 from rfl, if_pos rfl] at e1
  have E1 := hid e1
  have hbr : Byt (d.drop 2) := hb.drop 2
  have HBR := hid hbr
  have hrl : (d.drop 2).length = d.length - 2 := by rw [List.length_drop]
  obtain ⟨r, hrr⟩ : ∃ r, r = d.drop 2 := ⟨_, rfl⟩
  rw [← hrr] at e1 E1 HBR hrl hbr
  have HRL := hid hrl
  have e2 := numL_ok (b := true) (l := r) (ss := [8, 2]) (by decide) (by show 10 ≤ r.length; omega)
  rw [show [8, 2].map Int.ofNat = [8, 2] from rfl, show cut r [8, 2] = [fN r 0 8, fN r 8 2] by simp [cut, fN, List.drop_drop], show tot [8, 2] = 10 from rfl, if_pos rfl] at e2
  have q0 : fN r 0 8 = fN d 2 8 := by rw [hrr]; unfold fN; rw [List.drop_drop]
  have bb0 := fN_bd hbr 0 8
  simp only [show (256 : Int) ^ 8 = 18446744073709551616 from rfl] at bb0
  have q1 : fN r 8 2 = fN d 10 2 := by rw [hrr]; unfold fN; rw [List.drop_drop]
  have bb1 := fN_bd hbr 8 2
  simp only [show (256 : Int) ^ 2 = 65536 from rfl] at bb1
  rw [← q0, ← q1] at HQ
  generalize fN r 0 8 = x0 at *
  generalize fN r 8 2 = x1 at *
  have y1 : IntKind.u16.wrap x1 = x1 := by rw [IntKind.wrap_u16]; omega
  have HLN : Aside ((r.drop 10).length = 0) := ⟨by rw [List.length_drop]; omega⟩
  have E2 := hid e2
  clear e1 e2 hn hb hbr hrl hrr hk h2 q0 bb0 q1 bb1
  go_enter Try.func51, Try.ntmps51
  go_wp2_with fail
  refine (new_calls HSa).mono ?_
  rintro e w1 ⟨g, rfl, HS1⟩
  go_wp2_with fail
  refine (push_calls (m := d) HS1 hr.cons (by have := HN.out; simp only [List.length_nil]; omega)).mono ?_
  rintro e w2 ⟨rfl, HS2⟩
  rw [List.nil_append] at HS2
  have HL : Sep w0 _ O (Go.Proofs.Ytgepekailoopeaa.tape g d :: own 3 1 (some ⟨w2.heap.size, 0, none⟩) 1 1 (iv [2]) :: blk w.heap.size 104 #[.int .u16 0, .int .u64 0, .int .u16 0, .string eStr, .int .u32 0, .int .u32 0, .int .u32 0] :: L) := (HS2.lit #[.int .i64 2] 3 1 1 rfl (by decide)).sel 3 [1, 0, 2]
  clear HSa HS1 HS2
  go_wp2_with fail
  refine (numbers_any (zs := [2]) HL Rb.i0 (by decide) HB.out (by have := HN.out; omega)).mono ?_
  rintro e w4 ⟨A4, c4, rfl, HS4⟩
  rw [E1.out] at HS4 ⊢
  dsimp only at HS4 ⊢
  rw [show ([(0 : Int)] : List Int).length = 1 from rfl] at HS4 ⊢
  obtain ⟨g1, rfl⟩ := HS4.own_some (by decide)
  have hc : w4.cell? ⟨g1, 0, none⟩ = some (.int .u64 0) := HS4.kcell (j := 0) (by simp) rfl
  have HS5 : Sep w0 _ O (blk w4.heap.size 104 #[.int .u16 0, .int .u64 0, .int .u16 0, .string eStr, .int .u32 0, .int .u32 0, .int .u32 0] :: Go.Proofs.Ytgepekailoopeaa.tape g r :: blk w.heap.size 104 #[.int .u16 0, .int .u64 0, .int .u16 0, .string eStr, .int .u32 0, .int .u32 0, .int .u32 0] :: L) := (HS4.alloc #[.int .u16 0, .int .u64 0, .int .u16 0, .string eStr, .int .u32 0, .int .u32 0, .int .u32 0] 104).sel 5 [0, 2, 4]
  clear HS4 HL
  have HL2 : Sep w0 _ O (Go.Proofs.Ytgepekailoopeaa.tape g r :: own 3 1 (some ⟨w4.heap.size + 1, 0, none⟩) 2 2 (iv [8, 2]) :: blk w4.heap.size 104 #[.int .u16 0, .int .u64 0, .int .u16 0, .string eStr, .int .u32 0, .int .u32 0, .int .u32 0] :: blk w.heap.size 104 #[.int .u16 0, .int .u64 0, .int .u16 0, .string eStr, .int .u32 0, .int .u32 0, .int .u32 0] :: L) := (HS5.litB #[.int .i64 8, .int .i64 2] 3 1 2 rfl (by decide) (B := w4.heap.size + 1) (by simp)).sel 4 [2, 0, 1, 3]
  go_wp2_with fail
  refine (numbers_any (zs := [8, 2]) HL2 Rb.i0 (by decide) HBR.out (by have := HN.out; have := HRL.out; omega)).mono ?_
  rintro e w6 ⟨A6, c6, rfl, HS6⟩
  rw [E2.out] at HS6 ⊢
  dsimp only at HS6 ⊢
  clear hc HS5 HL2
  rw [show ([x0, x1] : List Int).length = 2 from rfl] at HS6 ⊢
  obtain ⟨g6, rfl⟩ := HS6.own_some (by decide)
  have HS7 : Sep w0 w6 O (blk w4.heap.size 104 #[.int .u16 0, .int .u64 0, .int .u16 0, .string eStr, .int .u32 0, .int .u32 0, .int .u32 0] :: own 58 1 (some ⟨g6, 0, none⟩) 2 c6 (uv [x0, x1]) :: Go.Proofs.Ytgepekailoopeaa.tape g (r.drop 10) :: blk w.heap.size 104 #[.int .u16 0, .int .u64 0, .int .u16 0, .string eStr, .int .u32 0, .int .u32 0, .int .u32 0] :: L) := HS6.sel 5 [3, 0, 1, 4]
  have s1 := HS7.blk_at 1 rfl
  have t1 := HS7.blk_frozen 1
  have s2 := HS7.blk_at 2 rfl
  have t2 := HS7.blk_frozen 2
  clear HS6
  go_upto_region 13 with (fail)
  have Z0 : Aside (w6.drew.cell? ⟨g6, 0, none⟩ = some (.int .u64 x0) ∧ w6.drew.cell? ⟨g6, 1, none⟩ = some (.int .u64 x1)) := ⟨(HS7.drew).up1.kcell (j := 0) (by simp) rfl, (HS7.drew).up1.kcell (j := 1) (by simp) rfl⟩
  have Z1 : Aside ((w6.setCell ⟨w4.heap.size, 1, none⟩ (.int .u64 x0)).drew.cell? ⟨g6, 0, none⟩ = some (.int .u64 x0) ∧ (w6.setCell ⟨w4.heap.size, 1, none⟩ (.int .u64 x0)).drew.cell? ⟨g6, 1, none⟩ = some (.int .u64 x1)) := ⟨((HS7.blk_set 1 (.int .u64 x0)).drew).up1.kcell (j := 0) (by simp) rfl, ((HS7.blk_set 1 (.int .u64 x0)).drew).up1.kcell (j := 1) (by simp) rfl⟩
  have Z2 : Aside (((w6.setCell ⟨w4.heap.size, 1, none⟩ (.int .u64 x0)).setCell ⟨w4.heap.size, 2, none⟩ (.int .u16 x1)).drew.cell? ⟨g6, 0, none⟩ = some (.int .u64 x0) ∧ ((w6.setCell ⟨w4.heap.size, 1, none⟩ (.int .u64 x0)).setCell ⟨w4.heap.size, 2, none⟩ (.int .u16 x1)).drew.cell? ⟨g6, 1, none⟩ = some (.int .u64 x1)) := ⟨(((HS7.blk_set 1 (.int .u64 x0)).blk_set 2 (.int .u16 x1)).drew).up1.kcell (j := 0) (by simp) rfl, (((HS7.blk_set 1 (.int .u64 x0)).blk_set 2 (.int .u16 x1)).drew).up1.kcell (j := 1) (by simp) rfl⟩
  have Z3 : Aside ((w6.setCell ⟨w4.heap.size, 2, none⟩ (.int .u16 x1)).drew.cell? ⟨g6, 0, none⟩ = some (.int .u64 x0) ∧ (w6.setCell ⟨w4.heap.size, 2, none⟩ (.int .u16 x1)).drew.cell? ⟨g6, 1, none⟩ = some (.int .u64 x1)) := ⟨((HS7.blk_set 2 (.int .u16 x1)).drew).up1.kcell (j := 0) (by simp) rfl, ((HS7.blk_set 2 (.int .u16 x1)).drew).up1.kcell (j := 1) (by simp) rfl⟩
  have Z4 : Aside (((w6.setCell ⟨w4.heap.size, 2, none⟩ (.int .u16 x1)).setCell ⟨w4.heap.size, 1, none⟩ (.int .u64 x0)).drew.cell? ⟨g6, 0, none⟩ = some (.int .u64 x0) ∧ ((w6.setCell ⟨w4.heap.size, 2, none⟩ (.int .u16 x1)).setCell ⟨w4.heap.size, 1, none⟩ (.int .u64 x0)).drew.cell? ⟨g6, 1, none⟩ = some (.int .u64 x1)) := ⟨(((HS7.blk_set 2 (.int .u16 x1)).blk_set 1 (.int .u64 x0)).drew).up1.kcell (j := 0) (by simp) rfl, (((HS7.blk_set 2 (.int .u16 x1)).blk_set 1 (.int .u64 x0)).drew).up1.kcell (j := 1) (by simp) rfl⟩
  go_region_held_law (fun w' => w'.cell? ⟨g6, 0, none⟩ = some (.int .u64 x0) ∧ w'.cell? ⟨g6, 1, none⟩ = some (.int .u64 x1)) (first | with_reducible exact Z0.out | with_reducible exact Z1.out | with_reducible exact Z2.out | with_reducible exact Z3.out | with_reducible exact Z4.out) (fail)
  all_goals
    clear Z0 Z1 Z2 Z3 Z4 s1 t1 s2 t2
    have HS8 := ((HS7.blk_set 1 (.int .u64 x0)).blk_set 2 (.int .u16 x1)).drew
    have HS8' := ((HS7.blk_set 2 (.int .u16 x1)).blk_set 1 (.int .u64 x0)).drew
    first | (obtain ⟨w8, hw8, HS9'⟩ := HS8.someW'; rw [← hw8]) | (obtain ⟨w8, hw8, HS9'⟩ := HS8'.someW'; rw [← hw8])
    have HS9 : Sep w0 w8 O (blk w4.heap.size 104 #[.int .u16 0, .int .u64 x0, .int .u16 x1, .string eStr, .int .u32 0, .int .u32 0, .int .u32 0] :: Go.Proofs.Ytgepekailoopeaa.tape g (r.drop 10) :: blk w.heap.size 104 #[.int .u16 0, .int .u64 0, .int .u16 0, .string eStr, .int .u32 0, .int .u32 0, .int .u32 0] :: L) := HS9'.sel 4 [0, 2, 3]
    clear hw8 HS7 HS8 HS8' HS9'
    go_wp2_with fail
    refine (len_calls HS9.up1).mono ?_
    rintro e w9 ⟨rfl, rfl⟩
    rw [HLN.out]
    have HB2 := HS9.up2
    have cz0 := HB2.blk_at 0 rfl
    have fz0 := HB2.blk_frozen 0
    have cz1 := HB2.blk_at 1 rfl
    have fz1 := HB2.blk_frozen 1
    have cz2 := HB2.blk_at 2 rfl
    have fz2 := HB2.blk_frozen 2
    have cz3 := HB2.blk_at 3 rfl
    have fz3 := HB2.blk_frozen 3
    have cz4 := HB2.blk_at 4 rfl
    have fz4 := HB2.blk_frozen 4
    have cz5 := HB2.blk_at 5 rfl
    have fz5 := HB2.blk_frozen 5
    have cz6 := HB2.blk_at 6 rfl
    have fz6 := HB2.blk_frozen 6
    have u0 := HS9.blk_at 0 rfl
    have u1 := HS9.blk_at 1 rfl
    have u2 := HS9.blk_at 2 rfl
    have u3 := HS9.blk_at 3 rfl
    have u4 := HS9.blk_at 4 rfl
    have u5 := HS9.blk_at 5 rfl
    have u6 := HS9.blk_at 6 rfl
    have HR := HB2.blk_set7 (.int .u16 0) (.int .u64 x0) (.int .u16 x1) (.string eStr) (.int .u32 0) (.int .u32 0) (.int .u32 0)
    go_wp2
    (try simp only [Exit.inBlock, Exit.then])
    refine bodyPost_ret (results_rowa rfl _ _ _ _ _ _ _ rfl HR.blk_heap Try.underlying104 rfl info_hinfo) rfl ?_
    rw [HQ.out]
    exact ⟨rfl, HR.sel 3 []⟩

set_option maxHeartbeats 8000000 in
set_option maxRecDepth 100000 in
theorem ti3_less {A : Option Addr} {n c : Nat} {d : List Int} (HS : Sep w0 w O L) (hr : Rb w0 O L 1 A n (by8 d)) (hb : Byt d) (hl : n ≤ 140737488355328) (h : 2 ≤ d.length) (hk : fN d 0 2 = 3) (h2 : d.length < 14) :
    Calls Try.prog 51 #[.slice A n c] w (TiOut w0 O zIf 5 L) := by
  have hn := hr.klen HS
  have HN := hid hn
  have HB := hid hb
  have HSa := HS.alloc #[.int .u16 0, .int .u64 0, .int .u16 0, .string eStr, .int .u32 0, .int .u32 0, .int .u32 0] 104
  obtain ⟨Q, hQ⟩ : ∃ Q : Ending → World → Prop, Q = TiOut w0 O zIf 5 L := ⟨_, rfl⟩
  have HQ := hid hQ
  rw [← hQ]
  clear hQ
  have e1 := numL_ok (b := true) (l := d) (ss := [2]) (by decide) (by show 2 ≤ d.length; omega)
  rw [show [2].map Int.ofNat = [2] from rfl, show cut d [2] = [fN d 0 2] by simp [cut, fN], hk, show tot [2] = 2 from rfl, if_pos rfl] at e1
  have E1 := hid e1
  have hbr : Byt (d.drop 2) := hb.drop 2
  have HBR := hid hbr
  have hrl : (d.drop 2).length = d.length - 2 := by rw [List.length_drop]
  obtain ⟨r, hrr⟩ : ∃ r, r = d.drop 2 := ⟨_, rfl⟩
  rw [← hrr] at e1 E1 HBR hrl
  have HRL := hid hrl
  have e2 := numL_no (b := true) (l := r) (ss := [4, 4, 4]) (by show r.length < 12; omega)
  rw [show [4, 4, 4].map Int.ofNat = [4, 4, 4] from rfl] at e2
  have E2 := hid e2
  clear e1 e2 h hn hb hbr hrl hrr hk h2
  go_enter Try.func51, Try.ntmps51
  go_wp2_with fail
  refine (new_calls HSa).mono ?_
  rintro e w1 ⟨g, rfl, HS1⟩
  go_wp2_with fail
  refine (push_calls (m := d) HS1 hr.cons (by have := HN.out; simp only [List.length_nil]; omega)).mono ?_
  rintro e w2 ⟨rfl, HS2⟩
  rw [List.nil_append] at HS2
  have HL : Sep w0 _ O (Go.Proofs.Ytgepekailoopeaa.tape g d :: own 3 1 (some ⟨w2.heap.size, 0, none⟩) 1 1 (iv [2]) :: blk w.heap.size 104 #[.int .u16 0, .int .u64 0, .int .u16 0, .string eStr, .int .u32 0, .int .u32 0, .int .u32 0] :: L) := (HS2.lit #[.int .i64 2] 3 1 1 rfl (by decide)).sel 3 [1, 0, 2]
  clear HSa HS1 HS2
  go_wp2_with fail
  refine (numbers_any (zs := [2]) HL Rb.i0 (by decide) HB.out (by have := HN.out; omega)).mono ?_
  rintro e w4 ⟨A4, c4, rfl, HS4⟩
  rw [E1.out] at HS4 ⊢
  dsimp only at HS4 ⊢
  rw [show ([(3 : Int)] : List Int).length = 1 from rfl] at HS4 ⊢
  obtain ⟨g1, rfl⟩ := HS4.own_some (by decide)
  have hc : w4.cell? ⟨g1, 0, none⟩ = some (.int .u64 3) := HS4.kcell (j := 0) (by simp) rfl
  have HS5 : Sep w0 _ O (blk w4.heap.size 104 #[.int .u16 3, .int .u64 0, .int .u16 0, .string eStr, .int .u32 0, .int .u32 0, .int .u32 0] :: Go.Proofs.Ytgepekailoopeaa.tape g r :: blk w.heap.size 104 #[.int .u16 0, .int .u64 0, .int .u16 0, .string eStr, .int .u32 0, .int .u32 0, .int .u32 0] :: L) := (HS4.alloc #[.int .u16 3, .int .u64 0, .int .u16 0, .string eStr, .int .u32 0, .int .u32 0, .int .u32 0] 104).sel 5 [0, 2, 4]
  clear HS4 HL
  have HL2 : Sep w0 _ O (Go.Proofs.Ytgepekailoopeaa.tape g r :: own 3 1 (some ⟨w4.heap.size + 1, 0, none⟩) 3 3 (iv [4, 4, 4]) :: blk w4.heap.size 104 #[.int .u16 3, .int .u64 0, .int .u16 0, .string eStr, .int .u32 0, .int .u32 0, .int .u32 0] :: blk w.heap.size 104 #[.int .u16 0, .int .u64 0, .int .u16 0, .string eStr, .int .u32 0, .int .u32 0, .int .u32 0] :: L) := (HS5.litB #[.int .i64 4, .int .i64 4, .int .i64 4] 3 1 3 rfl (by decide) (B := w4.heap.size + 1) (by simp)).sel 4 [2, 0, 1, 3]
  go_wp2_with fail
  refine (numbers_any (zs := [4, 4, 4]) HL2 Rb.i0 (by decide) HBR.out (by have := HN.out; have := HRL.out; omega)).mono ?_
  rintro e w6 ⟨A6, c6, rfl, HS6⟩
  rw [E2.out] at HS6 ⊢
  dsimp only at HS6 ⊢
  clear hc HS5 HL2
  have HB2 := (HS6.sel 5 [4])
  have cz0 := HB2.blk_at 0 rfl
  have fz0 := HB2.blk_frozen 0
  have cz1 := HB2.blk_at 1 rfl
  have fz1 := HB2.blk_frozen 1
  have cz2 := HB2.blk_at 2 rfl
  have fz2 := HB2.blk_frozen 2
  have cz3 := HB2.blk_at 3 rfl
  have fz3 := HB2.blk_frozen 3
  have cz4 := HB2.blk_at 4 rfl
  have fz4 := HB2.blk_frozen 4
  have cz5 := HB2.blk_at 5 rfl
  have fz5 := HB2.blk_frozen 5
  have cz6 := HB2.blk_at 6 rfl
  have fz6 := HB2.blk_frozen 6
  have HR := HB2.blk_set7 (.int .u16 0) (.int .u64 0) (.int .u16 0) (.string eStr) (.int .u32 0) (.int .u32 0) (.int .u32 0)
  go_wp2
  (try simp only [Exit.inBlock, Exit.then])
  refine bodyPost_ret (results_rowa rfl _ _ _ _ _ _ _ rfl HR.blk_heap Try.underlying104 rfl info_hinfo) rfl ?_
  rw [HQ.out]
  exact ⟨rfl, HR.sel 1 []⟩

set_option maxHeartbeats 8000000 in
set_option maxRecDepth 100000 in
theorem ti3_more {A : Option Addr} {n c : Nat} {d : List Int} (HS : Sep w0 w O L) (hr : Rb w0 O L 1 A n (by8 d)) (hb : Byt d) (hl : n ≤ 140737488355328) (hk : fN d 0 2 = 3) (h2 : 14 < d.length) :
    Calls Try.prog 51 #[.slice A n c] w (TiOut w0 O zIf 5 L) := by
  have hn := hr.klen HS
  have HN := hid hn
  have HB := hid hb
  have HSa := HS.alloc #[.int .u16 0, .int .u64 0, .int .u16 0, .string eStr, .int .u32 0, .int .u32 0, .int .u32 0] 104
  obtain ⟨Q, hQ⟩ : ∃ Q : Ending → World → Prop, Q = TiOut w0 O zIf 5 L := ⟨_, rfl⟩
  have HQ := hid hQ
  rw [← hQ]
  clear hQ
  have e1 := numL_ok (b := true) (l := d) (ss := [2]) (by decide) (by show 2 ≤ d.length; omega)
  rw [show [2].map Int.ofNat = [2] from rfl, show cut d [2] = [fN d 0 2] by simp [cut, fN], hk, show tot [2] = 2 from rfl, if_pos rfl] at e1
  have E1 := hid e1
  have hbr : Byt (d.drop 2) := hb.drop 2
  have HBR := hid hbr
  have hrl : (d.drop 2).length = d.length - 2 := by rw [List.length_drop]
  obtain ⟨r, hrr⟩ : ∃ r, r = d.drop 2 := ⟨_, rfl⟩
  rw [← hrr] at e1 E1 HBR hrl hbr
  have HRL := hid hrl
  have e2 := numL_ok (b := true) (l := r) (ss := [4, 4, 4]) (by decide) (by show 12 ≤ r.length; omega)
  rw [show [4, 4, 4].map Int.ofNat = [4, 4, 4] from rfl, show cut r [4, 4, 4] = [fN r 0 4, fN r 4 4, fN r 8 4] by simp [cut, fN, List.drop_drop], show tot [4, 4, 4] = 12 from rfl, if_pos rfl] at e2
  have q0 : fN r 0 4 = fN d 2 4 := by rw [hrr]; unfold fN; rw [List.drop_drop]
  have bb0 := fN_bd hbr 0 4
  simp only [show (256 : Int) ^ 4 = 4294967296 from rfl] at bb0
  have q1 : fN r 4 4 = fN d 6 4 := by rw [hrr]; unfold fN; rw [List.drop_drop]
  have bb1 := fN_bd hbr 4 4
  simp only [show (256 : Int) ^ 4 = 4294967296 from rfl] at bb1
  have q2 : fN r 8 4 = fN d 10 4 := by rw [hrr]; unfold fN; rw [List.drop_drop]
  have bb2 := fN_bd hbr 8 4
  simp only [show (256 : Int) ^ 4 = 4294967296 from rfl] at bb2
  generalize fN r 0 4 = x0 at *
  generalize fN r 4 4 = x1 at *
  generalize fN r 8 4 = x2 at *
  have y0 : IntKind.u32.wrap x0 = x0 := by rw [IntKind.wrap_u32]; omega
  have y1 : IntKind.u32.wrap x1 = x1 := by rw [IntKind.wrap_u32]; omega
  have y2 : IntKind.u32.wrap x2 = x2 := by rw [IntKind.wrap_u32]; omega
  obtain ⟨m, hm⟩ : ∃ m, m = (r.drop 12).length := ⟨_, rfl⟩
  have k1 : (0 : Int) < m := by rw [hm, List.length_drop]; omega
  have HLN : Aside ((r.drop 12).length = m) := ⟨hm.symm⟩
  have E2 := hid e2
  clear e1 e2 hn hb hbr hrl hrr hk h2 hm q0 bb0 q1 bb1 q2 bb2
  go_enter Try.func51, Try.ntmps51
  go_wp2_with fail
  refine (new_calls HSa).mono ?_
  rintro e w1 ⟨g, rfl, HS1⟩
  go_wp2_with fail
  refine (push_calls (m := d) HS1 hr.cons (by have := HN.out; simp only [List.length_nil]; omega)).mono ?_
  rintro e w2 ⟨rfl, HS2⟩
  rw [List.nil_append] at HS2
  have HL : Sep w0 _ O (Go.Proofs.Ytgepekailoopeaa.tape g d :: own 3 1 (some ⟨w2.heap.size, 0, none⟩) 1 1 (iv [2]) :: blk w.heap.size 104 #[.int .u16 0, .int .u64 0, .int .u16 0, .string eStr, .int .u32 0, .int .u32 0, .int .u32 0] :: L) := (HS2.lit #[.int .i64 2] 3 1 1 rfl (by decide)).sel 3 [1, 0, 2]
  clear HSa HS1 HS2
  go_wp2_with fail
  refine (numbers_any (zs := [2]) HL Rb.i0 (by decide) HB.out (by have := HN.out; omega)).mono ?_
  rintro e w4 ⟨A4, c4, rfl, HS4⟩
  rw [E1.out] at HS4 ⊢
  dsimp only at HS4 ⊢
  rw [show ([(3 : Int)] : List Int).length = 1 from rfl] at HS4 ⊢
  obtain ⟨g1, rfl⟩ := HS4.own_some (by decide)
  have hc : w4.cell? ⟨g1, 0, none⟩ = some (.int .u64 3) := HS4.kcell (j := 0) (by simp) rfl
  have HS5 : Sep w0 _ O (blk w4.heap.size 104 #[.int .u16 3, .int .u64 0, .int .u16 0, .string eStr, .int .u32 0, .int .u32 0, .int .u32 0] :: Go.Proofs.Ytgepekailoopeaa.tape g r :: blk w.heap.size 104 #[.int .u16 0, .int .u64 0, .int .u16 0, .string eStr, .int .u32 0, .int .u32 0, .int .u32 0] :: L) := (HS4.alloc #[.int .u16 3, .int .u64 0, .int .u16 0, .string eStr, .int .u32 0, .int .u32 0, .int .u32 0] 104).sel 5 [0, 2, 4]
  clear HS4 HL
  have HL2 : Sep w0 _ O (Go.Proofs.Ytgepekailoopeaa.tape g r :: own 3 1 (some ⟨w4.heap.size + 1, 0, none⟩) 3 3 (iv [4, 4, 4]) :: blk w4.heap.size 104 #[.int .u16 3, .int .u64 0, .int .u16 0, .string eStr, .int .u32 0, .int .u32 0, .int .u32 0] :: blk w.heap.size 104 #[.int .u16 0, .int .u64 0, .int .u16 0, .string eStr, .int .u32 0, .int .u32 0, .int .u32 0] :: L) := (HS5.litB #[.int .i64 4, .int .i64 4, .int .i64 4] 3 1 3 rfl (by decide) (B := w4.heap.size + 1) (by simp)).sel 4 [2, 0, 1, 3]
  go_wp2_with fail
  refine (numbers_any (zs := [4, 4, 4]) HL2 Rb.i0 (by decide) HBR.out (by have := HN.out; have := HRL.out; omega)).mono ?_
  rintro e w6 ⟨A6, c6, rfl, HS6⟩
  rw [E2.out] at HS6 ⊢
  dsimp only at HS6 ⊢
  clear hc HS5 HL2
  rw [show ([x0, x1, x2] : List Int).length = 3 from rfl] at HS6 ⊢
  obtain ⟨g6, rfl⟩ := HS6.own_some (by decide)
  have HS7 : Sep w0 w6 O (blk w4.heap.size 104 #[.int .u16 3, .int .u64 0, .int .u16 0, .string eStr, .int .u32 0, .int .u32 0, .int .u32 0] :: own 58 1 (some ⟨g6, 0, none⟩) 3 c6 (uv [x0, x1, x2]) :: Go.Proofs.Ytgepekailoopeaa.tape g (r.drop 12) :: blk w.heap.size 104 #[.int .u16 0, .int .u64 0, .int .u16 0, .string eStr, .int .u32 0, .int .u32 0, .int .u32 0] :: L) := HS6.sel 5 [3, 0, 1, 4]
  have s4 := HS7.blk_at 4 rfl
  have t4 := HS7.blk_frozen 4
  have s5 := HS7.blk_at 5 rfl
  have t5 := HS7.blk_frozen 5
  have s6 := HS7.blk_at 6 rfl
  have t6 := HS7.blk_frozen 6
  clear HS6
  go_upto_region 22 with (fail)
  have Z0 : Aside (w6.drew.cell? ⟨g6, 0, none⟩ = some (.int .u64 x0) ∧ w6.drew.cell? ⟨g6, 1, none⟩ = some (.int .u64 x1) ∧ w6.drew.cell? ⟨g6, 2, none⟩ = some (.int .u64 x2)) := ⟨(HS7.drew).up1.kcell (j := 0) (by simp) rfl, (HS7.drew).up1.kcell (j := 1) (by simp) rfl, (HS7.drew).up1.kcell (j := 2) (by simp) rfl⟩
  have Z1 : Aside ((((w6.setCell ⟨w4.heap.size, 4, none⟩ (.int .u32 x0)).setCell ⟨w4.heap.size, 5, none⟩ (.int .u32 x1)).setCell ⟨w4.heap.size, 6, none⟩ (.int .u32 x2)).drew.cell? ⟨g6, 0, none⟩ = some (.int .u64 x0) ∧ (((w6.setCell ⟨w4.heap.size, 4, none⟩ (.int .u32 x0)).setCell ⟨w4.heap.size, 5, none⟩ (.int .u32 x1)).setCell ⟨w4.heap.size, 6, none⟩ (.int .u32 x2)).drew.cell? ⟨g6, 1, none⟩ = some (.int .u64 x1) ∧ (((w6.setCell ⟨w4.heap.size, 4, none⟩ (.int .u32 x0)).setCell ⟨w4.heap.size, 5, none⟩ (.int .u32 x1)).setCell ⟨w4.heap.size, 6, none⟩ (.int .u32 x2)).drew.cell? ⟨g6, 2, none⟩ = some (.int .u64 x2)) := ⟨((((HS7.blk_set 4 (.int .u32 x0)).blk_set 5 (.int .u32 x1)).blk_set 6 (.int .u32 x2)).drew).up1.kcell (j := 0) (by simp) rfl, ((((HS7.blk_set 4 (.int .u32 x0)).blk_set 5 (.int .u32 x1)).blk_set 6 (.int .u32 x2)).drew).up1.kcell (j := 1) (by simp) rfl, ((((HS7.blk_set 4 (.int .u32 x0)).blk_set 5 (.int .u32 x1)).blk_set 6 (.int .u32 x2)).drew).up1.kcell (j := 2) (by simp) rfl⟩
  go_region_held_law (fun w' => w'.cell? ⟨g6, 0, none⟩ = some (.int .u64 x0) ∧ w'.cell? ⟨g6, 1, none⟩ = some (.int .u64 x1) ∧ w'.cell? ⟨g6, 2, none⟩ = some (.int .u64 x2)) (first | with_reducible exact Z0.out | with_reducible exact Z1.out) (fail)
  all_goals
    clear Z0 Z1 s4 t4 s5 t5 s6 t6
    have HS8 := (((HS7.blk_set 4 (.int .u32 x0)).blk_set 5 (.int .u32 x1)).blk_set 6 (.int .u32 x2)).drew
    first | (obtain ⟨w8, hw8, HS9'⟩ := HS8.someW'; rw [← hw8])
    have HS9 : Sep w0 w8 O (blk w4.heap.size 104 #[.int .u16 3, .int .u64 0, .int .u16 0, .string eStr, .int .u32 x0, .int .u32 x1, .int .u32 x2] :: Go.Proofs.Ytgepekailoopeaa.tape g (r.drop 12) :: blk w.heap.size 104 #[.int .u16 0, .int .u64 0, .int .u16 0, .string eStr, .int .u32 0, .int .u32 0, .int .u32 0] :: L) := HS9'.sel 4 [0, 2, 3]
    clear hw8 HS7 HS8 HS9'
    go_wp2_with fail
    refine (len_calls HS9.up1).mono ?_
    rintro e w9 ⟨rfl, rfl⟩
    rw [HLN.out]
    have HB2 := HS9.up2
    have cz0 := HB2.blk_at 0 rfl
    have fz0 := HB2.blk_frozen 0
    have cz1 := HB2.blk_at 1 rfl
    have fz1 := HB2.blk_frozen 1
    have cz2 := HB2.blk_at 2 rfl
    have fz2 := HB2.blk_frozen 2
    have cz3 := HB2.blk_at 3 rfl
    have fz3 := HB2.blk_frozen 3
    have cz4 := HB2.blk_at 4 rfl
    have fz4 := HB2.blk_frozen 4
    have cz5 := HB2.blk_at 5 rfl
    have fz5 := HB2.blk_frozen 5
    have cz6 := HB2.blk_at 6 rfl
    have fz6 := HB2.blk_frozen 6
    have HR := HB2.blk_set7 (.int .u16 0) (.int .u64 0) (.int .u16 0) (.string eStr) (.int .u32 0) (.int .u32 0) (.int .u32 0)
    go_wp2
    (try simp only [Exit.inBlock, Exit.then])
    refine bodyPost_ret (results_rowa rfl _ _ _ _ _ _ _ rfl HR.blk_heap Try.underlying104 rfl info_hinfo) rfl ?_
    rw [HQ.out]
    exact ⟨rfl, HR.sel 3 []⟩

set_option maxHeartbeats 8000000 in
set_option maxRecDepth 100000 in
theorem ti3_ok {A : Option Addr} {n c : Nat} {d : List Int} (HS : Sep w0 w O L) (hr : Rb w0 O L 1 A n (by8 d)) (hb : Byt d) (hl : n ≤ 140737488355328) (hk : fN d 0 2 = 3) (h2 : d.length = 14) :
    Calls Try.prog 51 #[.slice A n c] w (TiOut w0 O ⟨3, 0, 0, eStr, fN d 2 4, fN d 6 4, fN d 10 4⟩ 0 L) := by
  have hn := hr.klen HS
  have HN := hid hn
  have HB := hid hb
  have HSa := HS.alloc #[.int .u16 0, .int .u64 0, .int .u16 0, .string eStr, .int .u32 0, .int .u32 0, .int .u32 0] 104
  obtain ⟨Q, hQ⟩ : ∃ Q : Ending → World → Prop, Q = TiOut w0 O ⟨3, 0, 0, eStr, fN d 2 4, fN d 6 4, fN d 10 4⟩ 0 L := ⟨_, rfl⟩
  have HQ := hid hQ
  rw [← hQ]
  clear hQ
  have e1 := numL_ok (b := true) (l := d) (ss := [2]) (by decide) (by show 2 ≤ d.length; omega)
  rw [show [2].map Int.ofNat = [2] from rfl, show cut d [2] = [fN d 0 2] by simp [cut, fN], hk, show tot [2] = 2 from rfl, if_pos rfl] at e1
  have E1 := hid e1
  have hbr : Byt (d.drop 2) := hb.drop 2
  have HBR := hid hbr
  have hrl : (d.drop 2).length = d.length - 2 := by rw [List.length_drop]
  obtain ⟨r, hrr⟩ : ∃ r, r = d.drop 2 := ⟨_, rfl⟩
  rw [← hrr] at e1 E1 HBR hrl hbr
  have HRL := hid hrl
  have e2 := numL_ok (b := true) (l := r) (ss := [4, 4, 4]) (by decide) (by show 12 ≤ r.length; omega)
  rw [show [4, 4, 4].map Int.ofNat = [4, 4, 4] from rfl, show cut r [4, 4, 4] = [fN r 0 4, fN r 4 4, fN r 8 4] by simp [cut, fN, List.drop_drop], show tot [4, 4, 4] = 12 from rfl, if_pos rfl] at e2
  have q0 : fN r 0 4 = fN d 2 4 := by rw [hrr]; unfold fN; rw [List.drop_drop]
  have bb0 := fN_bd hbr 0 4
  simp only [show (256 : Int) ^ 4 = 4294967296 from rfl] at bb0
  have q1 : fN r 4 4 = fN d 6 4 := by rw [hrr]; unfold fN; rw [List.drop_drop]
  have bb1 := fN_bd hbr 4 4
  simp only [show (256 : Int) ^ 4 = 4294967296 from rfl] at bb1
  have q2 : fN r 8 4 = fN d 10 4 := by rw [hrr]; unfold fN; rw [List.drop_drop]
  have bb2 := fN_bd hbr 8 4
  simp only [show (256 : Int) ^ 4 = 4294967296 from rfl] at bb2
  rw [← q0, ← q1, ← q2] at HQ
  generalize fN r 0 4 = x0 at *
  generalize fN r 4 4 = x1 at *
  generalize fN r 8 4 = x2 at *
  have y0 : IntKind.u32.wrap x0 = x0 := by rw [IntKind.wrap_u32]; omega
  have y1 : IntKind.u32.wrap x1 = x1 := by rw [IntKind.wrap_u32]; omega
  have y2 : IntKind.u32.wrap x2 = x2 := by rw [IntKind.wrap_u32]; omega
  have HLN : Aside ((r.drop 12).length = 0) := ⟨by rw [List.length_drop]; omega⟩
  have E2 := hid e2
  clear e1 e2 hn hb hbr hrl hrr hk h2 q0 bb0 q1 bb1 q2 bb2
  go_enter Try.func51, Try.ntmps51
  go_wp2_with fail
  refine (new_calls HSa).mono ?_
  rintro e w1 ⟨g, rfl, HS1⟩
  go_wp2_with fail
  refine (push_calls (m := d) HS1 hr.cons (by have := HN.out; simp only [List.length_nil]; omega)).mono ?_
  rintro e w2 ⟨rfl, HS2⟩
  rw [List.nil_append] at HS2
  have HL : Sep w0 _ O (Go.Proofs.Ytgepekailoopeaa.tape g d :: own 3 1 (some ⟨w2.heap.size, 0, none⟩) 1 1 (iv [2]) :: blk w.heap.size 104 #[.int .u16 0, .int .u64 0, .int .u16 0, .string eStr, .int .u32 0, .int .u32 0, .int .u32 0] :: L) := (HS2.lit #[.int .i64 2] 3 1 1 rfl (by decide)).sel 3 [1, 0, 2]
  clear HSa HS1 HS2
  go_wp2_with fail
  refine (numbers_any (zs := [2]) HL Rb.i0 (by decide) HB.out (by have := HN.out; omega)).mono ?_
  rintro e w4 ⟨A4, c4, rfl, HS4⟩
  rw [E1.out] at HS4 ⊢
  dsimp only at HS4 ⊢
  rw [show ([(3 : Int)] : List Int).length = 1 from rfl] at HS4 ⊢
  obtain ⟨g1, rfl⟩ := HS4.own_some (by decide)
  have hc : w4.cell? ⟨g1, 0, none⟩ = some (.int .u64 3) := HS4.kcell (j := 0) (by simp) rfl
  have HS5 : Sep w0 _ O (blk w4.heap.size 104 #[.int .u16 3, .int .u64 0, .int .u16 0, .string eStr, .int .u32 0, .int .u32 0, .int .u32 0] :: Go.Proofs.Ytgepekailoopeaa.tape g r :: blk w.heap.size 104 #[.int .u16 0, .int .u64 0, .int .u16 0, .string eStr, .int .u32 0, .int .u32 0, .int .u32 0] :: L) := (HS4.alloc #[.int .u16 3, .int .u64 0, .int .u16 0, .string eStr, .int .u32 0, .int .u32 0, .int .u32 0] 104).sel 5 [0, 2, 4]
  clear HS4 HL
  have HL2 : Sep w0 _ O (Go.Proofs.Ytgepekailoopeaa.tape g r :: own 3 1 (some ⟨w4.heap.size + 1, 0, none⟩) 3 3 (iv [4, 4, 4]) :: blk w4.heap.size 104 #[.int .u16 3, .int .u64 0, .int .u16 0, .string eStr, .int .u32 0, .int .u32 0, .int .u32 0] :: blk w.heap.size 104 #[.int .u16 0, .int .u64 0, .int .u16 0, .string eStr, .int .u32 0, .int .u32 0, .int .u32 0] :: L) := (HS5.litB #[.int .i64 4, .int .i64 4, .int .i64 4] 3 1 3 rfl (by decide) (B := w4.heap.size + 1) (by simp)).sel 4 [2, 0, 1, 3]
  go_wp2_with fail
  refine (numbers_any (zs := [4, 4, 4]) HL2 Rb.i0 (by decide) HBR.out (by have := HN.out; have := HRL.out; omega)).mono ?_
  rintro e w6 ⟨A6, c6, rfl, HS6⟩
  rw [E2.out] at HS6 ⊢
  dsimp only at HS6 ⊢
  clear hc HS5 HL2
  rw [show ([x0, x1, x2] : List Int).length = 3 from rfl] at HS6 ⊢
  obtain ⟨g6, rfl⟩ := HS6.own_some (by decide)
  have HS7 : Sep w0 w6 O (blk w4.heap.size 104 #[.int .u16 3, .int .u64 0, .int .u16 0, .string eStr, .int .u32 0, .int .u32 0, .int .u32 0] :: own 58 1 (some ⟨g6, 0, none⟩) 3 c6 (uv [x0, x1, x2]) :: Go.Proofs.Ytgepekailoopeaa.tape g (r.drop 12) :: blk w.heap.size 104 #[.int .u16 0, .int .u64 0, .int .u16 0, .string eStr, .int .u32 0, .int .u32 0, .int .u32 0] :: L) := HS6.sel 5 [3, 0, 1, 4]
  have s4 := HS7.blk_at 4 rfl
  have t4 := HS7.blk_frozen 4
  have s5 := HS7.blk_at 5 rfl
  have t5 := HS7.blk_frozen 5
  have s6 := HS7.blk_at 6 rfl
  have t6 := HS7.blk_frozen 6
  clear HS6
  go_upto_region 22 with (fail)
  have Z0 : Aside (w6.drew.cell? ⟨g6, 0, none⟩ = some (.int .u64 x0) ∧ w6.drew.cell? ⟨g6, 1, none⟩ = some (.int .u64 x1) ∧ w6.drew.cell? ⟨g6, 2, none⟩ = some (.int .u64 x2)) := ⟨(HS7.drew).up1.kcell (j := 0) (by simp) rfl, (HS7.drew).up1.kcell (j := 1) (by simp) rfl, (HS7.drew).up1.kcell (j := 2) (by simp) rfl⟩
  have Z1 : Aside ((((w6.setCell ⟨w4.heap.size, 4, none⟩ (.int .u32 x0)).setCell ⟨w4.heap.size, 5, none⟩ (.int .u32 x1)).setCell ⟨w4.heap.size, 6, none⟩ (.int .u32 x2)).drew.cell? ⟨g6, 0, none⟩ = some (.int .u64 x0) ∧ (((w6.setCell ⟨w4.heap.size, 4, none⟩ (.int .u32 x0)).setCell ⟨w4.heap.size, 5, none⟩ (.int .u32 x1)).setCell ⟨w4.heap.size, 6, none⟩ (.int .u32 x2)).drew.cell? ⟨g6, 1, none⟩ = some (.int .u64 x1) ∧ (((w6.setCell ⟨w4.heap.size, 4, none⟩ (.int .u32 x0)).setCell ⟨w4.heap.size, 5, none⟩ (.int .u32 x1)).setCell ⟨w4.heap.size, 6, none⟩ (.int .u32 x2)).drew.cell? ⟨g6, 2, none⟩ = some (.int .u64 x2)) := ⟨((((HS7.blk_set 4 (.int .u32 x0)).blk_set 5 (.int .u32 x1)).blk_set 6 (.int .u32 x2)).drew).up1.kcell (j := 0) (by simp) rfl, ((((HS7.blk_set 4 (.int .u32 x0)).blk_set 5 (.int .u32 x1)).blk_set 6 (.int .u32 x2)).drew).up1.kcell (j := 1) (by simp) rfl, ((((HS7.blk_set 4 (.int .u32 x0)).blk_set 5 (.int .u32 x1)).blk_set 6 (.int .u32 x2)).drew).up1.kcell (j := 2) (by simp) rfl⟩
  go_region_held_law (fun w' => w'.cell? ⟨g6, 0, none⟩ = some (.int .u64 x0) ∧ w'.cell? ⟨g6, 1, none⟩ = some (.int .u64 x1) ∧ w'.cell? ⟨g6, 2, none⟩ = some (.int .u64 x2)) (first | with_reducible exact Z0.out | with_reducible exact Z1.out) (fail)
  all_goals
    clear Z0 Z1 s4 t4 s5 t5 s6 t6
    have HS8 := (((HS7.blk_set 4 (.int .u32 x0)).blk_set 5 (.int .u32 x1)).blk_set 6 (.int .u32 x2)).drew
    first | (obtain ⟨w8, hw8, HS9'⟩ := HS8.someW'; rw [← hw8])
    have HS9 : Sep w0 w8 O (blk w4.heap.size 104 #[.int .u16 3, .int .u64 0, .int .u16 0, .string eStr, .int .u32 x0, .int .u32 x1, .int .u32 x2] :: Go.Proofs.Ytgepekailoopeaa.tape g (r.drop 12) :: blk w.heap.size 104 #[.int .u16 0, .int .u64 0, .int .u16 0, .string eStr, .int .u32 0, .int .u32 0, .int .u32 0] :: L) := HS9'.sel 4 [0, 2, 3]
    clear hw8 HS7 HS8 HS9'
    go_wp2_with fail
    refine (len_calls HS9.up1).mono ?_
    rintro e w9 ⟨rfl, rfl⟩
    rw [HLN.out]
    have HB2 := HS9.up2
    have cz0 := HB2.blk_at 0 rfl
    have fz0 := HB2.blk_frozen 0
    have cz1 := HB2.blk_at 1 rfl
    have fz1 := HB2.blk_frozen 1
    have cz2 := HB2.blk_at 2 rfl
    have fz2 := HB2.blk_frozen 2
    have cz3 := HB2.blk_at 3 rfl
    have fz3 := HB2.blk_frozen 3
    have cz4 := HB2.blk_at 4 rfl
    have fz4 := HB2.blk_frozen 4
    have cz5 := HB2.blk_at 5 rfl
    have fz5 := HB2.blk_frozen 5
    have cz6 := HB2.blk_at 6 rfl
    have fz6 := HB2.blk_frozen 6
    have u0 := HS9.blk_at 0 rfl
    have u1 := HS9.blk_at 1 rfl
    have u2 := HS9.blk_at 2 rfl
    have u3 := HS9.blk_at 3 rfl
    have u4 := HS9.blk_at 4 rfl
    have u5 := HS9.blk_at 5 rfl
    have u6 := HS9.blk_at 6 rfl
    have HR := HB2.blk_set7 (.int .u16 3) (.int .u64 0) (.int .u16 0) (.string eStr) (.int .u32 x0) (.int .u32 x1) (.int .u32 x2)
    go_wp2
    (try simp only [Exit.inBlock, Exit.then])
    refine bodyPost_ret (results_rowa rfl _ _ _ _ _ _ _ rfl HR.blk_heap Try.underlying104 rfl info_hinfo) rfl ?_
    rw [HQ.out]
    exact ⟨rfl, HR.sel 3 []⟩

set_option maxHeartbeats 8000000 in
set_option maxRecDepth 100000 in
theorem ti1_long {A : Option Addr} {n c : Nat} {d : List Int} (HS : Sep w0 w O L) (hr : Rb w0 O L 1 A n (by8 d)) (hb : Byt d) (hl : n ≤ 140737488355328) (hk : fN d 0 2 = 1) (h2 : 18 < d.length) :
    Calls Try.prog 51 #[.slice A n c] w (TiOut w0 O zIf 3 L) := by
  have hn := hr.klen HS
  have HN := hid hn
  have HB := hid hb
  have HSa := HS.alloc #[.int .u16 0, .int .u64 0, .int .u16 0, .string eStr, .int .u32 0, .int .u32 0, .int .u32 0] 104
  obtain ⟨Q, hQ⟩ : ∃ Q : Ending → World → Prop, Q = TiOut w0 O zIf 3 L := ⟨_, rfl⟩
  have HQ := hid hQ
  rw [← hQ]
  clear hQ
  have e1 := numL_ok (b := true) (l := d) (ss := [2]) (by decide) (by show 2 ≤ d.length; omega)
  rw [show [2].map Int.ofNat = [2] from rfl, show cut d [2] = [fN d 0 2] by simp [cut, fN], hk, show tot [2] = 2 from rfl, if_pos rfl] at e1
  have E1 := hid e1
  have hbr : Byt (d.drop 2) := hb.drop 2
  have HBR := hid hbr
  have hrl : (d.drop 2).length = d.length - 2 := by rw [List.length_drop]
  obtain ⟨r, hrr⟩ : ∃ r, r = d.drop 2 := ⟨_, rfl⟩
  rw [← hrr] at e1 E1 HBR hrl
  obtain ⟨m, hm⟩ : ∃ m, m = r.length := ⟨_, rfl⟩
  have HLN : Aside (r.length = m) := ⟨hm.symm⟩
  have k1 : (16 : Int) < m := by omega
  clear e1 hn hb hbr hrl hrr hk h2 hm
  go_enter Try.func51, Try.ntmps51
  go_wp2_with fail
  refine (new_calls HSa).mono ?_
  rintro e w1 ⟨g, rfl, HS1⟩
  go_wp2_with fail
  refine (push_calls (m := d) HS1 hr.cons (by have := HN.out; simp only [List.length_nil]; omega)).mono ?_
  rintro e w2 ⟨rfl, HS2⟩
  rw [List.nil_append] at HS2
  have HL : Sep w0 _ O (Go.Proofs.Ytgepekailoopeaa.tape g d :: own 3 1 (some ⟨w2.heap.size, 0, none⟩) 1 1 (iv [2]) :: blk w.heap.size 104 #[.int .u16 0, .int .u64 0, .int .u16 0, .string eStr, .int .u32 0, .int .u32 0, .int .u32 0] :: L) := (HS2.lit #[.int .i64 2] 3 1 1 rfl (by decide)).sel 3 [1, 0, 2]
  clear HSa HS1 HS2
  go_wp2_with fail
  refine (numbers_any (zs := [2]) HL Rb.i0 (by decide) HB.out (by have := HN.out; omega)).mono ?_
  rintro e w4 ⟨A4, c4, rfl, HS4⟩
  rw [E1.out] at HS4 ⊢
  dsimp only at HS4 ⊢
  rw [show ([(1 : Int)] : List Int).length = 1 from rfl] at HS4 ⊢
  obtain ⟨g1, rfl⟩ := HS4.own_some (by decide)
  have hc : w4.cell? ⟨g1, 0, none⟩ = some (.int .u64 1) := HS4.kcell (j := 0) (by simp) rfl
  have HS5 : Sep w0 _ O (blk w4.heap.size 104 #[.int .u16 1, .int .u64 0, .int .u16 0, .string eStr, .int .u32 0, .int .u32 0, .int .u32 0] :: Go.Proofs.Ytgepekailoopeaa.tape g r :: blk w.heap.size 104 #[.int .u16 0, .int .u64 0, .int .u16 0, .string eStr, .int .u32 0, .int .u32 0, .int .u32 0] :: L) := (HS4.alloc #[.int .u16 1, .int .u64 0, .int .u16 0, .string eStr, .int .u32 0, .int .u32 0, .int .u32 0] 104).sel 5 [0, 2, 4]
  clear HS4 HL
  go_wp2_with fail
  refine (len_calls HS5.up1).mono ?_
  rintro e w6 ⟨rfl, rfl⟩
  rw [HLN.out]
  have HB2 := HS5.up2
  have cz0 := HB2.blk_at 0 rfl
  have fz0 := HB2.blk_frozen 0
  have cz1 := HB2.blk_at 1 rfl
  have fz1 := HB2.blk_frozen 1
  have cz2 := HB2.blk_at 2 rfl
  have fz2 := HB2.blk_frozen 2
  have cz3 := HB2.blk_at 3 rfl
  have fz3 := HB2.blk_frozen 3
  have cz4 := HB2.blk_at 4 rfl
  have fz4 := HB2.blk_frozen 4
  have cz5 := HB2.blk_at 5 rfl
  have fz5 := HB2.blk_frozen 5
  have cz6 := HB2.blk_at 6 rfl
  have fz6 := HB2.blk_frozen 6
  have HR := HB2.blk_set7 (.int .u16 0) (.int .u64 0) (.int .u16 0) (.string eStr) (.int .u32 0) (.int .u32 0) (.int .u32 0)
  go_wp2
  (try simp only [Exit.inBlock, Exit.then])
  refine bodyPost_ret (results_rowa rfl _ _ _ _ _ _ _ rfl HR.blk_heap Try.underlying104 rfl info_hinfo) rfl ?_
  rw [HQ.out]
  exact ⟨rfl, HR.sel 3 []⟩

set_option maxHeartbeats 8000000 in
set_option maxRecDepth 100000 in
theorem ti1_ok {A : Option Addr} {n c : Nat} {d : List Int} (HS : Sep w0 w O L) (hr : Rb w0 O L 1 A n (by8 d)) (hb : Byt d) (hl : n ≤ 140737488355328) (hk : fN d 0 2 = 1) (h : 2 ≤ d.length) (h2 : ¬ 18 < d.length) :
    Calls Try.prog 51 #[.slice A n c] w (TiOut w0 O ⟨1, 0, 0, strOfNums (d.drop 2), 0, 0, 0⟩ 0 L) := by
  have hn := hr.klen HS
  have HN := hid hn
  have HB := hid hb
  have HSa := HS.alloc #[.int .u16 0, .int .u64 0, .int .u16 0, .string eStr, .int .u32 0, .int .u32 0, .int .u32 0] 104
  obtain ⟨Q, hQ⟩ : ∃ Q : Ending → World → Prop, Q = TiOut w0 O ⟨1, 0, 0, strOfNums (d.drop 2), 0, 0, 0⟩ 0 L := ⟨_, rfl⟩
  have HQ := hid hQ
  rw [← hQ]
  clear hQ
  have e1 := numL_ok (b := true) (l := d) (ss := [2]) (by decide) (by show 2 ≤ d.length; omega)
  rw [show [2].map Int.ofNat = [2] from rfl, show cut d [2] = [fN d 0 2] by simp [cut, fN], hk, show tot [2] = 2 from rfl, if_pos rfl] at e1
  have E1 := hid e1
  have hbr : Byt (d.drop 2) := hb.drop 2
  have HBR := hid hbr
  have hrl : (d.drop 2).length = d.length - 2 := by rw [List.length_drop]
  obtain ⟨r, hrr⟩ : ∃ r, r = d.drop 2 := ⟨_, rfl⟩
  rw [← hrr] at e1 E1 HBR hrl HQ
  obtain ⟨m, hm⟩ : ∃ m, m = r.length := ⟨_, rfl⟩
  have HLN : Aside (r.length = m) := ⟨hm.symm⟩
  have HM9 : Aside (r.length ≤ 140737488355328) := ⟨by omega⟩
  have k1 : ¬ (16 : Int) < m := by omega
  have hak : askL true r (m : Int) = ⟨true, r, []⟩ := by
    unfold askL
    rw [if_pos (by omega), Int.toNat_natCast, List.take_of_length_le (by omega), if_pos rfl, List.drop_of_length_le (by omega)]
  have HK := hid hak
  obtain ⟨s, hs⟩ : ∃ s, s = strOfNums r := ⟨_, rfl⟩
  rw [← hs] at HQ
  have HSS := hid hs
  clear e1 hn hb hbr hrl hrr hk h h2 hm hak hs
  go_enter Try.func51, Try.ntmps51
  go_wp2_with fail
  refine (new_calls HSa).mono ?_
  rintro e w1 ⟨g, rfl, HS1⟩
  go_wp2_with fail
  refine (push_calls (m := d) HS1 hr.cons (by have := HN.out; simp only [List.length_nil]; omega)).mono ?_
  rintro e w2 ⟨rfl, HS2⟩
  rw [List.nil_append] at HS2
  have HL : Sep w0 _ O (Go.Proofs.Ytgepekailoopeaa.tape g d :: own 3 1 (some ⟨w2.heap.size, 0, none⟩) 1 1 (iv [2]) :: blk w.heap.size 104 #[.int .u16 0, .int .u64 0, .int .u16 0, .string eStr, .int .u32 0, .int .u32 0, .int .u32 0] :: L) := (HS2.lit #[.int .i64 2] 3 1 1 rfl (by decide)).sel 3 [1, 0, 2]
  clear HSa HS1 HS2
  go_wp2_with fail
  refine (numbers_any (zs := [2]) HL Rb.i0 (by decide) HB.out (by have := HN.out; omega)).mono ?_
  rintro e w4 ⟨A4, c4, rfl, HS4⟩
  rw [E1.out] at HS4 ⊢
  dsimp only at HS4 ⊢
  rw [show ([(1 : Int)] : List Int).length = 1 from rfl] at HS4 ⊢
  obtain ⟨g1, rfl⟩ := HS4.own_some (by decide)
  have hc : w4.cell? ⟨g1, 0, none⟩ = some (.int .u64 1) := HS4.kcell (j := 0) (by simp) rfl
  have HS5 : Sep w0 _ O (blk w4.heap.size 104 #[.int .u16 1, .int .u64 0, .int .u16 0, .string eStr, .int .u32 0, .int .u32 0, .int .u32 0] :: Go.Proofs.Ytgepekailoopeaa.tape g r :: blk w.heap.size 104 #[.int .u16 0, .int .u64 0, .int .u16 0, .string eStr, .int .u32 0, .int .u32 0, .int .u32 0] :: L) := (HS4.alloc #[.int .u16 1, .int .u64 0, .int .u16 0, .string eStr, .int .u32 0, .int .u32 0, .int .u32 0] 104).sel 5 [0, 2, 4]
  clear HS4 HL
  go_wp2_with fail
  refine (len_calls HS5.up1).mono ?_
  rintro e w6 ⟨rfl, rfl⟩
  rw [HLN.out]
  go_wp2_with fail
  refine (len_calls HS5.up1).mono ?_
  rintro e w6 ⟨rfl, rfl⟩
  rw [HLN.out]
  go_wp2_with fail
  refine (take_any (m := (m : Int)) HS5.up1 HM9.out).mono ?_
  rintro e w7 ⟨A7, c7, rfl, HS7⟩
  rw [HK.out] at HS7 ⊢
  dsimp only at HS7 ⊢
  rw [HLN.out] at HS7 ⊢
  have hcv := run_str (P := Try.prog) (c := c7) (Rb.i0.read HS7) 23 9 5 Try.underlying23 Try.underlying5 Try.underlying9
  rw [← HSS.out] at hcv
  have s3 := HS7.up2.blk_at 3 rfl
  have t3 := HS7.up2.blk_frozen 3
  have HS8 := HS7.up2.blk_set 3 (.string s)
  clear hc HS5
  go_wp2_with fail
  refine (len_calls HS8.up2).mono ?_
  rintro e w9 ⟨rfl, rfl⟩
  have HB2 := HS8.up3
  have cz0 := HB2.blk_at 0 rfl
  have fz0 := HB2.blk_frozen 0
  have cz1 := HB2.blk_at 1 rfl
  have fz1 := HB2.blk_frozen 1
  have cz2 := HB2.blk_at 2 rfl
  have fz2 := HB2.blk_frozen 2
  have cz3 := HB2.blk_at 3 rfl
  have fz3 := HB2.blk_frozen 3
  have cz4 := HB2.blk_at 4 rfl
  have fz4 := HB2.blk_frozen 4
  have cz5 := HB2.blk_at 5 rfl
  have fz5 := HB2.blk_frozen 5
  have cz6 := HB2.blk_at 6 rfl
  have fz6 := HB2.blk_frozen 6
  have u0 := HS8.blk_at 0 rfl
  have u1 := HS8.blk_at 1 rfl
  have u2 := HS8.blk_at 2 rfl
  have u3 := HS8.blk_at 3 rfl
  have u4 := HS8.blk_at 4 rfl
  have u5 := HS8.blk_at 5 rfl
  have u6 := HS8.blk_at 6 rfl
  have HR := HB2.blk_set7 (.int .u16 1) (.int .u64 0) (.int .u16 0) (.string s) (.int .u32 0) (.int .u32 0) (.int .u32 0)
  go_wp2
  (try simp only [Exit.inBlock, Exit.then])
  refine bodyPost_ret (results_rowa rfl _ _ _ _ _ _ _ rfl HR.blk_heap Try.underlying104 rfl info_hinfo) rfl ?_
  rw [HQ.out]
  exact ⟨rfl, HR.sel 4 []⟩

set_option maxHeartbeats 8000000 in
set_option maxRecDepth 100000 in
theorem ti_none {A : Option Addr} {n c : Nat} {d : List Int} (HS : Sep w0 w O L) (hr : Rb w0 O L 1 A n (by8 d)) (hb : Byt d) (hl : n ≤ 140737488355328) {k : Int} (hk : fN d 0 2 = k) (h : 2 ≤ d.length) (h0 : k ≠ 0) (h1 : k ≠ 1) (h3 : k ≠ 3) :
    Calls Try.prog 51 #[.slice A n c] w (TiOut w0 O zIf 6 L) := by
  have hn := hr.klen HS
  have HN := hid hn
  have HB := hid hb
  have HSa := HS.alloc #[.int .u16 0, .int .u64 0, .int .u16 0, .string eStr, .int .u32 0, .int .u32 0, .int .u32 0] 104
  obtain ⟨Q, hQ⟩ : ∃ Q : Ending → World → Prop, Q = TiOut w0 O zIf 6 L := ⟨_, rfl⟩
  have HQ := hid hQ
  rw [← hQ]
  clear hQ
  have bk := fN_bd hb 0 2
  simp only [show (256 : Int) ^ 2 = 65536 from rfl] at bk
  rw [hk] at bk
  have y1 : IntKind.u16.wrap k = k := by rw [IntKind.wrap_u16]; omega
  have d0 : (k == 0) = false := by simpa using h0
  have d1 : (k == 1) = false := by simpa using h1
  have d3 : (k == 3) = false := by simpa using h3
  have e1 := numL_ok (b := true) (l := d) (ss := [2]) (by decide) (by show 2 ≤ d.length; omega)
  rw [show [2].map Int.ofNat = [2] from rfl, show cut d [2] = [fN d 0 2] by simp [cut, fN], hk, show tot [2] = 2 from rfl, if_pos rfl] at e1
  have E1 := hid e1
  have hbr : Byt (d.drop 2) := hb.drop 2
  have HBR := hid hbr
  have hrl : (d.drop 2).length = d.length - 2 := by rw [List.length_drop]
  obtain ⟨r, hrr⟩ : ∃ r, r = d.drop 2 := ⟨_, rfl⟩
  rw [← hrr] at e1 E1 HBR hrl
  clear e1 hn hb hbr hrl hrr hk h bk h0 h1 h3
  go_enter Try.func51, Try.ntmps51
  go_wp2_with fail
  refine (new_calls HSa).mono ?_
  rintro e w1 ⟨g, rfl, HS1⟩
  go_wp2_with fail
  refine (push_calls (m := d) HS1 hr.cons (by have := HN.out; simp only [List.length_nil]; omega)).mono ?_
  rintro e w2 ⟨rfl, HS2⟩
  rw [List.nil_append] at HS2
  have HL : Sep w0 _ O (Go.Proofs.Ytgepekailoopeaa.tape g d :: own 3 1 (some ⟨w2.heap.size, 0, none⟩) 1 1 (iv [2]) :: blk w.heap.size 104 #[.int .u16 0, .int .u64 0, .int .u16 0, .string eStr, .int .u32 0, .int .u32 0, .int .u32 0] :: L) := (HS2.lit #[.int .i64 2] 3 1 1 rfl (by decide)).sel 3 [1, 0, 2]
  clear HSa HS1 HS2
  go_wp2_with fail
  refine (numbers_any (zs := [2]) HL Rb.i0 (by decide) HB.out (by have := HN.out; omega)).mono ?_
  rintro e w4 ⟨A4, c4, rfl, HS4⟩
  rw [E1.out] at HS4 ⊢
  dsimp only at HS4 ⊢
  rw [show ([(k : Int)] : List Int).length = 1 from rfl] at HS4 ⊢
  obtain ⟨g1, rfl⟩ := HS4.own_some (by decide)
  have hc : w4.cell? ⟨g1, 0, none⟩ = some (.int .u64 k) := HS4.kcell (j := 0) (by simp) rfl
  have HS5 : Sep w0 _ O (blk w4.heap.size 104 #[.int .u16 k, .int .u64 0, .int .u16 0, .string eStr, .int .u32 0, .int .u32 0, .int .u32 0] :: Go.Proofs.Ytgepekailoopeaa.tape g r :: blk w.heap.size 104 #[.int .u16 0, .int .u64 0, .int .u16 0, .string eStr, .int .u32 0, .int .u32 0, .int .u32 0] :: L) := (HS4.alloc #[.int .u16 k, .int .u64 0, .int .u16 0, .string eStr, .int .u32 0, .int .u32 0, .int .u32 0] 104).sel 5 [0, 2, 4]
  clear HS4 HL
  have HB2 := HS5.up2
  have cz0 := HB2.blk_at 0 rfl
  have fz0 := HB2.blk_frozen 0
  have cz1 := HB2.blk_at 1 rfl
  have fz1 := HB2.blk_frozen 1
  have cz2 := HB2.blk_at 2 rfl
  have fz2 := HB2.blk_frozen 2
  have cz3 := HB2.blk_at 3 rfl
  have fz3 := HB2.blk_frozen 3
  have cz4 := HB2.blk_at 4 rfl
  have fz4 := HB2.blk_frozen 4
  have cz5 := HB2.blk_at 5 rfl
  have fz5 := HB2.blk_frozen 5
  have cz6 := HB2.blk_at 6 rfl
  have fz6 := HB2.blk_frozen 6
  have HR := HB2.blk_set7 (.int .u16 0) (.int .u64 0) (.int .u16 0) (.string eStr) (.int .u32 0) (.int .u32 0) (.int .u32 0)
  go_wp2
  (try simp only [Exit.inBlock, Exit.then])
  refine bodyPost_ret (results_rowa rfl _ _ _ _ _ _ _ rfl HR.blk_heap Try.underlying104 rfl info_hinfo) rfl ?_
  rw [HQ.out]
  exact ⟨rfl, HR.sel 3 []⟩

theorem takeinfo_calls {A : Option Addr} {n c : Nat} {d : List Int} (HS : Sep w0 w O L) (hr : Rb w0 O L 1 A n (by8 d)) (hb : Byt d) (hl : n ≤ 140737488355328) :
    Calls Try.prog 51 #[.slice A n c] w (TiOut w0 O (tiI d) (tiE d) L) := by
  by_cases h2 : d.length < 2
  · have e : tiE d = 5 := by unfold tiE; rw [if_pos h2]
    rw [show tiI d = zIf from by unfold tiI; rw [e, if_pos (by decide)], e]
    exact ti_short HS hr hb hl h2
  by_cases k0 : fN d 0 2 = 0
  · by_cases h : d.length = 12
    · have e : tiE d = 0 := by unfold tiE; rw [if_neg h2, if_pos k0, if_pos h]
      rw [show tiI d = ⟨0, fN d 2 8, fN d 10 2, eStr, 0, 0, 0⟩ from by unfold tiI; rw [e, if_neg (by decide), if_pos k0], e]
      exact ti0_ok HS hr hb hl k0 h
    · have e : tiE d = 5 := by unfold tiE; rw [if_neg h2, if_pos k0, if_neg h]
      rw [show tiI d = zIf from by unfold tiI; rw [e, if_pos (by decide)], e]
      by_cases h3 : d.length < 12
      · exact ti0_less HS hr hb hl (by omega) k0 h3
      · exact ti0_more HS hr hb hl k0 (by omega)
  by_cases k1 : fN d 0 2 = 1
  · by_cases h : 18 < d.length
    · have e : tiE d = 3 := by unfold tiE; rw [if_neg h2, if_neg k0, if_pos k1, if_pos h]
      rw [show tiI d = zIf from by unfold tiI; rw [e, if_pos (by decide)], e]
      exact ti1_long HS hr hb hl k1 h
    · have e : tiE d = 0 := by unfold tiE; rw [if_neg h2, if_neg k0, if_pos k1, if_neg h]
      rw [show tiI d = ⟨1, 0, 0, strOfNums (d.drop 2), 0, 0, 0⟩ from by unfold tiI; rw [e, if_neg (by decide), if_neg k0, if_pos k1], e]
      exact ti1_ok HS hr hb hl k1 (by omega) h
  by_cases k3 : fN d 0 2 = 3
  · by_cases h : d.length = 14
    · have e : tiE d = 0 := by unfold tiE; rw [if_neg h2, if_neg k0, if_neg k1, if_pos k3, if_pos h]
      rw [show tiI d = ⟨3, 0, 0, eStr, fN d 2 4, fN d 6 4, fN d 10 4⟩ from by unfold tiI; rw [e, if_neg (by decide), if_neg k0, if_neg k1], e]
      exact ti3_ok HS hr hb hl k3 h
    · have e : tiE d = 5 := by unfold tiE; rw [if_neg h2, if_neg k0, if_neg k1, if_pos k3, if_neg h]
      rw [show tiI d = zIf from by unfold tiI; rw [e, if_pos (by decide)], e]
      by_cases h3 : d.length < 14
      · exact ti3_less HS hr hb hl (by omega) k3 h3
      · exact ti3_more HS hr hb hl k3 (by omega)
  · have e : tiE d = 6 := by unfold tiE; rw [if_neg h2, if_neg k0, if_neg k1, if_neg k3]
    rw [show tiI d = zIf from by unfold tiI; rw [e, if_pos (by decide)], e]
    exact ti_none HS hr hb hl rfl (by omega) k0 k1 k3
end
end Go.Proofs.Ytgepekailoopeaa
