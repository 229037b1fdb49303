/-
  The walk of HelloBack.
-/
import Derived.Test.YtgepekailoopeaaLaw22
import Derived.Test.YtgepekailoopeaaSees22
import Derived.Test.YtgepekailoopeaaHelLaw
import Derived.Test.YtgepekailoopeaaRefRdA
namespace Go.Proofs.Ytgepekailoopeaa
open Go.RowKit
set_option linter.unusedVariables false
set_option linter.unusedSimpArgs false
section
variable {w0 : World} {O : Nat → Prop} {L : List Asr} {e : TypeId} {size : Nat} {A : Option Addr} {n c : Nat} {xs : List Value}
theorem Rb.roAt (k : Nat) (h : L[k]? = some (Go.Proofs.Ytgepekailoopeaa.ro size A n xs)) : Rb w0 O L size A n xs := .ro (List.mem_of_getElem? h)
theorem Rb.ownAt (k : Nat) (h : L[k]? = some (Go.Proofs.Ytgepekailoopeaa.own e size A n c xs)) : Rb w0 O L size A n xs := .own (List.mem_of_getElem? h)
end
/-- the parts of the premises -/
structure Hb (w : World) (op : Int) (nm : ByteArray) (A0 : Option Addr) (n c0 : Nat) (inf : List Int) (rop : Int) (A1 : Option Addr) (m c1 : Nat) (d : List Int) : Prop where
  hn : inf.length = n
  hm : d.length = m
  n9 : n ≤ 70368744175616
  m9 : m ≤ 140737488351232
  r0 : ∀ L, Rb w (fun _ => False) L 1 A0 n (kv .u16 inf)
  r1 : ∀ L, Rb w (fun _ => False) L 1 A1 m (by8 d)
  b0 : ∀ x ∈ inf, 0 ≤ x ∧ x < 65536
  b1 : Byt d

set_option maxHeartbeats 8000000 in
set_option maxRecDepth 100000 in
theorem hback_ya {w : World} {op : Int} {nm : ByteArray} {A0 : Option Addr} {n c0 : Nat} {inf : List Int} {rop : Int} {A1 : Option Addr} {m c1 : Nat} {d : List Int} (HB : Hb w op nm A0 n c0 inf rop A1 m c1 d) (h1 : (writeR op nm inf).E = 0) (h2 : (readW rop d).E ≠ 0) :
    Calls Try.prog 8 #[.agg #[.int .u32 op, .string nm, .slice A0 n c0], .agg #[.int .u32 rop, .slice A1 m c1]] w fun e w' => e = .returned (.bool true) ∧ Below w.heap.size w w' := by
  obtain ⟨W, hW⟩ : ∃ W, W = readW rop d := ⟨_, rfl⟩
  rw [← hW] at h2
  obtain ⟨wE, wop, wnm, winf⟩ := W
  dsimp only at h2
  have P3 : ∀ {w' : World} {L' : List Asr}, Sep w w' (fun _ => False) L' → Calls Try.prog 46 #[.agg #[.int .u32 rop, .slice A1 m c1]] w' (WiOut w (fun _ => False) 71 ⟨wE, wop, wnm, winf⟩ L') := by rw [hW]; exact fun H => read_calls H (HB.r1 _) HB.b1 (by have := HB.m9; omega)
  have hrn := read_none' (op := rop) (d := d) (by rw [← hW]; exact h2)
  rw [← hW] at hrn
  obtain ⟨k1, k2, k3⟩ := hrn
  dsimp only at k1 k2 k3
  subst k1
  subst k2
  subst k3
  have e2 : (wE != 0) = true := by simpa using h2
  have HP3 := hid @P3
  clear P3 hW h2
  obtain ⟨R, hR⟩ : ∃ R, R = writeR op nm inf := ⟨_, rfl⟩
  rw [← hR] at h1
  obtain ⟨rE, rop', rd⟩ := R
  have P1 : ∀ {w' : World} {L' : List Asr}, Sep w w' (fun _ => False) L' → Calls Try.prog 44 #[.agg #[.int .u32 op, .string nm, .slice A0 n c0]] w' (RoOut w (fun _ => False) ⟨rE, rop', rd⟩ L') := by rw [hR]; exact fun H => hwrite_calls H (HB.r0 _) HB.b0 (by have := HB.n9; omega)
  have HP1 := hid @P1
  clear P1
  dsimp only at h1
  have hrw := read_write (op := op) (nm := nm) (inf := inf) HB.b0 (by rw [← hR]; exact h1)
  rw [← hR] at hrw
  obtain ⟨g1, g2, g3, g4⟩ := hrw
  dsimp only at g1 g2 g3 g4
  subst g1
  subst h1
  have P2 : ∀ {w' : World} {L' : List Asr} {A : Option Addr} {c : Nat}, Sep w w' (fun _ => False) L' → Rb w (fun _ => False) L' 1 A rd.length (by8 rd) → Calls Try.prog 46 #[.agg #[.int .u32 rop', .slice A rd.length c]] w' (WiOut w (fun _ => False) 71 ⟨0, rop', nm, inf⟩ L') := by rw [← g2]; exact fun H q => read_calls H q g4 (by omega)
  have HP2 := hid @P2
  clear P2 g2 g3 g4 hR
  have HNN := hid HB.hn
  have HSa := ((Sep.start w).alloc #[.int .u32 rop', .string nm, .slice A0 n c0] 66).allocB #[.int .u32 rop, .slice A1 m c1] 31 (B := w.heap.size + 1) (by simp)
  go_enter Try.func8, Try.ntmps8
  go_wp2_with fail
  refine (HP1.out HSa).mono ?_
  rintro e w4 ⟨A4, c4, rfl, hc4, HS4⟩
  clear HSa
  have HS4a := HS4.alloc #[.int .u32 rop', .slice A4 rd.length c4] 31
  go_wp2_with fail
  refine (HP2.out HS4a (Rb.roAt 1 rfl)).mono ?_
  rintro e w5 ⟨A5, c5, rfl, HS5⟩
  dsimp only at HS5 ⊢
  rw [HNN.out] at HS5 ⊢
  have HS5a := HS5.alloc #[.int .u32 rop', .string nm, .slice A5 n c5] 66
  have a0 := (HS5a.sel 6 [5]).blk_at 0 rfl
  have a1 := (HS5a.sel 6 [5]).blk_at 1 rfl
  have a2 := (HS5a.sel 6 [5]).blk_at 2 rfl
  clear HS4 HS4a HS5
  go_wp2_with fail
  clear a0 a1 a2
  generalize w5.alloc (Obj.cells #[.int .u32 rop', .string nm, .slice A5 n c5] 66) = w6 at *
  have HX : Sep w w6 (fun _ => False) (blk w5.heap.size 66 #[.int .u32 rop', .string nm, .slice A5 n c5] :: own 71 1 A5 n c5 (kv .u16 inf) :: blk (w.heap.size + 1) 31 #[.int .u32 rop, .slice A1 m c1] :: blk w.heap.size 66 #[.int .u32 rop', .string nm, .slice A0 n c0] :: []) := HS5a.sel 6 [0, 1, 4, 5]
  clear HS5a
  have hn9 := HB.n9
  go_loopw [9] (fun i wr => ∃ k : Nat, k ≤ n ∧ i = .int .i64 k ∧ Sep w wr (fun _ => False) (blk w5.heap.size 66 #[.int .u32 rop', .string nm, .slice A5 n c5] :: own 71 1 A5 n c5 (kv .u16 inf) :: blk (w.heap.size + 1) 31 #[.int .u32 rop, .slice A1 m c1] :: blk w.heap.size 66 #[.int .u32 rop', .string nm, .slice A0 n c0] :: [])) (fun i _ => n - (intOf i).toNat)
  case atStart => exact ⟨0, Nat.zero_le _, rfl, HX⟩
  case round =>
    obtain ⟨k, hk, rfl, HSk⟩ := hrel
    clear HX
    have a2 := HSk.up3.blk_at 2 rfl
    by_cases hlt : k < n
    · obtain ⟨ad, y, rfl, hy, hm, hcell⟩ := (Rb.i1 (w0 := w) (O := fun _ => False)).elemn HSk (j := k) hlt
      obtain ⟨bd, y', rfl, hy', hm', hcell'⟩ := (HB.r0 _).elemn HSk (j := k) hlt
      obtain rfl : y = y' := by rw [hy] at hy'; injection hy'
      clear hy hy' hm hm'
      have b2 := HSk.blk_at 2 rfl
      have hj : (k : Int) < n := by omega
      have j0 : (0 : Int) ≤ k := by omega
      go_upto_region 9 with (fail)
      go_quiet (fail)
      have HS9 := HSk.drewN nq
      clear HSk
      go_wp2
      go_roundw
      case rel => exact ⟨k + 1, by omega, by go_num, HS9⟩
      case measure => simp [intOf]; omega
    · obtain rfl : n = k := by omega
      have hj : ¬ (n : Int) < n := by omega
      have HZ := HSk.sel 4 [2]
      clear HSk
      have p0 := HZ.blk_at 0 rfl
      have p1 := HZ.blk_at 1 rfl
      go_wp2_with fail
      refine (HP3.out HZ).mono ?_
      rintro e w16 ⟨A16, c16, rfl, HS16⟩
      dsimp only at HS16 ⊢
      have HS16a := HS16.alloc #[.int .u32 0, .string eStr, .slice A16 0 c16] 66
      clear p0 p1 HZ HS16
      go_wp2_with fail
      refine (wakes_calls HS16a).mono ?_
      rintro e w17 ⟨rfl, HS17⟩
      go_wp2
      go_ret
      exact ⟨rfl, HS17.below⟩

set_option maxHeartbeats 8000000 in
set_option maxRecDepth 100000 in
theorem hback_yb {w : World} {op : Int} {nm : ByteArray} {A0 : Option Addr} {n c0 : Nat} {inf : List Int} {rop : Int} {A1 : Option Addr} {m c1 : Nat} {d : List Int} (HB : Hb w op nm A0 n c0 inf rop A1 m c1 d) (h1 : (writeR op nm inf).E = 0) (h2 : (readW rop d).E = 0) (h3 : 256 < m) :
    Calls Try.prog 8 #[.agg #[.int .u32 op, .string nm, .slice A0 n c0], .agg #[.int .u32 rop, .slice A1 m c1]] w fun e w' => e = .returned (.bool true) ∧ Below w.heap.size w w' := by
  obtain ⟨W, hW⟩ : ∃ W, W = readW rop d := ⟨_, rfl⟩
  rw [← hW] at h2
  obtain ⟨wE, wop, wnm, winf⟩ := W
  dsimp only at h2
  have P3 : ∀ {w' : World} {L' : List Asr}, Sep w w' (fun _ => False) L' → Calls Try.prog 46 #[.agg #[.int .u32 rop, .slice A1 m c1]] w' (WiOut w (fun _ => False) 71 ⟨wE, wop, wnm, winf⟩ L') := by rw [hW]; exact fun H => read_calls H (HB.r1 _) HB.b1 (by have := HB.m9; omega)
  have hwr := write_read (op := rop) (d := d) HB.b1 (by rw [← hW]; exact h2)
  rw [← hW] at hwr
  obtain ⟨k1, k2, k3, k4⟩ := hwr
  dsimp only at k1 k2 k3 k4
  subst h2
  have HP3 := hid @P3
  clear P3 hW
  obtain ⟨Z, hZ⟩ : ∃ Z, Z = writeR wop wnm winf := ⟨_, rfl⟩
  rw [← hZ] at k3 k4
  have P4 : ∀ {w' : World} {L' : List Asr} {A : Option Addr} {c : Nat}, Sep w w' (fun _ => False) L' → Rb w (fun _ => False) L' 1 A winf.length (kv .u16 winf) → Calls Try.prog 44 #[.agg #[.int .u32 wop, .string wnm, .slice A winf.length c]] w' (RoOut w (fun _ => False) Z L') := by rw [hZ]; exact fun H q => hwrite_calls H q k1 (by omega)
  obtain ⟨zE, zop, zd⟩ := Z
  have hz := k3 (by rw [HB.hm]; exact h3)
  dsimp only at hz
  subst hz
  have HP4 := hid @P4
  clear P4 hZ k1 k2 k3 k4
  have g9 : 256 < (m : Int) := by omega
  clear h3
  obtain ⟨R, hR⟩ : ∃ R, R = writeR op nm inf := ⟨_, rfl⟩
  rw [← hR] at h1
  obtain ⟨rE, rop', rd⟩ := R
  have P1 : ∀ {w' : World} {L' : List Asr}, Sep w w' (fun _ => False) L' → Calls Try.prog 44 #[.agg #[.int .u32 op, .string nm, .slice A0 n c0]] w' (RoOut w (fun _ => False) ⟨rE, rop', rd⟩ L') := by rw [hR]; exact fun H => hwrite_calls H (HB.r0 _) HB.b0 (by have := HB.n9; omega)
  have HP1 := hid @P1
  clear P1
  dsimp only at h1
  have hrw := read_write (op := op) (nm := nm) (inf := inf) HB.b0 (by rw [← hR]; exact h1)
  rw [← hR] at hrw
  obtain ⟨g1, g2, g3, g4⟩ := hrw
  dsimp only at g1 g2 g3 g4
  subst g1
  subst h1
  have P2 : ∀ {w' : World} {L' : List Asr} {A : Option Addr} {c : Nat}, Sep w w' (fun _ => False) L' → Rb w (fun _ => False) L' 1 A rd.length (by8 rd) → Calls Try.prog 46 #[.agg #[.int .u32 rop', .slice A rd.length c]] w' (WiOut w (fun _ => False) 71 ⟨0, rop', nm, inf⟩ L') := by rw [← g2]; exact fun H q => read_calls H q g4 (by omega)
  have HP2 := hid @P2
  clear P2 g2 g3 g4 hR
  have HNN := hid HB.hn
  have HSa := ((Sep.start w).alloc #[.int .u32 rop', .string nm, .slice A0 n c0] 66).allocB #[.int .u32 rop, .slice A1 m c1] 31 (B := w.heap.size + 1) (by simp)
  go_enter Try.func8, Try.ntmps8
  go_wp2_with fail
  refine (HP1.out HSa).mono ?_
  rintro e w4 ⟨A4, c4, rfl, hc4, HS4⟩
  clear HSa
  have HS4a := HS4.alloc #[.int .u32 rop', .slice A4 rd.length c4] 31
  go_wp2_with fail
  refine (HP2.out HS4a (Rb.roAt 1 rfl)).mono ?_
  rintro e w5 ⟨A5, c5, rfl, HS5⟩
  dsimp only at HS5 ⊢
  rw [HNN.out] at HS5 ⊢
  have HS5a := HS5.alloc #[.int .u32 rop', .string nm, .slice A5 n c5] 66
  have a0 := (HS5a.sel 6 [5]).blk_at 0 rfl
  have a1 := (HS5a.sel 6 [5]).blk_at 1 rfl
  have a2 := (HS5a.sel 6 [5]).blk_at 2 rfl
  clear HS4 HS4a HS5
  go_wp2_with fail
  clear a0 a1 a2
  generalize w5.alloc (Obj.cells #[.int .u32 rop', .string nm, .slice A5 n c5] 66) = w6 at *
  have HX : Sep w w6 (fun _ => False) (blk w5.heap.size 66 #[.int .u32 rop', .string nm, .slice A5 n c5] :: own 71 1 A5 n c5 (kv .u16 inf) :: blk (w.heap.size + 1) 31 #[.int .u32 rop, .slice A1 m c1] :: blk w.heap.size 66 #[.int .u32 rop', .string nm, .slice A0 n c0] :: []) := HS5a.sel 6 [0, 1, 4, 5]
  clear HS5a
  have hn9 := HB.n9
  go_loopw [9] (fun i wr => ∃ k : Nat, k ≤ n ∧ i = .int .i64 k ∧ Sep w wr (fun _ => False) (blk w5.heap.size 66 #[.int .u32 rop', .string nm, .slice A5 n c5] :: own 71 1 A5 n c5 (kv .u16 inf) :: blk (w.heap.size + 1) 31 #[.int .u32 rop, .slice A1 m c1] :: blk w.heap.size 66 #[.int .u32 rop', .string nm, .slice A0 n c0] :: [])) (fun i _ => n - (intOf i).toNat)
  case atStart => exact ⟨0, Nat.zero_le _, rfl, HX⟩
  case round =>
    obtain ⟨k, hk, rfl, HSk⟩ := hrel
    clear HX
    have a2 := HSk.up3.blk_at 2 rfl
    by_cases hlt : k < n
    · obtain ⟨ad, y, rfl, hy, hm, hcell⟩ := (Rb.i1 (w0 := w) (O := fun _ => False)).elemn HSk (j := k) hlt
      obtain ⟨bd, y', rfl, hy', hm', hcell'⟩ := (HB.r0 _).elemn HSk (j := k) hlt
      obtain rfl : y = y' := by rw [hy] at hy'; injection hy'
      clear hy hy' hm hm'
      have b2 := HSk.blk_at 2 rfl
      have hj : (k : Int) < n := by omega
      have j0 : (0 : Int) ≤ k := by omega
      go_upto_region 9 with (fail)
      go_quiet (fail)
      have HS9 := HSk.drewN nq
      clear HSk
      go_wp2
      go_roundw
      case rel => exact ⟨k + 1, by omega, by go_num, HS9⟩
      case measure => simp [intOf]; omega
    · obtain rfl : n = k := by omega
      have hj : ¬ (n : Int) < n := by omega
      have HZ := HSk.sel 4 [2]
      clear HSk
      have p0 := HZ.blk_at 0 rfl
      have p1 := HZ.blk_at 1 rfl
      go_wp2_with fail
      refine (HP3.out HZ).mono ?_
      rintro e w16 ⟨A16, c16, rfl, HS16⟩
      dsimp only at HS16 ⊢
      have HS16a := HS16.alloc #[.int .u32 wop, .string wnm, .slice A16 winf.length c16] 66
      clear p0 p1 HZ HS16
      go_wp2_with fail
      refine (HP4.out HS16a (Rb.ownAt 1 rfl)).mono ?_
      rintro e w17 ⟨A17, c17, rfl, hc17, HS17⟩
      dsimp only at HS17 ⊢
      have HS17a := HS17.alloc #[.int .u32 zop, .slice A17 zd.length c17] 31
      have p1 := (HS17a.sel 5 [4]).blk_at 1 rfl
      clear HS16a HS17
      go_wp2_with fail
      refine (wakes_calls HS17a).mono ?_
      rintro e w18 ⟨rfl, HS18⟩
      go_wp2
      go_ret
      exact ⟨rfl, HS18.below⟩

set_option maxHeartbeats 8000000 in
set_option maxRecDepth 100000 in
theorem hback_yc {w : World} {op : Int} {nm : ByteArray} {A0 : Option Addr} {n c0 : Nat} {inf : List Int} {rop : Int} {A1 : Option Addr} {m c1 : Nat} {d : List Int} (HB : Hb w op nm A0 n c0 inf rop A1 m c1 d) (h1 : (writeR op nm inf).E = 0) (h2 : (readW rop d).E = 0) (h3 : ¬ 256 < m) :
    Calls Try.prog 8 #[.agg #[.int .u32 op, .string nm, .slice A0 n c0], .agg #[.int .u32 rop, .slice A1 m c1]] w fun e w' => e = .returned (.bool true) ∧ Below w.heap.size w w' := by
  obtain ⟨W, hW⟩ : ∃ W, W = readW rop d := ⟨_, rfl⟩
  rw [← hW] at h2
  obtain ⟨wE, wop, wnm, winf⟩ := W
  dsimp only at h2
  have P3 : ∀ {w' : World} {L' : List Asr}, Sep w w' (fun _ => False) L' → Calls Try.prog 46 #[.agg #[.int .u32 rop, .slice A1 m c1]] w' (WiOut w (fun _ => False) 71 ⟨wE, wop, wnm, winf⟩ L') := by rw [hW]; exact fun H => read_calls H (HB.r1 _) HB.b1 (by have := HB.m9; omega)
  have hwr := write_read (op := rop) (d := d) HB.b1 (by rw [← hW]; exact h2)
  rw [← hW] at hwr
  obtain ⟨k1, k2, k3, k4⟩ := hwr
  dsimp only at k1 k2 k3 k4
  subst h2
  have HP3 := hid @P3
  clear P3 hW
  obtain ⟨Z, hZ⟩ : ∃ Z, Z = writeR wop wnm winf := ⟨_, rfl⟩
  rw [← hZ] at k3 k4
  have P4 : ∀ {w' : World} {L' : List Asr} {A : Option Addr} {c : Nat}, Sep w w' (fun _ => False) L' → Rb w (fun _ => False) L' 1 A winf.length (kv .u16 winf) → Calls Try.prog 44 #[.agg #[.int .u32 wop, .string wnm, .slice A winf.length c]] w' (RoOut w (fun _ => False) Z L') := by rw [hZ]; exact fun H q => hwrite_calls H q k1 (by omega)
  have hz := k4 (by rw [HB.hm]; omega)
  subst hz
  have HP4 := hid @P4
  clear P4 hZ k1 k2 k3 k4
  have g9 : ¬ 256 < (m : Int) := by omega
  have HMM := hid HB.hm
  clear h3
  obtain ⟨R, hR⟩ : ∃ R, R = writeR op nm inf := ⟨_, rfl⟩
  rw [← hR] at h1
  obtain ⟨rE, rop', rd⟩ := R
  have P1 : ∀ {w' : World} {L' : List Asr}, Sep w w' (fun _ => False) L' → Calls Try.prog 44 #[.agg #[.int .u32 op, .string nm, .slice A0 n c0]] w' (RoOut w (fun _ => False) ⟨rE, rop', rd⟩ L') := by rw [hR]; exact fun H => hwrite_calls H (HB.r0 _) HB.b0 (by have := HB.n9; omega)
  have HP1 := hid @P1
  clear P1
  dsimp only at h1
  have hrw := read_write (op := op) (nm := nm) (inf := inf) HB.b0 (by rw [← hR]; exact h1)
  rw [← hR] at hrw
  obtain ⟨g1, g2, g3, g4⟩ := hrw
  dsimp only at g1 g2 g3 g4
  subst g1
  subst h1
  have P2 : ∀ {w' : World} {L' : List Asr} {A : Option Addr} {c : Nat}, Sep w w' (fun _ => False) L' → Rb w (fun _ => False) L' 1 A rd.length (by8 rd) → Calls Try.prog 46 #[.agg #[.int .u32 rop', .slice A rd.length c]] w' (WiOut w (fun _ => False) 71 ⟨0, rop', nm, inf⟩ L') := by rw [← g2]; exact fun H q => read_calls H q g4 (by omega)
  have HP2 := hid @P2
  clear P2 g2 g3 g4 hR
  have HNN := hid HB.hn
  have HSa := ((Sep.start w).alloc #[.int .u32 rop', .string nm, .slice A0 n c0] 66).allocB #[.int .u32 rop, .slice A1 m c1] 31 (B := w.heap.size + 1) (by simp)
  go_enter Try.func8, Try.ntmps8
  go_wp2_with fail
  refine (HP1.out HSa).mono ?_
  rintro e w4 ⟨A4, c4, rfl, hc4, HS4⟩
  clear HSa
  have HS4a := HS4.alloc #[.int .u32 rop', .slice A4 rd.length c4] 31
  go_wp2_with fail
  refine (HP2.out HS4a (Rb.roAt 1 rfl)).mono ?_
  rintro e w5 ⟨A5, c5, rfl, HS5⟩
  dsimp only at HS5 ⊢
  rw [HNN.out] at HS5 ⊢
  have HS5a := HS5.alloc #[.int .u32 rop', .string nm, .slice A5 n c5] 66
  have a0 := (HS5a.sel 6 [5]).blk_at 0 rfl
  have a1 := (HS5a.sel 6 [5]).blk_at 1 rfl
  have a2 := (HS5a.sel 6 [5]).blk_at 2 rfl
  clear HS4 HS4a HS5
  go_wp2_with fail
  clear a0 a1 a2
  generalize w5.alloc (Obj.cells #[.int .u32 rop', .string nm, .slice A5 n c5] 66) = w6 at *
  have HX : Sep w w6 (fun _ => False) (blk w5.heap.size 66 #[.int .u32 rop', .string nm, .slice A5 n c5] :: own 71 1 A5 n c5 (kv .u16 inf) :: blk (w.heap.size + 1) 31 #[.int .u32 rop, .slice A1 m c1] :: blk w.heap.size 66 #[.int .u32 rop', .string nm, .slice A0 n c0] :: []) := HS5a.sel 6 [0, 1, 4, 5]
  clear HS5a
  have hn9 := HB.n9
  go_loopw [9] (fun i wr => ∃ k : Nat, k ≤ n ∧ i = .int .i64 k ∧ Sep w wr (fun _ => False) (blk w5.heap.size 66 #[.int .u32 rop', .string nm, .slice A5 n c5] :: own 71 1 A5 n c5 (kv .u16 inf) :: blk (w.heap.size + 1) 31 #[.int .u32 rop, .slice A1 m c1] :: blk w.heap.size 66 #[.int .u32 rop', .string nm, .slice A0 n c0] :: [])) (fun i _ => n - (intOf i).toNat)
  case atStart => exact ⟨0, Nat.zero_le _, rfl, HX⟩
  case round =>
    obtain ⟨k, hk, rfl, HSk⟩ := hrel
    clear HX
    have a2 := HSk.up3.blk_at 2 rfl
    by_cases hlt : k < n
    · obtain ⟨ad, y, rfl, hy, hm, hcell⟩ := (Rb.i1 (w0 := w) (O := fun _ => False)).elemn HSk (j := k) hlt
      obtain ⟨bd, y', rfl, hy', hm', hcell'⟩ := (HB.r0 _).elemn HSk (j := k) hlt
      obtain rfl : y = y' := by rw [hy] at hy'; injection hy'
      clear hy hy' hm hm'
      have b2 := HSk.blk_at 2 rfl
      have hj : (k : Int) < n := by omega
      have j0 : (0 : Int) ≤ k := by omega
      go_upto_region 9 with (fail)
      go_quiet (fail)
      have HS9 := HSk.drewN nq
      clear HSk
      go_wp2
      go_roundw
      case rel => exact ⟨k + 1, by omega, by go_num, HS9⟩
      case measure => simp [intOf]; omega
    · obtain rfl : n = k := by omega
      have hj : ¬ (n : Int) < n := by omega
      have HZ := HSk.sel 4 [2]
      clear HSk
      have p0 := HZ.blk_at 0 rfl
      have p1 := HZ.blk_at 1 rfl
      go_wp2_with fail
      refine (HP3.out HZ).mono ?_
      rintro e w16 ⟨A16, c16, rfl, HS16⟩
      dsimp only at HS16 ⊢
      have HS16a := HS16.alloc #[.int .u32 wop, .string wnm, .slice A16 winf.length c16] 66
      clear p0 p1 HZ HS16
      go_wp2_with fail
      refine (HP4.out HS16a (Rb.ownAt 1 rfl)).mono ?_
      rintro e w17 ⟨A17, c17, rfl, hc17, HS17⟩
      dsimp only at HS17 ⊢
      rw [HMM.out] at HS17 ⊢
      have HS17a := HS17.alloc #[.int .u32 rop, .slice A17 m c17] 31
      have p1 := (HS17a.sel 5 [4]).blk_at 1 rfl
      clear HS16a HS17
      have p0 := (HS17a.sel 5 [4]).blk_at 0 rfl
      have hs1 := run_str (P := Try.prog) (c := c17) ((Rb.roAt (w0 := w) (O := fun _ => False) 1 rfl).read HS17a) 23 9 5 Try.underlying23 Try.underlying5 Try.underlying9
      have hs2 := run_str (P := Try.prog) (c := c1) ((HB.r1 _).read HS17a) 23 9 5 Try.underlying23 Try.underlying5 Try.underlying9
      generalize strOfNums d = sz at hs1 hs2
      go_wp2_with fail
      refine (wakes_calls HS17a).mono ?_
      rintro e w18 ⟨rfl, HS18⟩
      go_wp2
      go_ret
      exact ⟨rfl, HS18.below⟩

set_option maxHeartbeats 8000000 in
set_option maxRecDepth 100000 in
theorem hback_na {w : World} {op : Int} {nm : ByteArray} {A0 : Option Addr} {n c0 : Nat} {inf : List Int} {rop : Int} {A1 : Option Addr} {m c1 : Nat} {d : List Int} (HB : Hb w op nm A0 n c0 inf rop A1 m c1 d) (h1 : (writeR op nm inf).E ≠ 0) (h2 : (readW rop d).E ≠ 0) :
    Calls Try.prog 8 #[.agg #[.int .u32 op, .string nm, .slice A0 n c0], .agg #[.int .u32 rop, .slice A1 m c1]] w fun e w' => e = .returned (.bool true) ∧ Below w.heap.size w w' := by
  obtain ⟨W, hW⟩ : ∃ W, W = readW rop d := ⟨_, rfl⟩
  rw [← hW] at h2
  obtain ⟨wE, wop, wnm, winf⟩ := W
  dsimp only at h2
  have P3 : ∀ {w' : World} {L' : List Asr}, Sep w w' (fun _ => False) L' → Calls Try.prog 46 #[.agg #[.int .u32 rop, .slice A1 m c1]] w' (WiOut w (fun _ => False) 71 ⟨wE, wop, wnm, winf⟩ L') := by rw [hW]; exact fun H => read_calls H (HB.r1 _) HB.b1 (by have := HB.m9; omega)
  have hrn := read_none' (op := rop) (d := d) (by rw [← hW]; exact h2)
  rw [← hW] at hrn
  obtain ⟨k1, k2, k3⟩ := hrn
  dsimp only at k1 k2 k3
  subst k1
  subst k2
  subst k3
  have e2 : (wE != 0) = true := by simpa using h2
  have HP3 := hid @P3
  clear P3 hW h2
  obtain ⟨R, hR⟩ : ∃ R, R = writeR op nm inf := ⟨_, rfl⟩
  rw [← hR] at h1
  obtain ⟨rE, rop', rd⟩ := R
  have P1 : ∀ {w' : World} {L' : List Asr}, Sep w w' (fun _ => False) L' → Calls Try.prog 44 #[.agg #[.int .u32 op, .string nm, .slice A0 n c0]] w' (RoOut w (fun _ => False) ⟨rE, rop', rd⟩ L') := by rw [hR]; exact fun H => hwrite_calls H (HB.r0 _) HB.b0 (by have := HB.n9; omega)
  have HP1 := hid @P1
  clear P1
  dsimp only at h1
  have hrw := write_none (op := op) (nm := nm) (inf := inf) (by rw [← hR]; exact h1)
  rw [← hR] at hrw
  obtain ⟨g1, g2⟩ := hrw
  dsimp only at g1 g2
  subst g1
  subst g2
  have e1 : (rE == 0) = false := by simpa using h1
  clear hR h1
  have HSa := ((Sep.start w).alloc #[.int .u32 op, .string nm, .slice A0 n c0] 66).allocB #[.int .u32 rop, .slice A1 m c1] 31 (B := w.heap.size + 1) (by simp)
  go_enter Try.func8, Try.ntmps8
  go_wp2_with fail
  refine (HP1.out HSa).mono ?_
  rintro e w4 ⟨A4, c4, rfl, hc4, HS4⟩
  clear HSa
  have HS4a := HS4.alloc #[.int .u32 0, .slice A4 0 c4] 31
  have HZ : Sep w _ (fun _ => False) (blk (w.heap.size + 1) 31 #[.int .u32 rop, .slice A1 m c1] :: []) := HS4a.sel 4 [2]
  clear HS4 HS4a
  have p0 := HZ.blk_at 0 rfl
  have p1 := HZ.blk_at 1 rfl
  go_wp2_with fail
  refine (HP3.out HZ).mono ?_
  rintro e w16 ⟨A16, c16, rfl, HS16⟩
  dsimp only at HS16 ⊢
  have HS16a := HS16.alloc #[.int .u32 0, .string eStr, .slice A16 0 c16] 66
  clear p0 p1 HZ HS16
  go_wp2_with fail
  refine (wakes_calls HS16a).mono ?_
  rintro e w17 ⟨rfl, HS17⟩
  go_wp2
  go_ret
  exact ⟨rfl, HS17.below⟩

set_option maxHeartbeats 8000000 in
set_option maxRecDepth 100000 in
theorem hback_nb {w : World} {op : Int} {nm : ByteArray} {A0 : Option Addr} {n c0 : Nat} {inf : List Int} {rop : Int} {A1 : Option Addr} {m c1 : Nat} {d : List Int} (HB : Hb w op nm A0 n c0 inf rop A1 m c1 d) (h1 : (writeR op nm inf).E ≠ 0) (h2 : (readW rop d).E = 0) (h3 : 256 < m) :
    Calls Try.prog 8 #[.agg #[.int .u32 op, .string nm, .slice A0 n c0], .agg #[.int .u32 rop, .slice A1 m c1]] w fun e w' => e = .returned (.bool true) ∧ Below w.heap.size w w' := by
  obtain ⟨W, hW⟩ : ∃ W, W = readW rop d := ⟨_, rfl⟩
  rw [← hW] at h2
  obtain ⟨wE, wop, wnm, winf⟩ := W
  dsimp only at h2
  have P3 : ∀ {w' : World} {L' : List Asr}, Sep w w' (fun _ => False) L' → Calls Try.prog 46 #[.agg #[.int .u32 rop, .slice A1 m c1]] w' (WiOut w (fun _ => False) 71 ⟨wE, wop, wnm, winf⟩ L') := by rw [hW]; exact fun H => read_calls H (HB.r1 _) HB.b1 (by have := HB.m9; omega)
  have hwr := write_read (op := rop) (d := d) HB.b1 (by rw [← hW]; exact h2)
  rw [← hW] at hwr
  obtain ⟨k1, k2, k3, k4⟩ := hwr
  dsimp only at k1 k2 k3 k4
  subst h2
  have HP3 := hid @P3
  clear P3 hW
  obtain ⟨Z, hZ⟩ : ∃ Z, Z = writeR wop wnm winf := ⟨_, rfl⟩
  rw [← hZ] at k3 k4
  have P4 : ∀ {w' : World} {L' : List Asr} {A : Option Addr} {c : Nat}, Sep w w' (fun _ => False) L' → Rb w (fun _ => False) L' 1 A winf.length (kv .u16 winf) → Calls Try.prog 44 #[.agg #[.int .u32 wop, .string wnm, .slice A winf.length c]] w' (RoOut w (fun _ => False) Z L') := by rw [hZ]; exact fun H q => hwrite_calls H q k1 (by omega)
  obtain ⟨zE, zop, zd⟩ := Z
  have hz := k3 (by rw [HB.hm]; exact h3)
  dsimp only at hz
  subst hz
  have HP4 := hid @P4
  clear P4 hZ k1 k2 k3 k4
  have g9 : 256 < (m : Int) := by omega
  clear h3
  obtain ⟨R, hR⟩ : ∃ R, R = writeR op nm inf := ⟨_, rfl⟩
  rw [← hR] at h1
  obtain ⟨rE, rop', rd⟩ := R
  have P1 : ∀ {w' : World} {L' : List Asr}, Sep w w' (fun _ => False) L' → Calls Try.prog 44 #[.agg #[.int .u32 op, .string nm, .slice A0 n c0]] w' (RoOut w (fun _ => False) ⟨rE, rop', rd⟩ L') := by rw [hR]; exact fun H => hwrite_calls H (HB.r0 _) HB.b0 (by have := HB.n9; omega)
  have HP1 := hid @P1
  clear P1
  dsimp only at h1
  have hrw := write_none (op := op) (nm := nm) (inf := inf) (by rw [← hR]; exact h1)
  rw [← hR] at hrw
  obtain ⟨g1, g2⟩ := hrw
  dsimp only at g1 g2
  subst g1
  subst g2
  have e1 : (rE == 0) = false := by simpa using h1
  clear hR h1
  have HSa := ((Sep.start w).alloc #[.int .u32 op, .string nm, .slice A0 n c0] 66).allocB #[.int .u32 rop, .slice A1 m c1] 31 (B := w.heap.size + 1) (by simp)
  go_enter Try.func8, Try.ntmps8
  go_wp2_with fail
  refine (HP1.out HSa).mono ?_
  rintro e w4 ⟨A4, c4, rfl, hc4, HS4⟩
  clear HSa
  have HS4a := HS4.alloc #[.int .u32 0, .slice A4 0 c4] 31
  have HZ : Sep w _ (fun _ => False) (blk (w.heap.size + 1) 31 #[.int .u32 rop, .slice A1 m c1] :: []) := HS4a.sel 4 [2]
  clear HS4 HS4a
  have p0 := HZ.blk_at 0 rfl
  have p1 := HZ.blk_at 1 rfl
  go_wp2_with fail
  refine (HP3.out HZ).mono ?_
  rintro e w16 ⟨A16, c16, rfl, HS16⟩
  dsimp only at HS16 ⊢
  have HS16a := HS16.alloc #[.int .u32 wop, .string wnm, .slice A16 winf.length c16] 66
  clear p0 p1 HZ HS16
  go_wp2_with fail
  refine (HP4.out HS16a (Rb.ownAt 1 rfl)).mono ?_
  rintro e w17 ⟨A17, c17, rfl, hc17, HS17⟩
  dsimp only at HS17 ⊢
  have HS17a := HS17.alloc #[.int .u32 zop, .slice A17 zd.length c17] 31
  have p1 := (HS17a.sel 5 [4]).blk_at 1 rfl
  clear HS16a HS17
  go_wp2_with fail
  refine (wakes_calls HS17a).mono ?_
  rintro e w18 ⟨rfl, HS18⟩
  go_wp2
  go_ret
  exact ⟨rfl, HS18.below⟩

set_option maxHeartbeats 8000000 in
set_option maxRecDepth 100000 in
theorem hback_nc {w : World} {op : Int} {nm : ByteArray} {A0 : Option Addr} {n c0 : Nat} {inf : List Int} {rop : Int} {A1 : Option Addr} {m c1 : Nat} {d : List Int} (HB : Hb w op nm A0 n c0 inf rop A1 m c1 d) (h1 : (writeR op nm inf).E ≠ 0) (h2 : (readW rop d).E = 0) (h3 : ¬ 256 < m) :
    Calls Try.prog 8 #[.agg #[.int .u32 op, .string nm, .slice A0 n c0], .agg #[.int .u32 rop, .slice A1 m c1]] w fun e w' => e = .returned (.bool true) ∧ Below w.heap.size w w' := by
  obtain ⟨W, hW⟩ : ∃ W, W = readW rop d := ⟨_, rfl⟩
  rw [← hW] at h2
  obtain ⟨wE, wop, wnm, winf⟩ := W
  dsimp only at h2
  have P3 : ∀ {w' : World} {L' : List Asr}, Sep w w' (fun _ => False) L' → Calls Try.prog 46 #[.agg #[.int .u32 rop, .slice A1 m c1]] w' (WiOut w (fun _ => False) 71 ⟨wE, wop, wnm, winf⟩ L') := by rw [hW]; exact fun H => read_calls H (HB.r1 _) HB.b1 (by have := HB.m9; omega)
  have hwr := write_read (op := rop) (d := d) HB.b1 (by rw [← hW]; exact h2)
  rw [← hW] at hwr
  obtain ⟨k1, k2, k3, k4⟩ := hwr
  dsimp only at k1 k2 k3 k4
  subst h2
  have HP3 := hid @P3
  clear P3 hW
  obtain ⟨Z, hZ⟩ : ∃ Z, Z = writeR wop wnm winf := ⟨_, rfl⟩
  rw [← hZ] at k3 k4
  have P4 : ∀ {w' : World} {L' : List Asr} {A : Option Addr} {c : Nat}, Sep w w' (fun _ => False) L' → Rb w (fun _ => False) L' 1 A winf.length (kv .u16 winf) → Calls Try.prog 44 #[.agg #[.int .u32 wop, .string wnm, .slice A winf.length c]] w' (RoOut w (fun _ => False) Z L') := by rw [hZ]; exact fun H q => hwrite_calls H q k1 (by omega)
  have hz := k4 (by rw [HB.hm]; omega)
  subst hz
  have HP4 := hid @P4
  clear P4 hZ k1 k2 k3 k4
  have g9 : ¬ 256 < (m : Int) := by omega
  have HMM := hid HB.hm
  clear h3
  obtain ⟨R, hR⟩ : ∃ R, R = writeR op nm inf := ⟨_, rfl⟩
  rw [← hR] at h1
  obtain ⟨rE, rop', rd⟩ := R
  have P1 : ∀ {w' : World} {L' : List Asr}, Sep w w' (fun _ => False) L' → Calls Try.prog 44 #[.agg #[.int .u32 op, .string nm, .slice A0 n c0]] w' (RoOut w (fun _ => False) ⟨rE, rop', rd⟩ L') := by rw [hR]; exact fun H => hwrite_calls H (HB.r0 _) HB.b0 (by have := HB.n9; omega)
  have HP1 := hid @P1
  clear P1
  dsimp only at h1
  have hrw := write_none (op := op) (nm := nm) (inf := inf) (by rw [← hR]; exact h1)
  rw [← hR] at hrw
  obtain ⟨g1, g2⟩ := hrw
  dsimp only at g1 g2
  subst g1
  subst g2
  have e1 : (rE == 0) = false := by simpa using h1
  clear hR h1
  have HSa := ((Sep.start w).alloc #[.int .u32 op, .string nm, .slice A0 n c0] 66).allocB #[.int .u32 rop, .slice A1 m c1] 31 (B := w.heap.size + 1) (by simp)
  go_enter Try.func8, Try.ntmps8
  go_wp2_with fail
  refine (HP1.out HSa).mono ?_
  rintro e w4 ⟨A4, c4, rfl, hc4, HS4⟩
  clear HSa
  have HS4a := HS4.alloc #[.int .u32 0, .slice A4 0 c4] 31
  have HZ : Sep w _ (fun _ => False) (blk (w.heap.size + 1) 31 #[.int .u32 rop, .slice A1 m c1] :: []) := HS4a.sel 4 [2]
  clear HS4 HS4a
  have p0 := HZ.blk_at 0 rfl
  have p1 := HZ.blk_at 1 rfl
  go_wp2_with fail
  refine (HP3.out HZ).mono ?_
  rintro e w16 ⟨A16, c16, rfl, HS16⟩
  dsimp only at HS16 ⊢
  have HS16a := HS16.alloc #[.int .u32 wop, .string wnm, .slice A16 winf.length c16] 66
  clear p0 p1 HZ HS16
  go_wp2_with fail
  refine (HP4.out HS16a (Rb.ownAt 1 rfl)).mono ?_
  rintro e w17 ⟨A17, c17, rfl, hc17, HS17⟩
  dsimp only at HS17 ⊢
  rw [HMM.out] at HS17 ⊢
  have HS17a := HS17.alloc #[.int .u32 rop, .slice A17 m c17] 31
  have p1 := (HS17a.sel 5 [4]).blk_at 1 rfl
  clear HS16a HS17
  have p0 := (HS17a.sel 5 [4]).blk_at 0 rfl
  have hs1 := run_str (P := Try.prog) (c := c17) ((Rb.roAt (w0 := w) (O := fun _ => False) 1 rfl).read HS17a) 23 9 5 Try.underlying23 Try.underlying5 Try.underlying9
  have hs2 := run_str (P := Try.prog) (c := c1) ((HB.r1 _).read HS17a) 23 9 5 Try.underlying23 Try.underlying5 Try.underlying9
  generalize strOfNums d = sz at hs1 hs2
  go_wp2_with fail
  refine (wakes_calls HS17a).mono ?_
  rintro e w18 ⟨rfl, HS18⟩
  go_wp2
  go_ret
  exact ⟨rfl, HS18.below⟩

theorem helloBack_walk (cs0 : Array Value) (cs1 : Array Value) (x0 : Sh.V (.agg (.pair (.int .u32) (.pair .str (.pair (.slice (.int .u16) 2) .unit))))) (x1 : Sh.V (.agg (.pair (.int .u32) (.pair (.slice (.int .u8) 1) .unit)))) (w : World) (s0 : Sees w.heap (.agg (.pair (.int .u32) (.pair .str (.pair (.slice (.int .u16) 2) .unit)))) cs0.toList x0) (s1 : Sees w.heap (.agg (.pair (.int .u32) (.pair (.slice (.int .u8) 1) .unit))) cs1.toList x1) (y0 : Light (.agg (.pair (.int .u32) (.pair .str (.pair (.slice (.int .u16) 2) .unit)))) x0) (y1 : Light (.agg (.pair (.int .u32) (.pair (.slice (.int .u8) 1) .unit))) x1) :
    Calls Try.prog 8 #[.agg cs0, .agg cs1] w fun e w' => e = .returned (.bool true) ∧ Below w.heap.size w w' := by
  obtain ⟨op, nm, A0, c0, inf, rfl, ⟨o0, o1⟩, hnm, hr0, hc0, hb0, hd0⟩ := sees_wish s0 y0
  obtain ⟨rop, A1, c1, d, rfl, ⟨ro0, ro1⟩, hr1, hc1, hb1, hd1⟩ := sees_raw s1 y1
  have HB : Hb w op nm A0 inf.length c0 inf rop A1 d.length c1 d := ⟨rfl, rfl, hd0, hd1, fun L => Rb.came hr0, fun L => Rb.came hr1, hb0, hb1⟩
  by_cases h1 : (writeR op nm inf).E = 0 <;> by_cases h2 : (readW rop d).E = 0 <;> by_cases h3 : 256 < d.length
  · exact hback_yb HB h1 h2 h3
  · exact hback_yc HB h1 h2 h3
  · exact hback_ya HB h1 h2
  · exact hback_ya HB h1 h2
  · exact hback_nb HB h1 h2 h3
  · exact hback_nc HB h1 h2 h3
  · exact hback_na HB h1 h2
  · exact hback_na HB h1 h2
end Go.Proofs.Ytgepekailoopeaa
