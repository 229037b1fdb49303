/-
  Contracts of hello.put, Put, PutReply; cisternref22.Put, PutReply.
-/
import Derived.Test.YtgepekailoopeaaHel2
import Derived.Deep.DeepCutAuto
import Derived.Deep.RegionHeldLaw
namespace Go.Proofs.Ytgepekailoopeaa
open Go.RowKit
set_option linter.unusedVariables false
set_option linter.unusedSimpArgs false
theorem info_u32 : (Try.prog.info? 22).map (fun i => (i.zero, i.size, i.bytes)) = some (some (.int .u32 0), 1, 4) := by kernel_rfl
def b4s (l : List Int) : List Int := l.flatMap (be 4)
theorem b4s_len (l : List Int) : (b4s l).length = 4 * l.length := by
  induction l with
  | nil => rfl
  | cons x l ih => unfold b4s at *; rw [List.flatMap_cons, List.length_append, ih, be_len, List.length_cons]; omega
theorem b4s_next {l : List Int} {k : Nat} {x : Int} (h : l[k]? = some x) : b4s (l.take (k + 1)) = b4s (l.take k) ++ be 4 x := by
  unfold b4s
  rw [List.take_add_one, h]
  simp
def rawL (magic : Int) (nums d : List Int) : List Int := be 8 magic ++ b4s (nums ++ [(d.length : Int)]) ++ d
theorem rawL_len (magic : Int) (nums d : List Int) : (rawL magic nums d).length = 12 + 4 * nums.length + d.length := by
  unfold rawL
  rw [List.length_append, List.length_append, b4s_len, be_len, List.length_append]
  simp only [List.length_cons, List.length_nil]; omega
section
variable {w0 w : World} {O : Nat → Prop} {L : List Asr}

set_option maxHeartbeats 1000000 in
theorem hput_long {magic : Int} {Al A : Option Addr} {k kc n c : Nat} (HS : Sep w0 w O L) (hn : 256 < n) :
    Calls Try.prog 64 #[.int .u64 magic, .slice A n c, .slice Al k kc] w fun e w' => e = .returned (.tuple #[.slice none 0 0, .int .i64 3]) ∧ w = w' := by
  have i1 : (256 : Int) < n := by omega
  clear hn
  go_enter Try.func64, Try.ntmps64
  go_wp2
  go_ret2
  exact ⟨rfl, rfl⟩

set_option maxHeartbeats 2000000 in
theorem hput_ok {magic : Int} {Al A : Option Addr} {k kc n c : Nat} {nums d : List Int} (HS : Sep w0 w O (own 22 1 Al k kc (kv .u32 nums) :: L)) (hr : Rb w0 O L 1 A n (by8 d)) (hn : n ≤ 256) (hk : k ≤ 3)
    (m0 : 0 ≤ magic) (m1 : magic < 18446744073709551616) (hx : ∀ x ∈ nums, 0 ≤ x ∧ x < 4294967296) :
    Calls Try.prog 64 #[.int .u64 magic, .slice A n c, .slice Al k kc] w fun e w' => ∃ A' c', e = .returned (.tuple #[.slice A' (rawL magic nums d).length c', .int .i64 0]) ∧ Sep w0 w' O (own 5 1 A' (rawL magic nums d).length c' (by8 (rawL magic nums d)) :: L) := by
  obtain ⟨i0, hi0, hz0, hz1, hz2⟩ := info_parts info_u32
  obtain ⟨j0, hj0, jz0, jz1, jz2⟩ := info_parts info_u8
  have hkl := HS.klen
  have hdl : d.length = n := hr.klen HS.drop
  have i1 : ¬ (256 : Int) < n := by omega
  have y1 : IntKind.u32.wrap (n : Int) = n := by rw [IntKind.wrap_u32]; omega
  have hxs : ∀ x ∈ nums ++ [(n : Int)], 0 ≤ x ∧ x < 4294967296 := by
    intro x h
    rcases List.mem_append.1 h with h | h
    · exact hx x h
    · simp at h; subst h; omega
  have HX := hid hxs
  obtain ⟨ns, hns⟩ : ∃ ns, ns = nums ++ [(n : Int)] := ⟨_, rfl⟩
  have hnsl : ns.length = k + 1 := by rw [hns, List.length_append, hkl]; rfl
  have hraw : rawL magic nums d = be 8 magic ++ b4s ns ++ d := by unfold rawL; rw [hdl, hns]
  have hrl := rawL_len magic nums d
  rw [hkl, hdl] at hrl
  rw [hrl, hraw]
  have HNS := hid hns
  have HNL := hid hnsl
  have HDL := hid hdl
  rw [← hns] at HX
  clear hxs hx hns hkl hnsl hraw hrl hdl
  go_enter Try.func64, Try.ntmps64
  go_wp2_with fail
  refine (put_ok (l := []) (x := magic) (s := 8) HS Rb.nil (by decide) (by decide) (by decide) m0 m1).mono ?_
  rintro e w1 ⟨A1, c1, rfl, HS1⟩
  have HL := ((HS1.up1).lit #[.int .u32 (n : Int)] 22 1 1 rfl (by decide)).up1
  go_wp2_with (at_builtin; go_loud (refine wpList_append_sep rfl (.tmp 16) (.tmp 20) 153 rfl 22 i0 _ 1 4 Try.underlying153 hi0 hz0 hz1 hz2 rfl (by decide) rfl HL rfl HL.rd1 (kv_one .u32 [(n : Int)]) (by simp only [maxLen]; omega) (by omega) rfl (kv_append .u32 nums [(n : Int)]) ?_); intro A3 c3 w3 HS3 hsz3)
  rw [← HNS.out] at HS3
  have HS4 := HS3.sel 3 [2, 0]
  replace HS4 : Sep w0 w3 O (own 5 1 A1 8 c1 (by8 (be 8 magic)) :: own 22 1 A3 (k + 1) c3 (kv .u32 ns) :: L) := HS4
  clear HS3 HL HS1 hsz3
  have e3 : (((k + 1 : Nat) : Int)) = (k : Int) + 1 := by omega
  go_loopw [8, 23] (fun b i wr => ∃ (j cb : Nat) (B : Option Addr), j ≤ k + 1 ∧ i = .int .i64 j ∧ b = .slice B (8 + 4 * j) cb ∧ Sep w0 wr O (own 5 1 B (8 + 4 * j) cb (by8 (be 8 magic ++ b4s (ns.take j))) :: own 22 1 A3 (k + 1) c3 (kv .u32 ns) :: L)) (fun _ i _ => k + 1 - (intOf i).toNat)
  case atStart => exact ⟨0, c1, A1, Nat.zero_le _, rfl, rfl, by simpa [b4s] using HS4⟩
  case round =>
    obtain ⟨j, cb, B, hj, rfl, rfl, HS5⟩ := hrel
    clear HS4
    by_cases hlt : j < k + 1
    · obtain ⟨ad, x, rfl, hxj, hxm, hcell⟩ := (Rb.i1 (w0 := w0) (O := O) (L := L) (a := own 5 1 B (8 + 4 * j) cb (by8 (be 8 magic ++ b4s (ns.take j)))) (e := 22) (size := 1) (A := A3) (n := k + 1) (k := c3) (xs := kv .u32 ns)).elemn HS5 hlt
      obtain ⟨x0, x1⟩ := HX.out x hxm
      have hj1 : (j : Int) < k + 1 := by omega
      have j0 : (0 : Int) ≤ j := by omega
      have y2 : IntKind.u64.wrap x = x := by rw [IntKind.wrap_u64]; omega
      have HB := hid (b4s_next hxj)
      clear hxj hxm
      go_wp2_with fail
      refine (put_ok (x := x) (s := 4) HS5 Rb.i0 (by omega) (by decide) (by decide) x0 (by omega)).mono ?_
      rintro e w6 ⟨A6, c6, rfl, HS6⟩
      rw [List.append_assoc, ← HB.out] at HS6
      have HS7 := HS6.sel 2 [0]
      clear HS6 HS5
      go_wp2
      go_roundw
      case rel => exact ⟨j + 1, c6, A6, by omega, by go_num, rfl, HS7⟩
      case measure => simp [intOf]; omega
    · obtain rfl : j = k + 1 := by omega
      have hj1 : ¬ ((k : Int) + 1 < k + 1) := by omega
      have htk : ns.take (k + 1) = ns := List.take_of_length_le (by rw [HNL.out]; exact Nat.le_refl _)
      rw [htk] at HS5
      clear htk
      go_wp2_with (at_builtin; go_loud (refine wpList_append_sep rfl (.tmp 32) (.tmp 33) 23 rfl 5 j0 _ 1 1 Try.underlying23 hj0 jz0 jz1 jz2 rfl (by decide) rfl HS5 rfl (hr.cons.cons.read HS5) (by8_one _) (by simp only [maxLen]; omega) (by omega) (show 8 + 4 * (k + 1) + n = 12 + 4 * k + n by omega) (by8_append _ _) ?_); intro A7 c7 w7 HS7 hsz7)
      go_ret2
      exact ⟨A7, c7, rfl, HS7.sel 2 [0]⟩

def rawE (d : List Int) : Int := if 256 < d.length then 3 else 0
def rawB (magic : Int) (nums d : List Int) : List Int := if 256 < d.length then [] else rawL magic nums d

set_option maxHeartbeats 1000000 in
theorem hPut_calls {op : Int} {A : Option Addr} {n c : Nat} {d : List Int} (HS : Sep w0 w O L) (hr : Rb w0 O L 1 A n (by8 d)) (o0 : 0 ≤ op) (o1 : op < 4294967296) :
    Calls Try.prog 14 #[.agg #[.int .u32 op, .slice A n c]] w fun e w' => ∃ A' c', e = .returned (.tuple #[.slice A' (rawB mOp [op] d).length c', .int .i64 (rawE d)]) ∧ Sep w0 w' O (own 5 1 A' (rawB mOp [op] d).length c' (by8 (rawB mOp [op] d)) :: L) := by
  have hdl : d.length = n := hr.klen HS
  have HSb := HS.alloc #[.int .u32 op, .slice A n c] 31
  have HL := HSb.litB #[.int .u32 op] 22 1 1 rfl (by decide) (B := w.heap.size + 1) (by simp)
  by_cases h : 256 < n
  · have e1 : rawE d = 3 := by unfold rawE; rw [if_pos (by omega)]
    have e2 : rawB mOp [op] d = [] := by unfold rawB; rw [if_pos (by omega)]
    rw [e1, e2]
    clear e1 e2
    go_enter Try.func14, Try.ntmps14
    go_wp2_with fail
    refine (hput_long HL h).mono ?_
    rintro e w1 ⟨rfl, rfl⟩
    go_wp2
    go_ret2
    exact ⟨none, 0, rfl, HL.drop.drop.nil _ _⟩
  · have e1 : rawE d = 0 := by unfold rawE; rw [if_neg (by omega)]
    have e2 : rawB mOp [op] d = rawL mOp [op] d := by unfold rawB; rw [if_neg (by omega)]
    rw [e1, e2]
    clear e1 e2
    go_enter Try.func14, Try.ntmps14
    go_wp2_with fail
    refine (hput_ok (magic := mOp) (nums := [op]) (d := d) HL hr.cons (by omega) (by decide) (by decide) (by decide) (by simp; omega)).mono ?_
    rintro e w1 ⟨A1, c1, rfl, HS1⟩
    go_wp2
    go_ret2
    exact ⟨A1, c1, rfl, HS1.sel 2 [0]⟩

set_option maxHeartbeats 1000000 in
theorem hPutReply_calls {op kd : Int} {A : Option Addr} {n c : Nat} {d : List Int} (HS : Sep w0 w O L) (hr : Rb w0 O L 1 A n (by8 d)) (o0 : 0 ≤ op) (o1 : op < 4294967296) (k0 : 0 ≤ kd) (k1 : kd < 4294967296) :
    Calls Try.prog 16 #[.agg #[.int .u32 op, .int .u32 kd, .slice A n c]] w fun e w' => ∃ A' c', e = .returned (.tuple #[.slice A' (rawB mRe [op, kd] d).length c', .int .i64 (rawE d)]) ∧ Sep w0 w' O (own 5 1 A' (rawB mRe [op, kd] d).length c' (by8 (rawB mRe [op, kd] d)) :: L) := by
  have hdl : d.length = n := hr.klen HS
  have HSb := HS.alloc #[.int .u32 op, .int .u32 kd, .slice A n c] 35
  have HL := HSb.litB #[.int .u32 op, .int .u32 kd] 22 1 2 rfl (by decide) (B := w.heap.size + 1) (by simp)
  by_cases h : 256 < n
  · have e1 : rawE d = 3 := by unfold rawE; rw [if_pos (by omega)]
    have e2 : rawB mRe [op, kd] d = [] := by unfold rawB; rw [if_pos (by omega)]
    rw [e1, e2]
    clear e1 e2
    go_enter Try.func16, Try.ntmps16
    go_wp2_with fail
    refine (hput_long HL h).mono ?_
    rintro e w1 ⟨rfl, rfl⟩
    go_wp2
    go_ret2
    exact ⟨none, 0, rfl, HL.drop.drop.nil _ _⟩
  · have e1 : rawE d = 0 := by unfold rawE; rw [if_neg (by omega)]
    have e2 : rawB mRe [op, kd] d = rawL mRe [op, kd] d := by unfold rawB; rw [if_neg (by omega)]
    rw [e1, e2]
    clear e1 e2
    go_enter Try.func16, Try.ntmps16
    go_wp2_with fail
    refine (hput_ok (magic := mRe) (nums := [op, kd]) (d := d) HL hr.cons (by omega) (by decide) (by decide) (by decide) (by simp; omega)).mono ?_
    rintro e w1 ⟨A1, c1, rfl, HS1⟩
    go_wp2
    go_ret2
    exact ⟨A1, c1, rfl, HS1.sel 2 [0]⟩

set_option maxHeartbeats 2000000 in
theorem rPut_calls {op : Int} {A : Option Addr} {n c : Nat} {d : List Int} (HS : Sep w0 w O L) (hr : Rb w0 O L 1 A n (by8 d)) (o0 : 0 ≤ op) (o1 : op < 4294967296) :
    Calls Try.prog 15 #[.agg #[.int .u32 op, .slice A n c]] w fun e w' => ∃ A' c', e = .returned (.tuple #[.slice A' (rawB mOp [op] d).length c', .int .i64 (rawE d)]) ∧ Sep w0 w' O (own 5 1 A' (rawB mOp [op] d).length c' (by8 (rawB mOp [op] d)) :: L) := by
  obtain ⟨i0, hi0, hz0, hz1, hz2⟩ := info_parts info_u8
  have hdl : d.length = n := hr.klen HS
  have HSb := HS.alloc #[.int .u32 op, .slice A n c] 25
  by_cases h : 256 < n
  · have e1 : rawE d = 3 := by unfold rawE; rw [if_pos (by omega)]
    have e2 : rawB mOp [op] d = [] := by unfold rawB; rw [if_pos (by omega)]
    rw [e1, e2]
    have i1 : (256 : Int) < n := by omega
    clear e1 e2 h
    go_enter Try.func15, Try.ntmps15
    go_wp2
    go_ret2
    exact ⟨none, 0, rfl, HSb.drop.nil _ _⟩
  · have e1 : rawE d = 0 := by unfold rawE; rw [if_neg (by omega)]
    have e2 : rawB mOp [op] d = be 8 mOp ++ be 4 op ++ be 4 (n : Int) ++ d := by unfold rawB; rw [if_neg (by omega)]; simp [rawL, b4s, hdl]
    have e3 : (rawB mOp [op] d).length = 16 + n := by rw [e2]; simp only [List.length_append, be_len]; omega
    rw [e1, e3, e2]
    have i1 : ¬ (256 : Int) < n := by omega
    have y1 : IntKind.u64.wrap op = op := by rw [IntKind.wrap_u64]; omega
    have y2 : IntKind.u64.wrap (n : Int) = n := by rw [IntKind.wrap_u64]; omega
    have HD := hid hdl
    clear e1 e2 e3 hdl
    go_enter Try.func15, Try.ntmps15
    go_upto_region 3 with (fail)
    have Z0 : Aside ((w.alloc (.cells #[.int .u32 op, .slice A n c] 25)).drew.cell? ⟨w.heap.size, 0, none⟩ = some (.int .u32 op)) := ⟨HSb.drew.blk_at 0 rfl⟩
    go_region_held_law (fun w' => w'.cell? ⟨w.heap.size, 0, none⟩ = some (.int .u32 op)) (first | with_reducible exact Z3.out | with_reducible exact Z2.out | with_reducible exact Z1.out | with_reducible exact Z0.out)
      (first
        | (go_at_call 39; refine (rbytes_calls (x := op) (s := 4) HS1 (by decide) (by decide) o0 (by omega)).mono ?_; rintro e w2 ⟨A2, c2, rfl, HS2⟩; have HT := HS2.up1; have hrd := HT.rd1; have Z2 : Aside (w2.cell? ⟨w.heap.size, 0, none⟩ = some (.int .u32 op)) := ⟨HS2.up2.blk_at 0 rfl⟩)
        | (go_at_call 39; refine (rbytes_calls (x := mOp) (s := 8) HSb.drew (by decide) (by decide) (by decide) (by decide)).mono ?_; rintro e w1 ⟨A1, c1, rfl, HS1⟩; have Z1 : Aside (w1.cell? ⟨w.heap.size, 0, none⟩ = some (.int .u32 op)) := ⟨HS1.up1.blk_at 0 rfl⟩)
        | (refine step_append_sep (by rfl) (.tmp 9) (.tmp 13) 23 (by rfl) 5 i0 _ 1 1 Try.underlying23 hi0 hz0 hz1 hz2 rfl (by decide) (by rfl) HT (by rfl) hrd (by8_one _) (by decide) (by decide) rfl (by8_append _ _) ?_; intro A3 c3 w3 HS3 hsz3; have Z3 : Aside (w3.cell? ⟨w.heap.size, 0, none⟩ = some (.int .u32 op)) := ⟨HS3.up2.blk_at 0 rfl⟩))
    all_goals
      have k1 := HS3.up2.blk_at 1 rfl
      go_wp2_with fail
      refine (rbytes_calls (x := (n : Int)) (s := 4) HS3 (by decide) (by decide) (by omega) (by omega)).mono ?_
      rintro e w4 ⟨A4, c4, rfl, HS4⟩
      have HU := HS4.up1
      go_upto_region 5 with (at_builtin; go_loud (refine wpList_append_sep rfl (.tmp 15) (.tmp 20) 23 rfl 5 i0 _ 1 1 Try.underlying23 hi0 hz0 hz1 hz2 rfl (by decide) rfl HU rfl HU.rd1 (by8_one _) (by decide) (by decide) rfl (by8_append _ _) ?_); intro A5 c5 w5 HS5 hsz5)
      have k2 := HS5.up3.blk_at 1 rfl
      go_wp2_with (at_builtin; go_loud (refine wpList_append_sep rfl (.tmp 22) (.tmp 24) 23 rfl 5 i0 _ 1 1 Try.underlying23 hi0 hz0 hz1 hz2 rfl (by decide) rfl HS5 rfl (hr.cons.cons.cons.cons.read HS5) (by8_one _) (by simp only [maxLen]; omega) (by omega) rfl (by8_append _ _) ?_); intro A6 c6 w6 HS6 hsz6)
      go_ret2
      exact ⟨A6, c6, rfl, HS6.sel 4 [0]⟩
set_option maxHeartbeats 2000000 in
theorem rPutReply_calls {op kd : Int} {A : Option Addr} {n c : Nat} {d : List Int} (HS : Sep w0 w O L) (hr : Rb w0 O L 1 A n (by8 d)) (o0 : 0 ≤ op) (o1 : op < 4294967296) (kd0 : 0 ≤ kd) (kd1 : kd < 4294967296) :
    Calls Try.prog 17 #[.agg #[.int .u32 op, .int .u32 kd, .slice A n c]] w fun e w' => ∃ A' c', e = .returned (.tuple #[.slice A' (rawB mRe [op, kd] d).length c', .int .i64 (rawE d)]) ∧ Sep w0 w' O (own 5 1 A' (rawB mRe [op, kd] d).length c' (by8 (rawB mRe [op, kd] d)) :: L) := by
  obtain ⟨i0, hi0, hz0, hz1, hz2⟩ := info_parts info_u8
  have hdl : d.length = n := hr.klen HS
  have HSb := HS.alloc #[.int .u32 op, .int .u32 kd, .slice A n c] 27
  by_cases h : 256 < n
  · have e1 : rawE d = 3 := by unfold rawE; rw [if_pos (by omega)]
    have e2 : rawB mRe [op, kd] d = [] := by unfold rawB; rw [if_pos (by omega)]
    rw [e1, e2]
    have i1 : (256 : Int) < n := by omega
    clear e1 e2 h
    go_enter Try.func17, Try.ntmps17
    go_wp2
    go_ret2
    exact ⟨none, 0, rfl, HSb.drop.nil _ _⟩
  · have e1 : rawE d = 0 := by unfold rawE; rw [if_neg (by omega)]
    have e2 : rawB mRe [op, kd] d = be 8 mRe ++ be 4 op ++ be 4 kd ++ be 4 (n : Int) ++ d := by unfold rawB; rw [if_neg (by omega)]; simp [rawL, b4s, hdl]
    have e3 : (rawB mRe [op, kd] d).length = 20 + n := by rw [e2]; simp only [List.length_append, be_len]; omega
    rw [e1, e3, e2]
    have i1 : ¬ (256 : Int) < n := by omega
    have y1 : IntKind.u64.wrap op = op := by rw [IntKind.wrap_u64]; omega
    have y3 : IntKind.u64.wrap kd = kd := by rw [IntKind.wrap_u64]; omega
    have y2 : IntKind.u64.wrap (n : Int) = n := by rw [IntKind.wrap_u64]; omega
    have HD := hid hdl
    clear e1 e2 e3 hdl
    go_enter Try.func17, Try.ntmps17
    go_upto_region 3 with (fail)
    have Z0 : Aside ((w.alloc (.cells #[.int .u32 op, .int .u32 kd, .slice A n c] 27)).drew.cell? ⟨w.heap.size, 0, none⟩ = some (.int .u32 op)) := ⟨HSb.drew.blk_at 0 rfl⟩
    go_region_held_law (fun w' => w'.cell? ⟨w.heap.size, 0, none⟩ = some (.int .u32 op)) (first | with_reducible exact Z3.out | with_reducible exact Z2.out | with_reducible exact Z1.out | with_reducible exact Z0.out)
      (first
        | (go_at_call 39; refine (rbytes_calls (x := op) (s := 4) HS1 (by decide) (by decide) o0 (by omega)).mono ?_; rintro e w2 ⟨A2, c2, rfl, HS2⟩; have HT := HS2.up1; have hrd := HT.rd1; have Z2 : Aside (w2.cell? ⟨w.heap.size, 0, none⟩ = some (.int .u32 op)) := ⟨HS2.up2.blk_at 0 rfl⟩)
        | (go_at_call 39; refine (rbytes_calls (x := mRe) (s := 8) HSb.drew (by decide) (by decide) (by decide) (by decide)).mono ?_; rintro e w1 ⟨A1, c1, rfl, HS1⟩; have Z1 : Aside (w1.cell? ⟨w.heap.size, 0, none⟩ = some (.int .u32 op)) := ⟨HS1.up1.blk_at 0 rfl⟩)
        | (refine step_append_sep (by rfl) (.tmp 9) (.tmp 13) 23 (by rfl) 5 i0 _ 1 1 Try.underlying23 hi0 hz0 hz1 hz2 rfl (by decide) (by rfl) HT (by rfl) hrd (by8_one _) (by decide) (by decide) rfl (by8_append _ _) ?_; intro A3 c3 w3 HS3 hsz3; have Z3 : Aside (w3.cell? ⟨w.heap.size, 0, none⟩ = some (.int .u32 op)) := ⟨HS3.up2.blk_at 0 rfl⟩))
    all_goals
      have k1 := HS3.up2.blk_at 1 rfl
      go_wp2_with fail
      refine (rbytes_calls (x := kd) (s := 4) HS3 (by decide) (by decide) kd0 (by omega)).mono ?_
      rintro e w4 ⟨A4, c4, rfl, HS4⟩
      have HU := HS4.up1
      go_upto_region 5 with (at_builtin; go_loud (refine wpList_append_sep rfl (.tmp 15) (.tmp 19) 23 rfl 5 i0 _ 1 1 Try.underlying23 hi0 hz0 hz1 hz2 rfl (by decide) rfl HU rfl HU.rd1 (by8_one _) (by decide) (by decide) rfl (by8_append _ _) ?_); intro A5 c5 w5 HS5 hsz5)
      have HV := HS5.sel 4 [0, 3]
      replace HV : Sep w0 w5 O (own 5 1 A5 (8 + 4 + 4) c5 (by8 (be 8 mRe ++ be 4 op ++ be 4 kd)) :: blk w.heap.size 27 #[.int .u32 op, .int .u32 kd, .slice A n c] :: L) := HV
      clear HS5 HU HS4 k1
      have k2 := HV.up1.blk_at 2 rfl
      go_wp2_with fail
      refine (rbytes_calls (x := (n : Int)) (s := 4) HV (by decide) (by decide) (by omega) (by omega)).mono ?_
      rintro e w6 ⟨A6, c6, rfl, HS6⟩
      have HU := HS6.up1
      go_upto_region 6 with (at_builtin; go_loud (refine wpList_append_sep rfl (.tmp 21) (.tmp 26) 23 rfl 5 i0 _ 1 1 Try.underlying23 hi0 hz0 hz1 hz2 rfl (by decide) rfl HU rfl HU.rd1 (by8_one _) (by decide) (by decide) rfl (by8_append _ _) ?_); intro A7 c7 w7 HS7 hsz7)
      have k3 := HS7.up2.blk_at 2 rfl
      go_wp2_with (at_builtin; go_loud (refine wpList_append_sep rfl (.tmp 28) (.tmp 30) 23 rfl 5 i0 _ 1 1 Try.underlying23 hi0 hz0 hz1 hz2 rfl (by decide) rfl HS7 rfl (hr.cons.cons.cons.read HS7) (by8_one _) (by simp only [maxLen]; omega) (by omega) rfl (by8_append _ _) ?_); intro A8 c8 w8 HS8 hsz8)
      go_ret2
      exact ⟨A8, c8, rfl, HS8.sel 3 [0]⟩
end
end Go.Proofs.Ytgepekailoopeaa
