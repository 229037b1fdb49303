/-
  Contract of hello.Write, by cases.
-/
import Derived.Test.YtgepekailoopeaaHelA
import Derived.Test.YtgepekailoopeaaStrB
import Derived.Laws.Closers25
import Derived.Deep.DeepCutAuto
import Derived.Deep.RegionHeldLaw
namespace Go.Proofs.Ytgepekailoopeaa
open Go.RowKit
set_option linter.unusedVariables false
set_option linter.unusedSimpArgs false
/-- an error; the option; its data -/
structure Ro where
  E : Int
  op : Int
  d : List Int
def noRo (E : Int) : Ro := ⟨E, 0, []⟩
def b2s (l : List Int) : List Int := l.flatMap (be 2)
theorem b2s_len (l : List Int) : (b2s l).length = 2 * l.length := by
  induction l with
  | nil => rfl
  | cons v l ih =>
    have : b2s (v :: l) = be 2 v ++ b2s l := by simp [b2s]
    rw [this, List.length_append, ih, be_len, List.length_cons]; omega
theorem b2s_take {l : List Int} {k : Nat} {v : Int} (h : l[k]? = some v) : b2s (l.take (k + 1)) = b2s (l.take k) ++ be 2 v := by
  rw [List.take_add_one, h]; simp [b2s]
def askD (nm : ByteArray) (inf : List Int) : List Int := be 4 (nm.size : Int) ++ strInts nm ++ be 2 (inf.length : Int) ++ b2s inf
def writeR (op : Int) (nm : ByteArray) (inf : List Int) : Ro :=
  if op = 1 then (if 0 < inf.length then noRo 1 else if 16 < nm.size then noRo 3 else ⟨0, 1, strInts nm⟩)
  else if op = 2 ∨ op = 3 then (if 0 < inf.length ∨ 0 < nm.size then noRo 1 else ⟨0, op, []⟩)
  else if op = 6 ∨ op = 7 then (if 16 < nm.size ∨ 256 < 6 + nm.size + 2 * inf.length then noRo 3 else ⟨0, op, askD nm inf⟩)
  else noRo 6
section
variable {w0 w : World} {O : Nat → Prop} {L : List Asr}
def RoOut (w0 : World) (O : Nat → Prop) (R : Ro) (L : List Asr) : Ending → World → Prop := fun e w' =>
  ∃ A' c', e = .returned (.tuple #[.agg #[.int .u32 R.op, .slice A' R.d.length c'], .int .i64 R.E]) ∧ R.d.length ≤ c' ∧ Sep w0 w' O (ro 1 A' R.d.length (by8 R.d) :: L)
theorem roNone {E : Int} {w' : World} (H : Sep w0 w' O L) : RoOut w0 O (noRo E) L (.returned (.tuple #[.agg #[.int .u32 0, .slice none 0 0], .int .i64 E])) w' := ⟨none, 0, rfl, Nat.le_refl _, H.ronil⟩
theorem nm_isE (nm : ByteArray) : nm.toList.isEmpty = decide (nm.size = 0) := by
  rw [← decide_eq_emptyBytes]
  refine decide_eq_decide.2 ⟨fun e => by subst e; rfl, fun h => ?_⟩
  exact ByteArray.ext (Array.eq_empty_of_size_eq_zero h)
theorem nm_full {nm : ByteArray} (h : 0 < nm.size) : nm.toList.isEmpty = false := by rw [nm_isE]; exact decide_eq_false (by omega)
theorem nm_void {nm : ByteArray} (h : ¬ 0 < nm.size) : nm.toList.isEmpty = true := by rw [nm_isE]; exact decide_eq_true (by omega)
set_option maxHeartbeats 4000000 in
set_option maxRecDepth 100000 in
theorem hwrite_none {op : Int} {nm : ByteArray} {A : Option Addr} {n c : Nat} (HS : Sep w0 w O L) (hf : Instr.findNow (.int .u32) (.int .u32 op) readsM.toList 0 = some none) :
    Calls Try.prog 44 #[.agg #[.int .u32 op, .string nm, .slice A n c]] w (RoOut w0 O (noRo 6) L) := by
  have HSa := (HS.alloc #[.int .u32 op, .string nm, .slice A n c] 66).allocB #[.int .u32 0, .slice none 0 0] 31 (B := w.heap.size + 1) (by simp)
  have Z0 : Aside (((w.alloc (.cells #[.int .u32 op, .string nm, .slice A n c] 66)).alloc (.cells #[.int .u32 0, .slice none 0 0] 31)).drew.cell? ⟨w.heap.size, 0, none⟩ = some (.int .u32 op)) := ⟨HSa.drew.up1.blk_at 0 rfl⟩
  obtain ⟨Q, hQ⟩ : ∃ Q : Ending → World → Prop, Q = RoOut w0 O (noRo 6) L := ⟨_, rfl⟩
  have HQ := hid hQ
  rw [← hQ]
  clear hQ
  have HF := hid hf
  clear hf
  obtain ⟨info, hi, hz⟩ : ∃ info, Try.prog.info? 94 = some info ∧ info.zero = some .nilFunc := by
    have h : (Try.prog.info? 94).map (fun i => i.zero) = some (some .nilFunc) := by kernel_rfl
    obtain ⟨i, hi, hz⟩ := Option.map_eq_some_iff.1 h
    exact ⟨i, hi, hz⟩
  go_enter Try.func44, Try.ntmps44
  go_upto_region 1 with (fail)
  go_region_held_law (fun w' => w'.cell? ⟨w.heap.size, 0, none⟩ = some (.int .u32 op)) (first | with_reducible exact Z1.out | with_reducible exact Z0.out)
    (first | (go_at_call 77; refine (reads_calls HSa.drew).mono ?_; rintro e w3 ⟨r, rfl, HS3⟩; have Z1 : Aside (w3.cell? ⟨w.heap.size, 0, none⟩ = some (.int .u32 op)) := ⟨HS3.up2.blk_at 0 rfl⟩; have lk := HS3.mapMiss (P := Try.prog) 149 _ _ .u32 op Try.underlying149 Try.underlying22 hi hz HF.out))
  all_goals
    clear lk
    have HS4 := HS3.drop
    have a0 := HS4.up1.blk_at 0 rfl
    have a1 := HS4.up1.blk_at 1 rfl
    have a2 := HS4.up1.blk_at 2 rfl
    have cz0 := HS4.blk_at 0 rfl
    have cz1 := HS4.blk_at 1 rfl
    have fz0 := HS4.blk_frozen 0
    have fz1 := HS4.blk_frozen 1
    have HR := HS4.blk_set2 (.int .u32 0) (.slice none 0 0)
    go_wp2
    (try simp only [Exit.inBlock, Exit.then])
    refine bodyPost_ret (results_rowa rfl _ _ _ _ _ _ _ rfl HR.blk_heap Try.underlying31 rfl info_hraw) rfl ?_
    rw [HQ.out]
    exact roNone HR.drop.drop

set_option maxHeartbeats 4000000 in
set_option maxRecDepth 100000 in
theorem hwrite_1a {i : Nat} {v : Value} {nm : ByteArray} {A : Option Addr} {n c : Nat} (HS : Sep w0 w O L) (hf : Instr.findNow (.int .u32) (.int .u32 1) readsM.toList 0 = some (some (i, v))) (h : 0 < n) :
    Calls Try.prog 44 #[.agg #[.int .u32 1, .string nm, .slice A n c]] w (RoOut w0 O (noRo 1) L) := by
  have HSa := (HS.alloc #[.int .u32 1, .string nm, .slice A n c] 66).allocB #[.int .u32 0, .slice none 0 0] 31 (B := w.heap.size + 1) (by simp)
  have Z0 : Aside (((w.alloc (.cells #[.int .u32 1, .string nm, .slice A n c] 66)).alloc (.cells #[.int .u32 0, .slice none 0 0] 31)).drew.cell? ⟨w.heap.size, 0, none⟩ = some (.int .u32 1)) := ⟨HSa.drew.up1.blk_at 0 rfl⟩
  obtain ⟨Q, hQ⟩ : ∃ Q : Ending → World → Prop, Q = RoOut w0 O (noRo 1) L := ⟨_, rfl⟩
  have HQ := hid hQ
  rw [← hQ]
  clear hQ
  have HF := hid hf
  clear hf
  have i1 : (0 : Int) < n := by omega
  clear h
  go_enter Try.func44, Try.ntmps44
  go_upto_region 1 with (fail)
  go_region_held_law (fun w' => w'.cell? ⟨w.heap.size, 0, none⟩ = some (.int .u32 1)) (first | with_reducible exact Z1.out | with_reducible exact Z0.out)
    (first | (go_at_call 77; refine (reads_calls HSa.drew).mono ?_; rintro e w3 ⟨r, rfl, HS3⟩; have Z1 : Aside (w3.cell? ⟨w.heap.size, 0, none⟩ = some (.int .u32 1)) := ⟨HS3.up2.blk_at 0 rfl⟩; have lk := HS3.mapGet (P := Try.prog) 149 _ _ .u32 1 Try.underlying149 Try.underlying22 HF.out))
  all_goals
    clear lk
    have HS4 := HS3.drop
    have a0 := HS4.up1.blk_at 0 rfl
    have a1 := HS4.up1.blk_at 1 rfl
    have a2 := HS4.up1.blk_at 2 rfl
    have cz0 := HS4.blk_at 0 rfl
    have cz1 := HS4.blk_at 1 rfl
    have fz0 := HS4.blk_frozen 0
    have fz1 := HS4.blk_frozen 1
    have HR := HS4.blk_set2 (.int .u32 0) (.slice none 0 0)
    go_wp2
    (try simp only [Exit.inBlock, Exit.then])
    refine bodyPost_ret (results_rowa rfl _ _ _ _ _ _ _ rfl HR.blk_heap Try.underlying31 rfl info_hraw) rfl ?_
    rw [HQ.out]
    exact roNone HR.drop.drop

set_option maxHeartbeats 4000000 in
set_option maxRecDepth 100000 in
theorem hwrite_1b {i : Nat} {v : Value} {nm : ByteArray} {A : Option Addr} {n c : Nat} (HS : Sep w0 w O L) (hf : Instr.findNow (.int .u32) (.int .u32 1) readsM.toList 0 = some (some (i, v))) (h : ¬ 0 < n) (h2 : 16 < nm.size) :
    Calls Try.prog 44 #[.agg #[.int .u32 1, .string nm, .slice A n c]] w (RoOut w0 O (noRo 3) L) := by
  have HSa := (HS.alloc #[.int .u32 1, .string nm, .slice A n c] 66).allocB #[.int .u32 0, .slice none 0 0] 31 (B := w.heap.size + 1) (by simp)
  have Z0 : Aside (((w.alloc (.cells #[.int .u32 1, .string nm, .slice A n c] 66)).alloc (.cells #[.int .u32 0, .slice none 0 0] 31)).drew.cell? ⟨w.heap.size, 0, none⟩ = some (.int .u32 1)) := ⟨HSa.drew.up1.blk_at 0 rfl⟩
  obtain ⟨Q, hQ⟩ : ∃ Q : Ending → World → Prop, Q = RoOut w0 O (noRo 3) L := ⟨_, rfl⟩
  have HQ := hid hQ
  rw [← hQ]
  clear hQ
  have HF := hid hf
  clear hf
  have i1 : ¬ (0 : Int) < n := by omega
  have i2 : 16 < (nm.size : Int) := by omega
  have he : nm.toList.isEmpty = false := nm_full (by omega)
  clear h
  go_enter Try.func44, Try.ntmps44
  go_upto_region 1 with (fail)
  go_region_held_law (fun w' => w'.cell? ⟨w.heap.size, 0, none⟩ = some (.int .u32 1)) (first | with_reducible exact Z1.out | with_reducible exact Z0.out)
    (first | (go_at_call 77; refine (reads_calls HSa.drew).mono ?_; rintro e w3 ⟨r, rfl, HS3⟩; have Z1 : Aside (w3.cell? ⟨w.heap.size, 0, none⟩ = some (.int .u32 1)) := ⟨HS3.up2.blk_at 0 rfl⟩; have lk := HS3.mapGet (P := Try.prog) 149 _ _ .u32 1 Try.underlying149 Try.underlying22 HF.out))
  all_goals
    clear lk
    have HS4 := HS3.drop
    have a0 := HS4.up1.blk_at 0 rfl
    have a1 := HS4.up1.blk_at 1 rfl
    have a2 := HS4.up1.blk_at 2 rfl
    have cz0 := HS4.blk_at 0 rfl
    have cz1 := HS4.blk_at 1 rfl
    have fz0 := HS4.blk_frozen 0
    have fz1 := HS4.blk_frozen 1
    have HR := HS4.blk_set2 (.int .u32 0) (.slice none 0 0)
    go_wp2
    (try simp only [Exit.inBlock, Exit.then])
    refine bodyPost_ret (results_rowa rfl _ _ _ _ _ _ _ rfl HR.blk_heap Try.underlying31 rfl info_hraw) rfl ?_
    rw [HQ.out]
    exact roNone HR.drop.drop

set_option maxHeartbeats 4000000 in
set_option maxRecDepth 100000 in
theorem hwrite_2a {i : Nat} {v : Value} {nm : ByteArray} {A : Option Addr} {n c : Nat} (HS : Sep w0 w O L) (hf : Instr.findNow (.int .u32) (.int .u32 2) readsM.toList 0 = some (some (i, v))) (h : 0 < n) :
    Calls Try.prog 44 #[.agg #[.int .u32 2, .string nm, .slice A n c]] w (RoOut w0 O (noRo 1) L) := by
  have HSa := (HS.alloc #[.int .u32 2, .string nm, .slice A n c] 66).allocB #[.int .u32 0, .slice none 0 0] 31 (B := w.heap.size + 1) (by simp)
  have Z0 : Aside (((w.alloc (.cells #[.int .u32 2, .string nm, .slice A n c] 66)).alloc (.cells #[.int .u32 0, .slice none 0 0] 31)).drew.cell? ⟨w.heap.size, 0, none⟩ = some (.int .u32 2)) := ⟨HSa.drew.up1.blk_at 0 rfl⟩
  obtain ⟨Q, hQ⟩ : ∃ Q : Ending → World → Prop, Q = RoOut w0 O (noRo 1) L := ⟨_, rfl⟩
  have HQ := hid hQ
  rw [← hQ]
  clear hQ
  have HF := hid hf
  clear hf
  have i1 : (0 : Int) < n := by omega
  clear h
  go_enter Try.func44, Try.ntmps44
  go_upto_region 1 with (fail)
  go_region_held_law (fun w' => w'.cell? ⟨w.heap.size, 0, none⟩ = some (.int .u32 2)) (first | with_reducible exact Z1.out | with_reducible exact Z0.out)
    (first | (go_at_call 77; refine (reads_calls HSa.drew).mono ?_; rintro e w3 ⟨r, rfl, HS3⟩; have Z1 : Aside (w3.cell? ⟨w.heap.size, 0, none⟩ = some (.int .u32 2)) := ⟨HS3.up2.blk_at 0 rfl⟩; have lk := HS3.mapGet (P := Try.prog) 149 _ _ .u32 2 Try.underlying149 Try.underlying22 HF.out))
  all_goals
    clear lk
    have HS4 := HS3.drop
    have a0 := HS4.up1.blk_at 0 rfl
    have a1 := HS4.up1.blk_at 1 rfl
    have a2 := HS4.up1.blk_at 2 rfl
    have cz0 := HS4.blk_at 0 rfl
    have cz1 := HS4.blk_at 1 rfl
    have fz0 := HS4.blk_frozen 0
    have fz1 := HS4.blk_frozen 1
    have HR := HS4.blk_set2 (.int .u32 0) (.slice none 0 0)
    go_wp2
    (try simp only [Exit.inBlock, Exit.then])
    refine bodyPost_ret (results_rowa rfl _ _ _ _ _ _ _ rfl HR.blk_heap Try.underlying31 rfl info_hraw) rfl ?_
    rw [HQ.out]
    exact roNone HR.drop.drop

set_option maxHeartbeats 4000000 in
set_option maxRecDepth 100000 in
theorem hwrite_2b {i : Nat} {v : Value} {nm : ByteArray} {A : Option Addr} {n c : Nat} (HS : Sep w0 w O L) (hf : Instr.findNow (.int .u32) (.int .u32 2) readsM.toList 0 = some (some (i, v))) (h : ¬ 0 < n) (h2 : 0 < nm.size) :
    Calls Try.prog 44 #[.agg #[.int .u32 2, .string nm, .slice A n c]] w (RoOut w0 O (noRo 1) L) := by
  have HSa := (HS.alloc #[.int .u32 2, .string nm, .slice A n c] 66).allocB #[.int .u32 0, .slice none 0 0] 31 (B := w.heap.size + 1) (by simp)
  have Z0 : Aside (((w.alloc (.cells #[.int .u32 2, .string nm, .slice A n c] 66)).alloc (.cells #[.int .u32 0, .slice none 0 0] 31)).drew.cell? ⟨w.heap.size, 0, none⟩ = some (.int .u32 2)) := ⟨HSa.drew.up1.blk_at 0 rfl⟩
  obtain ⟨Q, hQ⟩ : ∃ Q : Ending → World → Prop, Q = RoOut w0 O (noRo 1) L := ⟨_, rfl⟩
  have HQ := hid hQ
  rw [← hQ]
  clear hQ
  have HF := hid hf
  clear hf
  have i1 : ¬ (0 : Int) < n := by omega
  have he : nm.toList.isEmpty = false := nm_full h2
  clear h h2
  go_enter Try.func44, Try.ntmps44
  go_upto_region 1 with (fail)
  go_region_held_law (fun w' => w'.cell? ⟨w.heap.size, 0, none⟩ = some (.int .u32 2)) (first | with_reducible exact Z1.out | with_reducible exact Z0.out)
    (first | (go_at_call 77; refine (reads_calls HSa.drew).mono ?_; rintro e w3 ⟨r, rfl, HS3⟩; have Z1 : Aside (w3.cell? ⟨w.heap.size, 0, none⟩ = some (.int .u32 2)) := ⟨HS3.up2.blk_at 0 rfl⟩; have lk := HS3.mapGet (P := Try.prog) 149 _ _ .u32 2 Try.underlying149 Try.underlying22 HF.out))
  all_goals
    clear lk
    have HS4 := HS3.drop
    have a0 := HS4.up1.blk_at 0 rfl
    have a1 := HS4.up1.blk_at 1 rfl
    have a2 := HS4.up1.blk_at 2 rfl
    have cz0 := HS4.blk_at 0 rfl
    have cz1 := HS4.blk_at 1 rfl
    have fz0 := HS4.blk_frozen 0
    have fz1 := HS4.blk_frozen 1
    have HR := HS4.blk_set2 (.int .u32 0) (.slice none 0 0)
    go_wp2
    (try simp only [Exit.inBlock, Exit.then])
    refine bodyPost_ret (results_rowa rfl _ _ _ _ _ _ _ rfl HR.blk_heap Try.underlying31 rfl info_hraw) rfl ?_
    rw [HQ.out]
    exact roNone HR.drop.drop

set_option maxHeartbeats 4000000 in
set_option maxRecDepth 100000 in
theorem hwrite_3a {i : Nat} {v : Value} {nm : ByteArray} {A : Option Addr} {n c : Nat} (HS : Sep w0 w O L) (hf : Instr.findNow (.int .u32) (.int .u32 3) readsM.toList 0 = some (some (i, v))) (h : 0 < n) :
    Calls Try.prog 44 #[.agg #[.int .u32 3, .string nm, .slice A n c]] w (RoOut w0 O (noRo 1) L) := by
  have HSa := (HS.alloc #[.int .u32 3, .string nm, .slice A n c] 66).allocB #[.int .u32 0, .slice none 0 0] 31 (B := w.heap.size + 1) (by simp)
  have Z0 : Aside (((w.alloc (.cells #[.int .u32 3, .string nm, .slice A n c] 66)).alloc (.cells #[.int .u32 0, .slice none 0 0] 31)).drew.cell? ⟨w.heap.size, 0, none⟩ = some (.int .u32 3)) := ⟨HSa.drew.up1.blk_at 0 rfl⟩
  obtain ⟨Q, hQ⟩ : ∃ Q : Ending → World → Prop, Q = RoOut w0 O (noRo 1) L := ⟨_, rfl⟩
  have HQ := hid hQ
  rw [← hQ]
  clear hQ
  have HF := hid hf
  clear hf
  have i1 : (0 : Int) < n := by omega
  clear h
  go_enter Try.func44, Try.ntmps44
  go_upto_region 1 with (fail)
  go_region_held_law (fun w' => w'.cell? ⟨w.heap.size, 0, none⟩ = some (.int .u32 3)) (first | with_reducible exact Z1.out | with_reducible exact Z0.out)
    (first | (go_at_call 77; refine (reads_calls HSa.drew).mono ?_; rintro e w3 ⟨r, rfl, HS3⟩; have Z1 : Aside (w3.cell? ⟨w.heap.size, 0, none⟩ = some (.int .u32 3)) := ⟨HS3.up2.blk_at 0 rfl⟩; have lk := HS3.mapGet (P := Try.prog) 149 _ _ .u32 3 Try.underlying149 Try.underlying22 HF.out))
  all_goals
    clear lk
    have HS4 := HS3.drop
    have a0 := HS4.up1.blk_at 0 rfl
    have a1 := HS4.up1.blk_at 1 rfl
    have a2 := HS4.up1.blk_at 2 rfl
    have cz0 := HS4.blk_at 0 rfl
    have cz1 := HS4.blk_at 1 rfl
    have fz0 := HS4.blk_frozen 0
    have fz1 := HS4.blk_frozen 1
    have HR := HS4.blk_set2 (.int .u32 0) (.slice none 0 0)
    go_wp2
    (try simp only [Exit.inBlock, Exit.then])
    refine bodyPost_ret (results_rowa rfl _ _ _ _ _ _ _ rfl HR.blk_heap Try.underlying31 rfl info_hraw) rfl ?_
    rw [HQ.out]
    exact roNone HR.drop.drop

set_option maxHeartbeats 4000000 in
set_option maxRecDepth 100000 in
theorem hwrite_3b {i : Nat} {v : Value} {nm : ByteArray} {A : Option Addr} {n c : Nat} (HS : Sep w0 w O L) (hf : Instr.findNow (.int .u32) (.int .u32 3) readsM.toList 0 = some (some (i, v))) (h : ¬ 0 < n) (h2 : 0 < nm.size) :
    Calls Try.prog 44 #[.agg #[.int .u32 3, .string nm, .slice A n c]] w (RoOut w0 O (noRo 1) L) := by
  have HSa := (HS.alloc #[.int .u32 3, .string nm, .slice A n c] 66).allocB #[.int .u32 0, .slice none 0 0] 31 (B := w.heap.size + 1) (by simp)
  have Z0 : Aside (((w.alloc (.cells #[.int .u32 3, .string nm, .slice A n c] 66)).alloc (.cells #[.int .u32 0, .slice none 0 0] 31)).drew.cell? ⟨w.heap.size, 0, none⟩ = some (.int .u32 3)) := ⟨HSa.drew.up1.blk_at 0 rfl⟩
  obtain ⟨Q, hQ⟩ : ∃ Q : Ending → World → Prop, Q = RoOut w0 O (noRo 1) L := ⟨_, rfl⟩
  have HQ := hid hQ
  rw [← hQ]
  clear hQ
  have HF := hid hf
  clear hf
  have i1 : ¬ (0 : Int) < n := by omega
  have he : nm.toList.isEmpty = false := nm_full h2
  clear h h2
  go_enter Try.func44, Try.ntmps44
  go_upto_region 1 with (fail)
  go_region_held_law (fun w' => w'.cell? ⟨w.heap.size, 0, none⟩ = some (.int .u32 3)) (first | with_reducible exact Z1.out | with_reducible exact Z0.out)
    (first | (go_at_call 77; refine (reads_calls HSa.drew).mono ?_; rintro e w3 ⟨r, rfl, HS3⟩; have Z1 : Aside (w3.cell? ⟨w.heap.size, 0, none⟩ = some (.int .u32 3)) := ⟨HS3.up2.blk_at 0 rfl⟩; have lk := HS3.mapGet (P := Try.prog) 149 _ _ .u32 3 Try.underlying149 Try.underlying22 HF.out))
  all_goals
    clear lk
    have HS4 := HS3.drop
    have a0 := HS4.up1.blk_at 0 rfl
    have a1 := HS4.up1.blk_at 1 rfl
    have a2 := HS4.up1.blk_at 2 rfl
    have cz0 := HS4.blk_at 0 rfl
    have cz1 := HS4.blk_at 1 rfl
    have fz0 := HS4.blk_frozen 0
    have fz1 := HS4.blk_frozen 1
    have HR := HS4.blk_set2 (.int .u32 0) (.slice none 0 0)
    go_wp2
    (try simp only [Exit.inBlock, Exit.then])
    refine bodyPost_ret (results_rowa rfl _ _ _ _ _ _ _ rfl HR.blk_heap Try.underlying31 rfl info_hraw) rfl ?_
    rw [HQ.out]
    exact roNone HR.drop.drop

set_option maxHeartbeats 4000000 in
set_option maxRecDepth 100000 in
theorem hwrite_6a {i : Nat} {v : Value} {nm : ByteArray} {A : Option Addr} {n c : Nat} (HS : Sep w0 w O L) (hf : Instr.findNow (.int .u32) (.int .u32 6) readsM.toList 0 = some (some (i, v))) (h2 : 16 < nm.size) :
    Calls Try.prog 44 #[.agg #[.int .u32 6, .string nm, .slice A n c]] w (RoOut w0 O (noRo 3) L) := by
  have HSa := (HS.alloc #[.int .u32 6, .string nm, .slice A n c] 66).allocB #[.int .u32 0, .slice none 0 0] 31 (B := w.heap.size + 1) (by simp)
  have Z0 : Aside (((w.alloc (.cells #[.int .u32 6, .string nm, .slice A n c] 66)).alloc (.cells #[.int .u32 0, .slice none 0 0] 31)).drew.cell? ⟨w.heap.size, 0, none⟩ = some (.int .u32 6)) := ⟨HSa.drew.up1.blk_at 0 rfl⟩
  obtain ⟨Q, hQ⟩ : ∃ Q : Ending → World → Prop, Q = RoOut w0 O (noRo 3) L := ⟨_, rfl⟩
  have HQ := hid hQ
  rw [← hQ]
  clear hQ
  have HF := hid hf
  clear hf
  have i2 : 16 < (nm.size : Int) := by omega
  have he : nm.toList.isEmpty = false := nm_full (by omega)
  clear h2
  go_enter Try.func44, Try.ntmps44
  go_upto_region 1 with (fail)
  go_region_held_law (fun w' => w'.cell? ⟨w.heap.size, 0, none⟩ = some (.int .u32 6)) (first | with_reducible exact Z1.out | with_reducible exact Z0.out)
    (first | (go_at_call 77; refine (reads_calls HSa.drew).mono ?_; rintro e w3 ⟨r, rfl, HS3⟩; have Z1 : Aside (w3.cell? ⟨w.heap.size, 0, none⟩ = some (.int .u32 6)) := ⟨HS3.up2.blk_at 0 rfl⟩; have lk := HS3.mapGet (P := Try.prog) 149 _ _ .u32 6 Try.underlying149 Try.underlying22 HF.out))
  all_goals
    clear lk
    have HS4 := HS3.drop
    have a0 := HS4.up1.blk_at 0 rfl
    have a1 := HS4.up1.blk_at 1 rfl
    have a2 := HS4.up1.blk_at 2 rfl
    have cz0 := HS4.blk_at 0 rfl
    have cz1 := HS4.blk_at 1 rfl
    have fz0 := HS4.blk_frozen 0
    have fz1 := HS4.blk_frozen 1
    have HR := HS4.blk_set2 (.int .u32 0) (.slice none 0 0)
    go_wp2
    (try simp only [Exit.inBlock, Exit.then])
    refine bodyPost_ret (results_rowa rfl _ _ _ _ _ _ _ rfl HR.blk_heap Try.underlying31 rfl info_hraw) rfl ?_
    rw [HQ.out]
    exact roNone HR.drop.drop

set_option maxHeartbeats 4000000 in
set_option maxRecDepth 100000 in
theorem hwrite_6b {i : Nat} {v : Value} {nm : ByteArray} {A : Option Addr} {n c : Nat} (HS : Sep w0 w O L) (hf : Instr.findNow (.int .u32) (.int .u32 6) readsM.toList 0 = some (some (i, v))) (h2 : ¬ 16 < nm.size) (hn : n ≤ 70368744177664) (h : 256 < 6 + nm.size + 2 * n) :
    Calls Try.prog 44 #[.agg #[.int .u32 6, .string nm, .slice A n c]] w (RoOut w0 O (noRo 3) L) := by
  have HSa := (HS.alloc #[.int .u32 6, .string nm, .slice A n c] 66).allocB #[.int .u32 0, .slice none 0 0] 31 (B := w.heap.size + 1) (by simp)
  have Z0 : Aside (((w.alloc (.cells #[.int .u32 6, .string nm, .slice A n c] 66)).alloc (.cells #[.int .u32 0, .slice none 0 0] 31)).drew.cell? ⟨w.heap.size, 0, none⟩ = some (.int .u32 6)) := ⟨HSa.drew.up1.blk_at 0 rfl⟩
  obtain ⟨Q, hQ⟩ : ∃ Q : Ending → World → Prop, Q = RoOut w0 O (noRo 3) L := ⟨_, rfl⟩
  have HQ := hid hQ
  rw [← hQ]
  clear hQ
  have HF := hid hf
  clear hf
  have i2 : ¬ 16 < (nm.size : Int) := by omega
  have i3 : IntKind.i64.wrap (2 * (n : Int)) = 2 * n := by rw [IntKind.wrap_i64]; omega
  have i4 : IntKind.i64.wrap (6 + (nm.size : Int)) = 6 + nm.size := by rw [IntKind.wrap_i64]; omega
  have i5 : IntKind.i64.wrap (6 + (nm.size : Int) + 2 * n) = 6 + nm.size + 2 * n := by rw [IntKind.wrap_i64]; omega
  have i6 : 256 < 6 + (nm.size : Int) + 2 * n := by omega
  clear h2 h hn
  rcases he : nm.toList.isEmpty with _ | _
  all_goals
    go_enter Try.func44, Try.ntmps44
    go_upto_region 1 with (fail)
    go_region_held_law (fun w' => w'.cell? ⟨w.heap.size, 0, none⟩ = some (.int .u32 6)) (first | with_reducible exact Z1.out | with_reducible exact Z0.out)
      (first | (go_at_call 77; refine (reads_calls HSa.drew).mono ?_; rintro e w3 ⟨r, rfl, HS3⟩; have Z1 : Aside (w3.cell? ⟨w.heap.size, 0, none⟩ = some (.int .u32 6)) := ⟨HS3.up2.blk_at 0 rfl⟩; have lk := HS3.mapGet (P := Try.prog) 149 _ _ .u32 6 Try.underlying149 Try.underlying22 HF.out))
    all_goals
      clear lk
      have HS4 := HS3.drop
      have a0 := HS4.up1.blk_at 0 rfl
      have a1 := HS4.up1.blk_at 1 rfl
      have a2 := HS4.up1.blk_at 2 rfl
      have cz0 := HS4.blk_at 0 rfl
      have cz1 := HS4.blk_at 1 rfl
      have fz0 := HS4.blk_frozen 0
      have fz1 := HS4.blk_frozen 1
      have HR := HS4.blk_set2 (.int .u32 0) (.slice none 0 0)
      go_wp2
      (try simp only [Exit.inBlock, Exit.then])
      refine bodyPost_ret (results_rowa rfl _ _ _ _ _ _ _ rfl HR.blk_heap Try.underlying31 rfl info_hraw) rfl ?_
      rw [HQ.out]
      exact roNone HR.drop.drop

set_option maxHeartbeats 4000000 in
set_option maxRecDepth 100000 in
theorem hwrite_7a {i : Nat} {v : Value} {nm : ByteArray} {A : Option Addr} {n c : Nat} (HS : Sep w0 w O L) (hf : Instr.findNow (.int .u32) (.int .u32 7) readsM.toList 0 = some (some (i, v))) (h2 : 16 < nm.size) :
    Calls Try.prog 44 #[.agg #[.int .u32 7, .string nm, .slice A n c]] w (RoOut w0 O (noRo 3) L) := by
  have HSa := (HS.alloc #[.int .u32 7, .string nm, .slice A n c] 66).allocB #[.int .u32 0, .slice none 0 0] 31 (B := w.heap.size + 1) (by simp)
  have Z0 : Aside (((w.alloc (.cells #[.int .u32 7, .string nm, .slice A n c] 66)).alloc (.cells #[.int .u32 0, .slice none 0 0] 31)).drew.cell? ⟨w.heap.size, 0, none⟩ = some (.int .u32 7)) := ⟨HSa.drew.up1.blk_at 0 rfl⟩
  obtain ⟨Q, hQ⟩ : ∃ Q : Ending → World → Prop, Q = RoOut w0 O (noRo 3) L := ⟨_, rfl⟩
  have HQ := hid hQ
  rw [← hQ]
  clear hQ
  have HF := hid hf
  clear hf
  have i2 : 16 < (nm.size : Int) := by omega
  have he : nm.toList.isEmpty = false := nm_full (by omega)
  clear h2
  go_enter Try.func44, Try.ntmps44
  go_upto_region 1 with (fail)
  go_region_held_law (fun w' => w'.cell? ⟨w.heap.size, 0, none⟩ = some (.int .u32 7)) (first | with_reducible exact Z1.out | with_reducible exact Z0.out)
    (first | (go_at_call 77; refine (reads_calls HSa.drew).mono ?_; rintro e w3 ⟨r, rfl, HS3⟩; have Z1 : Aside (w3.cell? ⟨w.heap.size, 0, none⟩ = some (.int .u32 7)) := ⟨HS3.up2.blk_at 0 rfl⟩; have lk := HS3.mapGet (P := Try.prog) 149 _ _ .u32 7 Try.underlying149 Try.underlying22 HF.out))
  all_goals
    clear lk
    have HS4 := HS3.drop
    have a0 := HS4.up1.blk_at 0 rfl
    have a1 := HS4.up1.blk_at 1 rfl
    have a2 := HS4.up1.blk_at 2 rfl
    have cz0 := HS4.blk_at 0 rfl
    have cz1 := HS4.blk_at 1 rfl
    have fz0 := HS4.blk_frozen 0
    have fz1 := HS4.blk_frozen 1
    have HR := HS4.blk_set2 (.int .u32 0) (.slice none 0 0)
    go_wp2
    (try simp only [Exit.inBlock, Exit.then])
    refine bodyPost_ret (results_rowa rfl _ _ _ _ _ _ _ rfl HR.blk_heap Try.underlying31 rfl info_hraw) rfl ?_
    rw [HQ.out]
    exact roNone HR.drop.drop

set_option maxHeartbeats 4000000 in
set_option maxRecDepth 100000 in
theorem hwrite_7b {i : Nat} {v : Value} {nm : ByteArray} {A : Option Addr} {n c : Nat} (HS : Sep w0 w O L) (hf : Instr.findNow (.int .u32) (.int .u32 7) readsM.toList 0 = some (some (i, v))) (h2 : ¬ 16 < nm.size) (hn : n ≤ 70368744177664) (h : 256 < 6 + nm.size + 2 * n) :
    Calls Try.prog 44 #[.agg #[.int .u32 7, .string nm, .slice A n c]] w (RoOut w0 O (noRo 3) L) := by
  have HSa := (HS.alloc #[.int .u32 7, .string nm, .slice A n c] 66).allocB #[.int .u32 0, .slice none 0 0] 31 (B := w.heap.size + 1) (by simp)
  have Z0 : Aside (((w.alloc (.cells #[.int .u32 7, .string nm, .slice A n c] 66)).alloc (.cells #[.int .u32 0, .slice none 0 0] 31)).drew.cell? ⟨w.heap.size, 0, none⟩ = some (.int .u32 7)) := ⟨HSa.drew.up1.blk_at 0 rfl⟩
  obtain ⟨Q, hQ⟩ : ∃ Q : Ending → World → Prop, Q = RoOut w0 O (noRo 3) L := ⟨_, rfl⟩
  have HQ := hid hQ
  rw [← hQ]
  clear hQ
  have HF := hid hf
  clear hf
  have i2 : ¬ 16 < (nm.size : Int) := by omega
  have i3 : IntKind.i64.wrap (2 * (n : Int)) = 2 * n := by rw [IntKind.wrap_i64]; omega
  have i4 : IntKind.i64.wrap (6 + (nm.size : Int)) = 6 + nm.size := by rw [IntKind.wrap_i64]; omega
  have i5 : IntKind.i64.wrap (6 + (nm.size : Int) + 2 * n) = 6 + nm.size + 2 * n := by rw [IntKind.wrap_i64]; omega
  have i6 : 256 < 6 + (nm.size : Int) + 2 * n := by omega
  clear h2 h hn
  rcases he : nm.toList.isEmpty with _ | _
  all_goals
    go_enter Try.func44, Try.ntmps44
    go_upto_region 1 with (fail)
    go_region_held_law (fun w' => w'.cell? ⟨w.heap.size, 0, none⟩ = some (.int .u32 7)) (first | with_reducible exact Z1.out | with_reducible exact Z0.out)
      (first | (go_at_call 77; refine (reads_calls HSa.drew).mono ?_; rintro e w3 ⟨r, rfl, HS3⟩; have Z1 : Aside (w3.cell? ⟨w.heap.size, 0, none⟩ = some (.int .u32 7)) := ⟨HS3.up2.blk_at 0 rfl⟩; have lk := HS3.mapGet (P := Try.prog) 149 _ _ .u32 7 Try.underlying149 Try.underlying22 HF.out))
    all_goals
      clear lk
      have HS4 := HS3.drop
      have a0 := HS4.up1.blk_at 0 rfl
      have a1 := HS4.up1.blk_at 1 rfl
      have a2 := HS4.up1.blk_at 2 rfl
      have cz0 := HS4.blk_at 0 rfl
      have cz1 := HS4.blk_at 1 rfl
      have fz0 := HS4.blk_frozen 0
      have fz1 := HS4.blk_frozen 1
      have HR := HS4.blk_set2 (.int .u32 0) (.slice none 0 0)
      go_wp2
      (try simp only [Exit.inBlock, Exit.then])
      refine bodyPost_ret (results_rowa rfl _ _ _ _ _ _ _ rfl HR.blk_heap Try.underlying31 rfl info_hraw) rfl ?_
      rw [HQ.out]
      exact roNone HR.drop.drop

set_option maxHeartbeats 4000000 in
set_option maxRecDepth 100000 in
theorem hwrite_1c {i : Nat} {v : Value} {nm : ByteArray} {A : Option Addr} {n c : Nat} (HS : Sep w0 w O L) (hf : Instr.findNow (.int .u32) (.int .u32 1) readsM.toList 0 = some (some (i, v))) (h : ¬ 0 < n) (h2 : ¬ 16 < nm.size) :
    Calls Try.prog 44 #[.agg #[.int .u32 1, .string nm, .slice A n c]] w (RoOut w0 O ⟨0, 1, strInts nm⟩ L) := by
  have HSa := (HS.alloc #[.int .u32 1, .string nm, .slice A n c] 66).allocB #[.int .u32 0, .slice none 0 0] 31 (B := w.heap.size + 1) (by simp)
  have Z0 : Aside (((w.alloc (.cells #[.int .u32 1, .string nm, .slice A n c] 66)).alloc (.cells #[.int .u32 0, .slice none 0 0] 31)).drew.cell? ⟨w.heap.size, 0, none⟩ = some (.int .u32 1)) := ⟨HSa.drew.up1.blk_at 0 rfl⟩
  obtain ⟨Q, hQ⟩ : ∃ Q : Ending → World → Prop, Q = RoOut w0 O ⟨0, 1, strInts nm⟩ L := ⟨_, rfl⟩
  have HQ := hid hQ
  rw [← hQ]
  clear hQ
  have HF := hid hf
  clear hf
  have i1 : ¬ (0 : Int) < n := by omega
  have i2 : ¬ 16 < (nm.size : Int) := by omega
  have i3 : ¬ 256 < (6 : Int) + nm.size + 2 * n := by omega
  have i4 : IntKind.i64.wrap (2 * (n : Int)) = 2 * n := by rw [IntKind.wrap_i64]; omega
  have i5 : IntKind.i64.wrap (6 + (nm.size : Int)) = 6 + nm.size := by rw [IntKind.wrap_i64]; omega
  have i6 : IntKind.i64.wrap (6 + (nm.size : Int) + 2 * n) = 6 + nm.size + 2 * n := by rw [IntKind.wrap_i64]; omega
  clear h h2
  rcases he : nm.toList.isEmpty with _ | _
  all_goals
    go_enter Try.func44, Try.ntmps44
    go_upto_region 1 with (fail)
    go_region_held_law (fun w' => w'.cell? ⟨w.heap.size, 0, none⟩ = some (.int .u32 1)) (first | with_reducible exact Z1.out | with_reducible exact Z0.out)
      (first | (go_at_call 77; refine (reads_calls HSa.drew).mono ?_; rintro e w3 ⟨r, rfl, HS3⟩; have Z1 : Aside (w3.cell? ⟨w.heap.size, 0, none⟩ = some (.int .u32 1)) := ⟨HS3.up2.blk_at 0 rfl⟩; have lk := HS3.mapGet (P := Try.prog) 149 _ _ .u32 1 Try.underlying149 Try.underlying22 HF.out))
    all_goals
      clear lk
      have HS4 := HS3.drop
      have a0 := HS4.up1.blk_at 0 rfl
      have a1 := HS4.up1.blk_at 1 rfl
      have a2 := HS4.up1.blk_at 2 rfl
      obtain ⟨A5, c5, w5, hcv, HS5, hc5⟩ := HS4.strb (P := Try.prog) 9 23 5 nm Try.underlying9 Try.underlying23 Try.underlying5
      have HS6 := HS5.alloc #[.int .u32 1, .slice A5 nm.size c5] 31
      have HB := HS6.up2
      have cz0 := HB.blk_at 0 rfl
      have cz1 := HB.blk_at 1 rfl
      have fz0 := HB.blk_frozen 0
      have fz1 := HB.blk_frozen 1
      have HR := HB.blk_set2 (.int .u32 1) (.slice A5 nm.size c5)
      go_wp2
      (try simp only [Exit.inBlock, Exit.then])
      refine bodyPost_ret (results_rowa rfl _ _ _ _ _ _ _ rfl HR.blk_heap Try.underlying31 rfl info_hraw) rfl ?_
      rw [HQ.out]
      exact ⟨A5, c5, by rw [strInts_len]; rfl, by rw [strInts_len]; exact hc5, by rw [strInts_len]; exact HR.sel 4 [2]⟩

set_option maxHeartbeats 4000000 in
set_option maxRecDepth 100000 in
theorem hwrite_2c {i : Nat} {v : Value} {nm : ByteArray} {A : Option Addr} {n c : Nat} (HS : Sep w0 w O L) (hf : Instr.findNow (.int .u32) (.int .u32 2) readsM.toList 0 = some (some (i, v))) (h : ¬ 0 < n) (h2 : ¬ 0 < nm.size) :
    Calls Try.prog 44 #[.agg #[.int .u32 2, .string nm, .slice A n c]] w (RoOut w0 O ⟨0, 2, strInts nm⟩ L) := by
  have HSa := (HS.alloc #[.int .u32 2, .string nm, .slice A n c] 66).allocB #[.int .u32 0, .slice none 0 0] 31 (B := w.heap.size + 1) (by simp)
  have Z0 : Aside (((w.alloc (.cells #[.int .u32 2, .string nm, .slice A n c] 66)).alloc (.cells #[.int .u32 0, .slice none 0 0] 31)).drew.cell? ⟨w.heap.size, 0, none⟩ = some (.int .u32 2)) := ⟨HSa.drew.up1.blk_at 0 rfl⟩
  obtain ⟨Q, hQ⟩ : ∃ Q : Ending → World → Prop, Q = RoOut w0 O ⟨0, 2, strInts nm⟩ L := ⟨_, rfl⟩
  have HQ := hid hQ
  rw [← hQ]
  clear hQ
  have HF := hid hf
  clear hf
  have i1 : ¬ (0 : Int) < n := by omega
  have i2 : ¬ 16 < (nm.size : Int) := by omega
  have i3 : ¬ 256 < (6 : Int) + nm.size + 2 * n := by omega
  have i4 : IntKind.i64.wrap (2 * (n : Int)) = 2 * n := by rw [IntKind.wrap_i64]; omega
  have i5 : IntKind.i64.wrap (6 + (nm.size : Int)) = 6 + nm.size := by rw [IntKind.wrap_i64]; omega
  have i6 : IntKind.i64.wrap (6 + (nm.size : Int) + 2 * n) = 6 + nm.size + 2 * n := by rw [IntKind.wrap_i64]; omega
  have he : nm.toList.isEmpty = true := nm_void h2
  clear h h2
  go_enter Try.func44, Try.ntmps44
  go_upto_region 1 with (fail)
  go_region_held_law (fun w' => w'.cell? ⟨w.heap.size, 0, none⟩ = some (.int .u32 2)) (first | with_reducible exact Z1.out | with_reducible exact Z0.out)
    (first | (go_at_call 77; refine (reads_calls HSa.drew).mono ?_; rintro e w3 ⟨r, rfl, HS3⟩; have Z1 : Aside (w3.cell? ⟨w.heap.size, 0, none⟩ = some (.int .u32 2)) := ⟨HS3.up2.blk_at 0 rfl⟩; have lk := HS3.mapGet (P := Try.prog) 149 _ _ .u32 2 Try.underlying149 Try.underlying22 HF.out))
  all_goals
    clear lk
    have HS4 := HS3.drop
    have a0 := HS4.up1.blk_at 0 rfl
    have a1 := HS4.up1.blk_at 1 rfl
    have a2 := HS4.up1.blk_at 2 rfl
    obtain ⟨A5, c5, w5, hcv, HS5, hc5⟩ := HS4.strb (P := Try.prog) 9 23 5 nm Try.underlying9 Try.underlying23 Try.underlying5
    have HS6 := HS5.alloc #[.int .u32 2, .slice A5 nm.size c5] 31
    have HB := HS6.up2
    have cz0 := HB.blk_at 0 rfl
    have cz1 := HB.blk_at 1 rfl
    have fz0 := HB.blk_frozen 0
    have fz1 := HB.blk_frozen 1
    have HR := HB.blk_set2 (.int .u32 2) (.slice A5 nm.size c5)
    go_wp2
    (try simp only [Exit.inBlock, Exit.then])
    refine bodyPost_ret (results_rowa rfl _ _ _ _ _ _ _ rfl HR.blk_heap Try.underlying31 rfl info_hraw) rfl ?_
    rw [HQ.out]
    exact ⟨A5, c5, by rw [strInts_len]; rfl, by rw [strInts_len]; exact hc5, by rw [strInts_len]; exact HR.sel 4 [2]⟩

set_option maxHeartbeats 4000000 in
set_option maxRecDepth 100000 in
theorem hwrite_3c {i : Nat} {v : Value} {nm : ByteArray} {A : Option Addr} {n c : Nat} (HS : Sep w0 w O L) (hf : Instr.findNow (.int .u32) (.int .u32 3) readsM.toList 0 = some (some (i, v))) (h : ¬ 0 < n) (h2 : ¬ 0 < nm.size) :
    Calls Try.prog 44 #[.agg #[.int .u32 3, .string nm, .slice A n c]] w (RoOut w0 O ⟨0, 3, strInts nm⟩ L) := by
  have HSa := (HS.alloc #[.int .u32 3, .string nm, .slice A n c] 66).allocB #[.int .u32 0, .slice none 0 0] 31 (B := w.heap.size + 1) (by simp)
  have Z0 : Aside (((w.alloc (.cells #[.int .u32 3, .string nm, .slice A n c] 66)).alloc (.cells #[.int .u32 0, .slice none 0 0] 31)).drew.cell? ⟨w.heap.size, 0, none⟩ = some (.int .u32 3)) := ⟨HSa.drew.up1.blk_at 0 rfl⟩
  obtain ⟨Q, hQ⟩ : ∃ Q : Ending → World → Prop, Q = RoOut w0 O ⟨0, 3, strInts nm⟩ L := ⟨_, rfl⟩
  have HQ := hid hQ
  rw [← hQ]
  clear hQ
  have HF := hid hf
  clear hf
  have i1 : ¬ (0 : Int) < n := by omega
  have i2 : ¬ 16 < (nm.size : Int) := by omega
  have i3 : ¬ 256 < (6 : Int) + nm.size + 2 * n := by omega
  have i4 : IntKind.i64.wrap (2 * (n : Int)) = 2 * n := by rw [IntKind.wrap_i64]; omega
  have i5 : IntKind.i64.wrap (6 + (nm.size : Int)) = 6 + nm.size := by rw [IntKind.wrap_i64]; omega
  have i6 : IntKind.i64.wrap (6 + (nm.size : Int) + 2 * n) = 6 + nm.size + 2 * n := by rw [IntKind.wrap_i64]; omega
  have he : nm.toList.isEmpty = true := nm_void h2
  clear h h2
  go_enter Try.func44, Try.ntmps44
  go_upto_region 1 with (fail)
  go_region_held_law (fun w' => w'.cell? ⟨w.heap.size, 0, none⟩ = some (.int .u32 3)) (first | with_reducible exact Z1.out | with_reducible exact Z0.out)
    (first | (go_at_call 77; refine (reads_calls HSa.drew).mono ?_; rintro e w3 ⟨r, rfl, HS3⟩; have Z1 : Aside (w3.cell? ⟨w.heap.size, 0, none⟩ = some (.int .u32 3)) := ⟨HS3.up2.blk_at 0 rfl⟩; have lk := HS3.mapGet (P := Try.prog) 149 _ _ .u32 3 Try.underlying149 Try.underlying22 HF.out))
  all_goals
    clear lk
    have HS4 := HS3.drop
    have a0 := HS4.up1.blk_at 0 rfl
    have a1 := HS4.up1.blk_at 1 rfl
    have a2 := HS4.up1.blk_at 2 rfl
    obtain ⟨A5, c5, w5, hcv, HS5, hc5⟩ := HS4.strb (P := Try.prog) 9 23 5 nm Try.underlying9 Try.underlying23 Try.underlying5
    have HS6 := HS5.alloc #[.int .u32 3, .slice A5 nm.size c5] 31
    have HB := HS6.up2
    have cz0 := HB.blk_at 0 rfl
    have cz1 := HB.blk_at 1 rfl
    have fz0 := HB.blk_frozen 0
    have fz1 := HB.blk_frozen 1
    have HR := HB.blk_set2 (.int .u32 3) (.slice A5 nm.size c5)
    go_wp2
    (try simp only [Exit.inBlock, Exit.then])
    refine bodyPost_ret (results_rowa rfl _ _ _ _ _ _ _ rfl HR.blk_heap Try.underlying31 rfl info_hraw) rfl ?_
    rw [HQ.out]
    exact ⟨A5, c5, by rw [strInts_len]; rfl, by rw [strInts_len]; exact hc5, by rw [strInts_len]; exact HR.sel 4 [2]⟩
end
end Go.Proofs.Ytgepekailoopeaa
