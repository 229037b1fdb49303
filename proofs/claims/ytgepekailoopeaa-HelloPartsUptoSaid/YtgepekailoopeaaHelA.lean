/-
  Contract of hello.Read.
-/
import Derived.Test.YtgepekailoopeaaHel9
namespace Go.Proofs.Ytgepekailoopeaa
open Go.RowKit
set_option linter.unusedVariables false
set_option linter.unusedSimpArgs false
/-- an error; else: the option, the name, the infos -/
structure Wi where
  E : Int
  op : Int
  nm : ByteArray
  inf : List Int
def noWi (E : Int) : Wi := ⟨E, 0, eStr, []⟩
def askW (op : Int) (d : List Int) : Wi :=
  if d.length < 4 ∨ (d.length : Int) - 4 < fN d 0 4 then noWi 5
  else if (d.drop (4 + (fN d 0 4).toNat)).length < 2 ∨ ((d.drop (4 + (fN d 0 4).toNat)).length : Int) - 2 ≠ 2 * fN (d.drop (4 + (fN d 0 4).toNat)) 0 2 then noWi 5
  else if 16 < (fN d 0 4).toNat then noWi 3
  else ⟨0, op, strOfNums ((d.drop 4).take (fN d 0 4).toNat), n2s ((d.drop (4 + (fN d 0 4).toNat)).drop 2) (fN (d.drop (4 + (fN d 0 4).toNat)) 0 2).toNat⟩
def readW (op : Int) (d : List Int) : Wi :=
  if op = 1 then (if 16 < d.length then noWi 3 else ⟨0, op, strOfNums d, []⟩)
  else if op = 2 ∨ op = 3 then (if 0 < d.length then noWi 5 else ⟨0, op, eStr, []⟩)
  else if op = 6 ∨ op = 7 then askW op d
  else noWi 6
section
variable {w0 w : World} {O : Nat → Prop} {L : List Asr}
/-- what is answered, and what of it is new memory -/
def WiOut (w0 : World) (O : Nat → Prop) (t : TypeId) (W : Wi) (L : List Asr) : Ending → World → Prop := fun e w' =>
  ∃ A' c', e = .returned (.tuple #[.agg #[.int .u32 W.op, .string W.nm, .slice A' W.inf.length c'], .int .i64 W.E]) ∧ Sep w0 w' O (own t 1 A' W.inf.length c' (kv .u16 W.inf) :: L)

theorem asks_calls {op : Int} {A : Option Addr} {n c : Nat} {d : List Int} (HS : Sep w0 w O L) (hr : Rb w0 O L 1 A n (by8 d)) (hb : Byt d) (hl : n ≤ 140737488355328) :
    Calls Try.prog 89 #[.agg #[.int .u32 op, .slice A n c]] w (WiOut w0 O 71 (askW op d) L) := by
  by_cases h1 : d.length < 4 ∨ (d.length : Int) - 4 < fN d 0 4
  · have e : askW op d = noWi 5 := by unfold askW; rw [if_pos h1]
    rw [e]
    refine (asks_bad1 HS hr hb hl h1).mono ?_
    rintro e w' ⟨rfl, H⟩
    exact ⟨none, 0, rfl, H.nil _ _⟩
  have hbd := fN_bd hb 0 4
  obtain ⟨x, hx⟩ : ∃ x : Nat, fN d 0 4 = x := ⟨_, (Int.toNat_of_nonneg hbd.1).symm⟩
  obtain ⟨r, hrr⟩ : ∃ r, d.drop (4 + x) = r := ⟨_, rfl⟩
  by_cases h2 : r.length < 2 ∨ (r.length : Int) - 2 ≠ 2 * fN r 0 2
  · have e : askW op d = noWi 5 := by unfold askW; rw [if_neg h1, hx, Int.toNat_natCast, hrr, if_pos h2]
    rw [e]
    refine (asks_bad2 (E := 5) HS hr hb hl hx (by omega) hrr (by omega) (fun _ => rfl)).mono ?_
    rintro e w' ⟨rfl, H⟩
    exact ⟨none, 0, rfl, H.nil _ _⟩
  by_cases h3 : 16 < x
  · have e : askW op d = noWi 3 := by unfold askW; rw [if_neg h1, hx, Int.toNat_natCast, hrr, if_neg h2, if_pos h3]
    rw [e]
    refine (asks_bad2 (E := 3) HS hr hb hl hx (by omega) hrr (by omega) (fun h => by omega)).mono ?_
    rintro e w' ⟨rfl, H⟩
    exact ⟨none, 0, rfl, H.nil _ _⟩
  have hbr : Byt r := by rw [← hrr]; exact hb.drop _
  have hbd2 := fN_bd hbr 0 2
  obtain ⟨k, hk⟩ : ∃ k : Nat, fN r 0 2 = k := ⟨_, (Int.toNat_of_nonneg hbd2.1).symm⟩
  have e : askW op d = ⟨0, op, strOfNums ((d.drop 4).take x), n2s (r.drop 2) k⟩ := by unfold askW; rw [if_neg h1, hx, Int.toNat_natCast, hrr, if_neg h2, if_neg h3, hk, Int.toNat_natCast]
  rw [e]
  refine (asks_ok HS hr hb hl hx (by omega) hrr (by omega) hk (by omega)).mono ?_
  rintro e w' ⟨A', c', rfl, H⟩
  have hlen := n2s_len (r.drop 2) k
  refine ⟨A', c', ?_, ?_⟩
  · dsimp only; rw [hlen]
  · dsimp only; rw [hlen]; exact H

set_option maxHeartbeats 4000000 in
set_option maxRecDepth 100000 in
theorem read_name {op : Int} {A : Option Addr} {n c i : Nat} {d : List Int} {W : Wi} (HS : Sep w0 w O L) (hr : Rb w0 O L 1 A n (by8 d))
    (hf : Instr.findNow (.int .u32) (.int .u32 op) readsM.toList 0 = some (some (i, fnV 87)))
    (HC : ∀ {w : World} {L : List Asr}, Sep w0 w O L → Rb w0 O L 1 A n (by8 d) → Calls Try.prog 87 #[.agg #[.int .u32 op, .slice A n c]] w (WiOut w0 O 71 W L)) :
    Calls Try.prog 46 #[.agg #[.int .u32 op, .slice A n c]] w (WiOut w0 O 71 W L) := by
  have HSa := (HS.alloc #[.int .u32 op, .slice A n c] 31).allocB zWish 66 (B := w.heap.size + 1) (by simp)
  have Z0 : Aside (((w.alloc (.cells #[.int .u32 op, .slice A n c] 31)).alloc (.cells zWish 66)).drew.cell? ⟨w.heap.size, 0, none⟩ = some (.int .u32 op)) := ⟨HSa.drew.up1.blk_at 0 rfl⟩
  have HF := hid hf
  have HCC := hid @HC
  obtain ⟨Q, hQ⟩ : ∃ Q : Ending → World → Prop, Q = WiOut w0 O 71 W L := ⟨_, rfl⟩
  have HQ := hid hQ
  rw [← hQ]
  clear hf HC hQ
  go_enter Try.func46, Try.ntmps46
  go_upto_region 1 with (fail)
  go_region_held_law (fun w' => w'.cell? ⟨w.heap.size, 0, none⟩ = some (.int .u32 op)) (first | with_reducible exact Z1.out | with_reducible exact Z0.out)
    (first | (go_at_call 77; refine (reads_calls HSa.drew).mono ?_; rintro e w3 ⟨r, rfl, HS3⟩; have Z1 : Aside (w3.cell? ⟨w.heap.size, 0, none⟩ = some (.int .u32 op)) := ⟨HS3.up2.blk_at 0 rfl⟩; have lk := HS3.mapGet (P := Try.prog) 149 _ _ .u32 op Try.underlying149 Try.underlying22 HF.out))
  all_goals
    have a0 := HS3.up2.blk_at 0 rfl
    have a1 := HS3.up2.blk_at 1 rfl
    have HS4 := HS3.drop
    clear lk
    go_wp2_with fail
    refine (HCC.out HS4 hr.cons.cons).mono ?_
    rintro e w5 ⟨A5, c5, rfl, HS5⟩
    have HB := HS5.up1
    have cz0 := HB.blk_at 0 rfl
    have cz1 := HB.blk_at 1 rfl
    have cz2 := HB.blk_at 2 rfl
    have fz0 := HB.blk_frozen 0
    have fz1 := HB.blk_frozen 1
    have fz2 := HB.blk_frozen 2
    have HR := HB.blk_set3 (.int .u32 W.op) (.string W.nm) (.slice A5 W.inf.length c5)
    go_wp2
    (try simp only [Exit.inBlock, Exit.then])
    refine bodyPost_ret (results_rowa rfl _ _ _ _ _ _ _ rfl HR.blk_heap Try.underlying66 rfl info_hwish) rfl ?_
    rw [HQ.out]
    exact ⟨A5, c5, rfl, HR.sel 3 [1]⟩

set_option maxHeartbeats 4000000 in
set_option maxRecDepth 100000 in
theorem read_none {op : Int} {A : Option Addr} {n c i : Nat} {d : List Int} {W : Wi} (HS : Sep w0 w O L) (hr : Rb w0 O L 1 A n (by8 d))
    (hf : Instr.findNow (.int .u32) (.int .u32 op) readsM.toList 0 = some (some (i, fnV 88)))
    (HC : ∀ {w : World} {L : List Asr}, Sep w0 w O L → Rb w0 O L 1 A n (by8 d) → Calls Try.prog 88 #[.agg #[.int .u32 op, .slice A n c]] w (WiOut w0 O 71 W L)) :
    Calls Try.prog 46 #[.agg #[.int .u32 op, .slice A n c]] w (WiOut w0 O 71 W L) := by
  have HSa := (HS.alloc #[.int .u32 op, .slice A n c] 31).allocB zWish 66 (B := w.heap.size + 1) (by simp)
  have Z0 : Aside (((w.alloc (.cells #[.int .u32 op, .slice A n c] 31)).alloc (.cells zWish 66)).drew.cell? ⟨w.heap.size, 0, none⟩ = some (.int .u32 op)) := ⟨HSa.drew.up1.blk_at 0 rfl⟩
  have HF := hid hf
  have HCC := hid @HC
  obtain ⟨Q, hQ⟩ : ∃ Q : Ending → World → Prop, Q = WiOut w0 O 71 W L := ⟨_, rfl⟩
  have HQ := hid hQ
  rw [← hQ]
  clear hf HC hQ
  go_enter Try.func46, Try.ntmps46
  go_upto_region 1 with (fail)
  go_region_held_law (fun w' => w'.cell? ⟨w.heap.size, 0, none⟩ = some (.int .u32 op)) (first | with_reducible exact Z1.out | with_reducible exact Z0.out)
    (first | (go_at_call 77; refine (reads_calls HSa.drew).mono ?_; rintro e w3 ⟨r, rfl, HS3⟩; have Z1 : Aside (w3.cell? ⟨w.heap.size, 0, none⟩ = some (.int .u32 op)) := ⟨HS3.up2.blk_at 0 rfl⟩; have lk := HS3.mapGet (P := Try.prog) 149 _ _ .u32 op Try.underlying149 Try.underlying22 HF.out))
  all_goals
    have a0 := HS3.up2.blk_at 0 rfl
    have a1 := HS3.up2.blk_at 1 rfl
    have HS4 := HS3.drop
    clear lk
    go_wp2_with fail
    refine (HCC.out HS4 hr.cons.cons).mono ?_
    rintro e w5 ⟨A5, c5, rfl, HS5⟩
    have HB := HS5.up1
    have cz0 := HB.blk_at 0 rfl
    have cz1 := HB.blk_at 1 rfl
    have cz2 := HB.blk_at 2 rfl
    have fz0 := HB.blk_frozen 0
    have fz1 := HB.blk_frozen 1
    have fz2 := HB.blk_frozen 2
    have HR := HB.blk_set3 (.int .u32 W.op) (.string W.nm) (.slice A5 W.inf.length c5)
    go_wp2
    (try simp only [Exit.inBlock, Exit.then])
    refine bodyPost_ret (results_rowa rfl _ _ _ _ _ _ _ rfl HR.blk_heap Try.underlying66 rfl info_hwish) rfl ?_
    rw [HQ.out]
    exact ⟨A5, c5, rfl, HR.sel 3 [1]⟩

set_option maxHeartbeats 4000000 in
set_option maxRecDepth 100000 in
theorem read_asks {op : Int} {A : Option Addr} {n c i : Nat} {d : List Int} {W : Wi} (HS : Sep w0 w O L) (hr : Rb w0 O L 1 A n (by8 d))
    (hf : Instr.findNow (.int .u32) (.int .u32 op) readsM.toList 0 = some (some (i, fnV 89)))
    (HC : ∀ {w : World} {L : List Asr}, Sep w0 w O L → Rb w0 O L 1 A n (by8 d) → Calls Try.prog 89 #[.agg #[.int .u32 op, .slice A n c]] w (WiOut w0 O 71 W L)) :
    Calls Try.prog 46 #[.agg #[.int .u32 op, .slice A n c]] w (WiOut w0 O 71 W L) := by
  have HSa := (HS.alloc #[.int .u32 op, .slice A n c] 31).allocB zWish 66 (B := w.heap.size + 1) (by simp)
  have Z0 : Aside (((w.alloc (.cells #[.int .u32 op, .slice A n c] 31)).alloc (.cells zWish 66)).drew.cell? ⟨w.heap.size, 0, none⟩ = some (.int .u32 op)) := ⟨HSa.drew.up1.blk_at 0 rfl⟩
  have HF := hid hf
  have HCC := hid @HC
  obtain ⟨Q, hQ⟩ : ∃ Q : Ending → World → Prop, Q = WiOut w0 O 71 W L := ⟨_, rfl⟩
  have HQ := hid hQ
  rw [← hQ]
  clear hf HC hQ
  go_enter Try.func46, Try.ntmps46
  go_upto_region 1 with (fail)
  go_region_held_law (fun w' => w'.cell? ⟨w.heap.size, 0, none⟩ = some (.int .u32 op)) (first | with_reducible exact Z1.out | with_reducible exact Z0.out)
    (first | (go_at_call 77; refine (reads_calls HSa.drew).mono ?_; rintro e w3 ⟨r, rfl, HS3⟩; have Z1 : Aside (w3.cell? ⟨w.heap.size, 0, none⟩ = some (.int .u32 op)) := ⟨HS3.up2.blk_at 0 rfl⟩; have lk := HS3.mapGet (P := Try.prog) 149 _ _ .u32 op Try.underlying149 Try.underlying22 HF.out))
  all_goals
    have a0 := HS3.up2.blk_at 0 rfl
    have a1 := HS3.up2.blk_at 1 rfl
    have HS4 := HS3.drop
    clear lk
    go_wp2_with fail
    refine (HCC.out HS4 hr.cons.cons).mono ?_
    rintro e w5 ⟨A5, c5, rfl, HS5⟩
    have HB := HS5.up1
    have cz0 := HB.blk_at 0 rfl
    have cz1 := HB.blk_at 1 rfl
    have cz2 := HB.blk_at 2 rfl
    have fz0 := HB.blk_frozen 0
    have fz1 := HB.blk_frozen 1
    have fz2 := HB.blk_frozen 2
    have HR := HB.blk_set3 (.int .u32 W.op) (.string W.nm) (.slice A5 W.inf.length c5)
    go_wp2
    (try simp only [Exit.inBlock, Exit.then])
    refine bodyPost_ret (results_rowa rfl _ _ _ _ _ _ _ rfl HR.blk_heap Try.underlying66 rfl info_hwish) rfl ?_
    rw [HQ.out]
    exact ⟨A5, c5, rfl, HR.sel 3 [1]⟩

set_option maxHeartbeats 4000000 in
set_option maxRecDepth 100000 in
theorem read_miss {op : Int} {A : Option Addr} {n c : Nat} (HS : Sep w0 w O L) (hf : Instr.findNow (.int .u32) (.int .u32 op) readsM.toList 0 = some none) :
    Calls Try.prog 46 #[.agg #[.int .u32 op, .slice A n c]] w fun e w' => e = .returned (.tuple #[.agg zWish, .int .i64 6]) ∧ Sep w0 w' O L := by
  have HSa := (HS.alloc #[.int .u32 op, .slice A n c] 31).allocB zWish 66 (B := w.heap.size + 1) (by simp)
  have Z0 : Aside (((w.alloc (.cells #[.int .u32 op, .slice A n c] 31)).alloc (.cells zWish 66)).drew.cell? ⟨w.heap.size, 0, none⟩ = some (.int .u32 op)) := ⟨HSa.drew.up1.blk_at 0 rfl⟩
  have HF := hid hf
  clear hf
  obtain ⟨info, hi, hz⟩ : ∃ info, Try.prog.info? 94 = some info ∧ info.zero = some .nilFunc := by
    have h : (Try.prog.info? 94).map (fun i => i.zero) = some (some .nilFunc) := by kernel_rfl
    obtain ⟨i, hi, hz⟩ := Option.map_eq_some_iff.1 h
    exact ⟨i, hi, hz⟩
  go_enter Try.func46, Try.ntmps46
  go_upto_region 1 with (fail)
  go_region_held_law (fun w' => w'.cell? ⟨w.heap.size, 0, none⟩ = some (.int .u32 op)) (first | with_reducible exact Z1.out | with_reducible exact Z0.out)
    (first | (go_at_call 77; refine (reads_calls HSa.drew).mono ?_; rintro e w3 ⟨r, rfl, HS3⟩; have Z1 : Aside (w3.cell? ⟨w.heap.size, 0, none⟩ = some (.int .u32 op)) := ⟨HS3.up2.blk_at 0 rfl⟩; have lk := HS3.mapMiss (P := Try.prog) 149 _ _ .u32 op Try.underlying149 Try.underlying22 hi hz HF.out))
  all_goals
    have HB := HS3.up1
    have cz0 := HB.blk_at 0 rfl
    have cz1 := HB.blk_at 1 rfl
    have cz2 := HB.blk_at 2 rfl
    have fz0 := HB.blk_frozen 0
    have fz1 := HB.blk_frozen 1
    have fz2 := HB.blk_frozen 2
    have HR := HB.blk_set3 (.int .u32 0) (.string ByteArray.empty) (.slice none 0 0)
    clear lk
    go_wp2
    (try simp only [Exit.inBlock, Exit.then])
    refine bodyPost_ret (results_rowa rfl _ _ _ _ _ _ _ rfl HR.blk_heap Try.underlying66 rfl info_hwish) rfl ?_
    exact ⟨rfl, HR.drop.drop.drop⟩
theorem find_at {op : Int} : Instr.findNow (.int .u32) (.int .u32 op) readsM.toList 0 = (if op = 1 then some (some (0, fnV 87)) else if op = 2 then some (some (1, fnV 88)) else if op = 3 then some (some (2, fnV 88)) else if op = 6 then some (some (3, fnV 89)) else if op = 7 then some (some (4, fnV 89)) else some none) := by
  simp only [Instr.findNow, Instr.sameNow, if_true]
  by_cases h1 : op = 1
  · subst h1; rfl
  by_cases h2 : op = 2
  · subst h2; rfl
  by_cases h3 : op = 3
  · subst h3; rfl
  by_cases h6 : op = 6
  · subst h6; rfl
  by_cases h7 : op = 7
  · subst h7; rfl
  have b1 := beq_eq_false_iff_ne.2 h1
  have b2 := beq_eq_false_iff_ne.2 h2
  have b3 := beq_eq_false_iff_ne.2 h3
  have b6 := beq_eq_false_iff_ne.2 h6
  have b7 := beq_eq_false_iff_ne.2 h7
  rw [b1, b2, b3, b6, b7, if_neg h1, if_neg h2, if_neg h3, if_neg h6, if_neg h7]
theorem read_calls {op : Int} {A : Option Addr} {n c : Nat} {d : List Int} (HS : Sep w0 w O L) (hr : Rb w0 O L 1 A n (by8 d)) (hb : Byt d) (hl : n ≤ 140737488355328) :
    Calls Try.prog 46 #[.agg #[.int .u32 op, .slice A n c]] w (WiOut w0 O 71 (readW op d) L) := by
  have hnone : ∀ {w : World} {L : List Asr}, Sep w0 w O L → Rb w0 O L 1 A n (by8 d) → Calls Try.prog 88 #[.agg #[.int .u32 op, .slice A n c]] w (WiOut w0 O 71 (if 0 < d.length then noWi 5 else ⟨0, op, eStr, []⟩) L) := by
    intro w L H R
    refine (none_calls H R).mono ?_
    rintro e w' ⟨rfl, H'⟩
    by_cases h : 0 < d.length
    · rw [if_pos h, if_pos h]; exact ⟨none, 0, rfl, H'.nil _ _⟩
    · rw [if_neg h, if_neg h]; exact ⟨none, 0, rfl, H'.nil _ _⟩
  have hname : ∀ {w : World} {L : List Asr}, Sep w0 w O L → Rb w0 O L 1 A n (by8 d) → Calls Try.prog 87 #[.agg #[.int .u32 op, .slice A n c]] w (WiOut w0 O 71 (if 16 < d.length then noWi 3 else ⟨0, op, strOfNums d, []⟩) L) := by
    intro w L H R
    refine (name_calls H R).mono ?_
    rintro e w' ⟨rfl, H'⟩
    by_cases h : 16 < d.length
    · rw [if_pos h, if_pos h]; exact ⟨none, 0, rfl, H'.nil _ _⟩
    · rw [if_neg h, if_neg h]; exact ⟨none, 0, rfl, H'.nil _ _⟩
  have hask : ∀ {w : World} {L : List Asr}, Sep w0 w O L → Rb w0 O L 1 A n (by8 d) → Calls Try.prog 89 #[.agg #[.int .u32 op, .slice A n c]] w (WiOut w0 O 71 (askW op d) L) := fun H R => asks_calls H R hb hl
  have hf := @find_at op
  unfold readW
  by_cases h1 : op = 1
  · rw [if_pos h1] at hf ⊢
    exact read_name HS hr hf hname
  rw [if_neg h1] at hf ⊢
  by_cases h2 : op = 2
  · rw [if_pos h2] at hf
    rw [if_pos (.inl h2)]
    exact read_none HS hr hf hnone
  rw [if_neg h2] at hf
  by_cases h3 : op = 3
  · rw [if_pos h3] at hf
    rw [if_pos (.inr h3)]
    exact read_none HS hr hf hnone
  rw [if_neg h3] at hf
  rw [if_neg (by omega)]
  by_cases h6 : op = 6
  · rw [if_pos h6] at hf
    rw [if_pos (.inl h6)]
    exact read_asks HS hr hf hask
  rw [if_neg h6] at hf
  by_cases h7 : op = 7
  · rw [if_pos h7] at hf
    rw [if_pos (.inr h7)]
    exact read_asks HS hr hf hask
  rw [if_neg h7] at hf
  rw [if_neg (by omega)]
  refine (read_miss HS hf).mono ?_
  rintro e w' ⟨rfl, H⟩
  exact ⟨none, 0, rfl, H.nil _ _⟩
end
end Go.Proofs.Ytgepekailoopeaa
