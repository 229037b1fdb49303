/-
  Contract of cisternref22.Read: a name and infos; whole.
-/
import Derived.Test.YtgepekailoopeaaRefRd22
import Derived.Deep.DeepCutAuto
import Derived.Deep.RegionHeldLaw
namespace Go.Proofs.Ytgepekailoopeaa
open Go.RowKit
set_option linter.unusedVariables false
set_option linter.unusedSimpArgs false
section
variable {w0 w : World} {O : Nat → Prop} {L : List Asr}
theorem Sep.someW (h : Sep w0 w O L) : ∃ W, W = w ∧ Sep w0 W O L := ⟨w, rfl, h⟩
set_option maxHeartbeats 4000000 in
set_option maxRecDepth 100000 in
theorem rread_bad1 {op : Int} {A : Option Addr} {n c : Nat} {d : List Int} (ho : op = 6 ∨ op = 7) (HS : Sep w0 w O L) (hr : Rb w0 O L 1 A n (by8 d)) (hb : Byt d) (hc : n ≤ c) (hl : n ≤ 140737488355328) (h : d.length < 4 ∨ (d.length : Int) - 4 < fN d 0 4) :
    Calls Try.prog 47 #[.agg #[.int .u32 op, .slice A n c]] w (WiOut w0 O 71 (noWi 5) L) := by
  have hn := hr.klen HS
  obtain ⟨Q, hQ⟩ : ∃ Q : Ending → World → Prop, Q = WiOut w0 O 71 (noWi 5) L := ⟨_, rfl⟩
  have HQ := hid hQ
  rw [← hQ]
  have HR := ((HS.alloc #[.int .u32 op, .slice A n c] 25).allocB zWish 55 (B := w.heap.size + 1) (by simp)).allocB #[.int .u32 op, .string eStr, .slice none 0 0] 55 (B := w.heap.size + 2) (by simp)
  by_cases h4 : n < 4
  · have i1 : (n : Int) < 4 := by omega
    clear h hn hQ h4
    rcases ho with rfl | rfl
    all_goals
      go_enter Try.func47, Try.ntmps47
      go_wp2
      (try simp only [Exit.inBlock, Exit.then])
      refine bodyPost_ret (results_rowa rfl _ _ _ _ _ _ _ rfl HR.up1.blk_heap Try.underlying55 rfl info_rwish) rfl ?_
      rw [HQ.out]
      exact ⟨none, 0, rfl, HR.drop.drop.drop.nil _ _⟩
  · obtain ⟨ad, rfl⟩ : ∃ ad, A = some ad := by
      obtain ⟨ad, y, e, _⟩ := hr.elemn HS (j := 0) (by omega)
      exact ⟨ad, e⟩
    have HM := hid (rnum_head (k := 4) (c := c) HR hr.cons.cons.cons hb (by omega) (by decide))
    have hx : (n : Int) - 4 < fN d 0 4 := by omega
    generalize fN d 0 4 = x at *
    have i1 : ¬ (n : Int) < 4 := by omega
    have i2 : (4 : Int) ≤ c := by omega
    have i3 : IntKind.u64.wrap ((n : Int) - 4) = n - 4 := by rw [IntKind.wrap_u64]; omega
    have i4 : IntKind.i64.wrap ((n : Int) - 4) = n - 4 := by rw [IntKind.wrap_i64]; omega
    clear h hn hQ h4
    rcases ho with rfl | rfl
    all_goals
      go_enter Try.func47, Try.ntmps47
      go_wp2_with fail
      refine HM.out.mono ?_
      rintro e w1 ⟨rfl, rfl⟩
      go_wp2
      (try simp only [Exit.inBlock, Exit.then])
      refine bodyPost_ret (results_rowa rfl _ _ _ _ _ _ _ rfl HR.up1.blk_heap Try.underlying55 rfl info_rwish) rfl ?_
      rw [HQ.out]
      exact ⟨none, 0, rfl, HR.drop.drop.drop.nil _ _⟩

set_option maxHeartbeats 8000000 in
set_option maxRecDepth 100000 in
theorem rread_bad2 {op E : Int} {A : Option Addr} {n c x : Nat} {d : List Int} (ho : op = 6 ∨ op = 7) (HS : Sep w0 w O L) (hr : Rb w0 O L 1 A n (by8 d)) (hb : Byt d) (hc : n ≤ c) (hl : n ≤ 140737488355328) (hx : fN d 0 4 = x) (hxl : 4 + x ≤ d.length) {r : List Int} (hrr : d.drop (4 + x) = r) (h : r.length < 2 ∧ E = 5 ∨ 2 ≤ r.length ∧ ((r.length : Int) - 2 ≠ 2 * fN r 0 2 ∧ E = 5 ∨ (r.length : Int) - 2 = 2 * fN r 0 2 ∧ 16 < x ∧ E = 3)) :
    Calls Try.prog 47 #[.agg #[.int .u32 op, .slice A n c]] w (WiOut w0 O 71 (noWi E) L) := by
  have hn := hr.klen HS
  obtain ⟨Q, hQ⟩ : ∃ Q : Ending → World → Prop, Q = WiOut w0 O 71 (noWi E) L := ⟨_, rfl⟩
  have HQ := hid hQ
  rw [← hQ]
  have HR := ((HS.alloc #[.int .u32 op, .slice A n c] 25).allocB zWish 55 (B := w.heap.size + 1) (by simp)).allocB #[.int .u32 op, .string eStr, .slice none 0 0] 55 (B := w.heap.size + 2) (by simp)
  obtain ⟨ad, rfl⟩ : ∃ ad, A = some ad := by
    obtain ⟨ad, y, e, _⟩ := hr.elemn HS (j := 0) (by omega)
    exact ⟨ad, e⟩
  have HM : Aside (∀ {w' : World} {L' : List Asr}, Sep w0 w' O L' → Rb w0 O L' 1 (some ad) n (by8 d) → Calls Try.prog 35 #[.slice (some ad) 4 c] w' fun e w2 => e = .returned (.int .u64 (x : Int)) ∧ w' = w2) := ⟨by
    intro w' L' H q
    have := rnum_head (k := 4) (c := c) H q hb (by omega) (by decide)
    rwa [hx] at this⟩
  obtain ⟨m, hm⟩ : ∃ m, m = r.length := ⟨_, rfl⟩
  have hml : (m : Int) = n - (4 + x) := by rw [hm, ← hrr, List.length_drop]; omega
  obtain ⟨EA, hEA⟩ : ∃ EA : Option Addr, (if c = 4 + x then some ad else some (ad.add (4 + x))) = EA := ⟨_, rfl⟩
  have hcut : Rb w0 O L 1 EA m (by8 r) := by
    have := hr.ktail hn.symm.symm (j := 4 + x) (cap := c) (by omega) hc
    rw [Option.map_some, hEA, hrr, show n - (4 + x) = m by omega] at this
    exact this
  rw [← hm] at h
  obtain ⟨DA, hDA⟩ : ∃ DA : Option Addr, (if c = 4 then some ad else some ⟨ad.block, ad.off + 4, none⟩) = DA := ⟨_, rfl⟩
  have hbr : Byt r := by rw [← hrr]; exact hb.drop _
  have i1 : ¬ (n : Int) < 4 := by omega
  have i2 : (4 : Int) ≤ c := by omega
  have i3 : IntKind.u64.wrap ((n : Int) - 4) = n - 4 := by rw [IntKind.wrap_u64]; omega
  have i4 : IntKind.i64.wrap ((n : Int) - 4) = n - 4 := by rw [IntKind.wrap_i64]; omega
  have i5 : ¬ ((n : Int) - 4 < x) := by omega
  have j1 : IntKind.i64.wrap (x : Int) = x := by rw [IntKind.wrap_i64]; omega
  have j2 : IntKind.i64.wrap ((4 : Int) + x) = 4 + x := by rw [IntKind.wrap_i64]; omega
  have j3 : (4 : Int) ≤ 4 + x := by omega
  have j4 : (4 : Int) + x ≤ c := by omega
  have j5 : ((4 : Int) + x).toNat = 4 + x := by omega
  have j6 : 4 + x - 4 = x := by omega
  have j7 : (4 : Int) + x ≤ n := by omega
  have j8 : n - (4 + x) = m := by omega
  have j9 : (0 : Int) ≤ 4 + x := by omega
  have hnm : m ≤ 140737488355328 := by omega
  have HCUT := hid hcut
  have HBR := hid hbr
  have hcm : m ≤ c - (4 + x) := by omega
  clear hn hQ hx hxl hrr hm hml hcut hbr
  rcases h with ⟨h2, rfl⟩ | ⟨h2, h⟩
  · have k1 : (m : Int) < 2 := by omega
    rcases ho with rfl | rfl
    all_goals
      go_enter Try.func47, Try.ntmps47
      go_wp2_with fail
      with_reducible refine (HM.out HR hr.cons.cons.cons).mono ?_
      rintro e w1 ⟨rfl, rfl⟩
      go_wp2_with fail
      with_reducible refine (HM.out HR hr.cons.cons.cons).mono ?_
      rintro e w1 ⟨rfl, rfl⟩
      go_upto_region 19 with (fail)
      go_quiet (fail)
      obtain ⟨w6, hw6, HR2⟩ := (HR.drewN nq).someW
      rw [← hw6]
      clear hw6 HR HM
      have cz0 := HR2.up1.blk_at 0 rfl
      have cz1 := HR2.up1.blk_at 1 rfl
      have cz2 := HR2.up1.blk_at 2 rfl
      have fz0 := HR2.up1.blk_frozen 0
      have fz1 := HR2.up1.blk_frozen 1
      have fz2 := HR2.up1.blk_frozen 2
      have HR3 := HR2.up1.blk_set3 (.int .u32 0) (.string { data := #[] }) (.slice none 0 0)
      go_wp2
      (try simp only [Exit.inBlock, Exit.then])
      refine bodyPost_ret (results_rowa rfl _ _ _ _ _ _ _ rfl HR3.blk_heap Try.underlying55 rfl info_rwish) rfl ?_
      rw [HQ.out]
      exact ⟨none, 0, rfl, HR3.drop.drop.drop.nil _ _⟩
  · have c6 : ¬ c = 4 + x := by omega
    have c4 : ¬ c = 4 := by omega
    rw [if_neg c6] at hEA
    rw [if_neg c4] at hDA
    subst hEA
    subst hDA
    have HN2 : Aside (∀ {w' : World} {L' : List Asr}, Sep w0 w' O L' → Rb w0 O L' 1 (some (ad.add (4 + x))) m (by8 r) → Calls Try.prog 35 #[.slice (some (ad.add (4 + x))) 2 (c - (4 + x))] w' fun e w2 => e = .returned (.int .u64 (fN r 0 2)) ∧ w' = w2) := ⟨fun H q => rnum_head (k := 2) H q HBR.out h2 (by decide)⟩
    have b3 := fN_bd HBR.out 0 2
    simp only [show (256 : Int) ^ 2 = 65536 from rfl] at b3
    generalize fN r 0 2 = y at *
    have k1 : ¬ (m : Int) < 2 := by omega
    have k2 : (2 : Int) ≤ (c - (4 + x) : Nat) := by omega
    have k3 : IntKind.u64.wrap (2 * y) = 2 * y := by rw [IntKind.wrap_u64]; omega
    have k4 : IntKind.u64.wrap ((m : Int) - 2) = m - 2 := by rw [IntKind.wrap_u64]; omega
    have k5 : IntKind.i64.wrap ((m : Int) - 2) = m - 2 := by rw [IntKind.wrap_i64]; omega
    clear b3 h2
    rcases h with ⟨h, rfl⟩ | ⟨h, h16, rfl⟩
    · have k6 : (((m : Int) - 2) != 2 * y) = true := by simpa using h
      clear h
      rcases ho with rfl | rfl
      all_goals
        go_enter Try.func47, Try.ntmps47
        go_wp2_with fail
        with_reducible refine (HM.out HR hr.cons.cons.cons).mono ?_
        rintro e w1 ⟨rfl, rfl⟩
        go_wp2_with fail
        with_reducible refine (HM.out HR hr.cons.cons.cons).mono ?_
        rintro e w1 ⟨rfl, rfl⟩
        go_upto_region 19 with (fail)
        go_quiet (fail)
        obtain ⟨w6, hw6, HR2⟩ := (HR.drewN nq).someW
        rw [← hw6]
        clear hw6 HR HM
        have cz0 := HR2.up1.blk_at 0 rfl
        have cz1 := HR2.up1.blk_at 1 rfl
        have cz2 := HR2.up1.blk_at 2 rfl
        have fz0 := HR2.up1.blk_frozen 0
        have fz1 := HR2.up1.blk_frozen 1
        have fz2 := HR2.up1.blk_frozen 2
        have HR3 := HR2.up1.blk_set3 (.int .u32 0) (.string { data := #[] }) (.slice none 0 0)
        go_wp2_with fail
        with_reducible refine (HN2.out HR2 HCUT.out.cons.cons.cons).mono ?_
        rintro e w1 ⟨rfl, rfl⟩
        go_wp2
        (try simp only [Exit.inBlock, Exit.then])
        refine bodyPost_ret (results_rowa rfl _ _ _ _ _ _ _ rfl HR3.blk_heap Try.underlying55 rfl info_rwish) rfl ?_
        rw [HQ.out]
        exact ⟨none, 0, rfl, HR3.drop.drop.drop.nil _ _⟩
    · have k6 : (((m : Int) - 2) != 2 * y) = false := by simp; omega
      have k7 : (16 : Int) < x := by omega
      clear h h16
      rcases ho with rfl | rfl
      all_goals
        go_enter Try.func47, Try.ntmps47
        go_wp2_with fail
        with_reducible refine (HM.out HR hr.cons.cons.cons).mono ?_
        rintro e w1 ⟨rfl, rfl⟩
        go_wp2_with fail
        with_reducible refine (HM.out HR hr.cons.cons.cons).mono ?_
        rintro e w1 ⟨rfl, rfl⟩
        go_upto_region 19 with (fail)
        go_quiet (fail)
        obtain ⟨w6, hw6, HR2⟩ := (HR.drewN nq).someW
        rw [← hw6]
        clear hw6 HR HM
        have cz0 := HR2.up1.blk_at 0 rfl
        have cz1 := HR2.up1.blk_at 1 rfl
        have cz2 := HR2.up1.blk_at 2 rfl
        have fz0 := HR2.up1.blk_frozen 0
        have fz1 := HR2.up1.blk_frozen 1
        have fz2 := HR2.up1.blk_frozen 2
        have HR3 := HR2.up1.blk_set3 (.int .u32 0) (.string { data := #[] }) (.slice none 0 0)
        go_wp2_with fail
        with_reducible refine (HN2.out HR2 HCUT.out.cons.cons.cons).mono ?_
        rintro e w1 ⟨rfl, rfl⟩
        go_wp2
        (try simp only [Exit.inBlock, Exit.then])
        refine bodyPost_ret (results_rowa rfl _ _ _ _ _ _ _ rfl HR3.blk_heap Try.underlying55 rfl info_rwish) rfl ?_
        rw [HQ.out]
        exact ⟨none, 0, rfl, HR3.drop.drop.drop.nil _ _⟩
end
end Go.Proofs.Ytgepekailoopeaa
