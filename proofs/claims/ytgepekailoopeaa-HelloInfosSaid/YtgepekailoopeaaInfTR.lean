/-
  Contract of cisternref22.TakeInfo.
-/
import Derived.Test.YtgepekailoopeaaInfT
namespace Go.Proofs.Ytgepekailoopeaa
open Go.RowKit
set_option linter.unusedVariables false
set_option linter.unusedSimpArgs false
theorem info_rinfo : (Try.prog.info? 102).map (·.size) = some 7 := by kernel_rfl
section
variable {w0 w : World} {O : Nat → Prop} {L : List Asr}

set_option maxHeartbeats 8000000 in
set_option maxRecDepth 100000 in
theorem rti_short {A : Option Addr} {n c : Nat} {d : List Int} (HS : Sep w0 w O L) (hr : Rb w0 O L 1 A n (by8 d)) (hb : Byt d) (hc : n ≤ c) (hl : n ≤ 140737488355328) (h : d.length < 2) :
    Calls Try.prog 52 #[.slice A n c] w (TiOut w0 O zIf 5 L) := by
  have hn := hr.klen HS
  have HN := hid hn
  have HSa := HS.alloc #[.int .u16 0, .int .u64 0, .int .u16 0, .string eStr, .int .u32 0, .int .u32 0, .int .u32 0] 102
  obtain ⟨Q, hQ⟩ : ∃ Q : Ending → World → Prop, Q = TiOut w0 O zIf 5 L := ⟨_, rfl⟩
  have HQ := hid hQ
  rw [← hQ]
  clear hQ
  have k1 : (n : Int) < 2 := by omega
  clear hn h
  go_enter Try.func52, Try.ntmps52
  go_wp2
  (try simp only [Exit.inBlock, Exit.then])
  refine bodyPost_ret (results_rowa rfl _ _ _ _ _ _ _ rfl HSa.blk_heap Try.underlying102 rfl info_rinfo) rfl ?_
  rw [HQ.out]
  exact ⟨rfl, HSa.drop⟩

set_option maxHeartbeats 8000000 in
set_option maxRecDepth 100000 in
theorem rti0_bad {A : Option Addr} {n c : Nat} {d : List Int} (HS : Sep w0 w O L) (hr : Rb w0 O L 1 A n (by8 d)) (hb : Byt d) (hc : n ≤ c) (hl : n ≤ 140737488355328) (h : 2 ≤ d.length) (hk : fN d 0 2 = 0) (h2 : d.length ≠ 12) :
    Calls Try.prog 52 #[.slice A n c] w (TiOut w0 O zIf 5 L) := by
  have hn := hr.klen HS
  have HN := hid hn
  have HSa := HS.alloc #[.int .u16 0, .int .u64 0, .int .u16 0, .string eStr, .int .u32 0, .int .u32 0, .int .u32 0] 102
  obtain ⟨Q, hQ⟩ : ∃ Q : Ending → World → Prop, Q = TiOut w0 O zIf 5 L := ⟨_, rfl⟩
  have HQ := hid hQ
  rw [← hQ]
  clear hQ
  obtain ⟨ad, rfl⟩ : ∃ ad, A = some ad := by
    obtain ⟨ad, y, e, _⟩ := hr.elemn HS (j := 0) (by omega)
    exact ⟨ad, e⟩
  have HM := hid (rnum_head (k := 2) (c := c) HSa hr.cons hb (by omega) (by decide))
  rw [hk] at HM
  have k1 : ¬ (n : Int) < 2 := by omega
  have k2 : (2 : Int) ≤ c := by omega
  have k3 : (2 : Int) ≤ n := by omega
  have HS5 := HSa.allocB #[.int .u16 0, .int .u64 0, .int .u16 0, .string eStr, .int .u32 0, .int .u32 0, .int .u32 0] 102 (B := w.heap.size + 1) (by simp)
  obtain ⟨DA, hDA⟩ : ∃ DA : Option Addr, (if c = 2 then some ad else some ⟨ad.block, ad.off + 2, none⟩) = DA := ⟨_, rfl⟩
  obtain ⟨m, hm⟩ : ∃ m, m = n - 2 := ⟨_, rfl⟩
  have hm' : n - 2 = m := hm.symm
  have k4 : ((m : Int) != 10) = true := by simp; omega
  have k5 : ((m : Int) == 10) = false := by simp; omega
  clear hn hk h h2 hm
  go_enter Try.func52, Try.ntmps52
  go_wp2_with fail
  refine HM.out.mono ?_
  rintro e w1 ⟨rfl, rfl⟩
  go_wp2
  (try simp only [Exit.inBlock, Exit.then])
  refine bodyPost_ret (results_rowa rfl _ _ _ _ _ _ _ rfl HS5.up1.blk_heap Try.underlying102 rfl info_rinfo) rfl ?_
  rw [HQ.out]
  exact ⟨rfl, HS5.drop.drop⟩

set_option maxHeartbeats 8000000 in
set_option maxRecDepth 100000 in
theorem rti3_bad {A : Option Addr} {n c : Nat} {d : List Int} (HS : Sep w0 w O L) (hr : Rb w0 O L 1 A n (by8 d)) (hb : Byt d) (hc : n ≤ c) (hl : n ≤ 140737488355328) (h : 2 ≤ d.length) (hk : fN d 0 2 = 3) (h2 : d.length ≠ 14) :
    Calls Try.prog 52 #[.slice A n c] w (TiOut w0 O zIf 5 L) := by
  have hn := hr.klen HS
  have HN := hid hn
  have HSa := HS.alloc #[.int .u16 0, .int .u64 0, .int .u16 0, .string eStr, .int .u32 0, .int .u32 0, .int .u32 0] 102
  obtain ⟨Q, hQ⟩ : ∃ Q : Ending → World → Prop, Q = TiOut w0 O zIf 5 L := ⟨_, rfl⟩
  have HQ := hid hQ
  rw [← hQ]
  clear hQ
  obtain ⟨ad, rfl⟩ : ∃ ad, A = some ad := by
    obtain ⟨ad, y, e, _⟩ := hr.elemn HS (j := 0) (by omega)
    exact ⟨ad, e⟩
  have HM := hid (rnum_head (k := 2) (c := c) HSa hr.cons hb (by omega) (by decide))
  rw [hk] at HM
  have k1 : ¬ (n : Int) < 2 := by omega
  have k2 : (2 : Int) ≤ c := by omega
  have k3 : (2 : Int) ≤ n := by omega
  have HS5 := HSa.allocB #[.int .u16 3, .int .u64 0, .int .u16 0, .string eStr, .int .u32 0, .int .u32 0, .int .u32 0] 102 (B := w.heap.size + 1) (by simp)
  obtain ⟨DA, hDA⟩ : ∃ DA : Option Addr, (if c = 2 then some ad else some ⟨ad.block, ad.off + 2, none⟩) = DA := ⟨_, rfl⟩
  obtain ⟨m, hm⟩ : ∃ m, m = n - 2 := ⟨_, rfl⟩
  have hm' : n - 2 = m := hm.symm
  have k4 : ((m : Int) != 12) = true := by simp; omega
  have k5 : ((m : Int) == 12) = false := by simp; omega
  clear hn hk h h2 hm
  go_enter Try.func52, Try.ntmps52
  go_wp2_with fail
  refine HM.out.mono ?_
  rintro e w1 ⟨rfl, rfl⟩
  go_wp2
  (try simp only [Exit.inBlock, Exit.then])
  refine bodyPost_ret (results_rowa rfl _ _ _ _ _ _ _ rfl HS5.up1.blk_heap Try.underlying102 rfl info_rinfo) rfl ?_
  rw [HQ.out]
  exact ⟨rfl, HS5.drop.drop⟩

set_option maxHeartbeats 8000000 in
set_option maxRecDepth 100000 in
theorem rti1_long {A : Option Addr} {n c : Nat} {d : List Int} (HS : Sep w0 w O L) (hr : Rb w0 O L 1 A n (by8 d)) (hb : Byt d) (hc : n ≤ c) (hl : n ≤ 140737488355328) (hk : fN d 0 2 = 1) (h2 : 18 < d.length) :
    Calls Try.prog 52 #[.slice A n c] w (TiOut w0 O zIf 3 L) := by
  have hn := hr.klen HS
  have HN := hid hn
  have HSa := HS.alloc #[.int .u16 0, .int .u64 0, .int .u16 0, .string eStr, .int .u32 0, .int .u32 0, .int .u32 0] 102
  obtain ⟨Q, hQ⟩ : ∃ Q : Ending → World → Prop, Q = TiOut w0 O zIf 3 L := ⟨_, rfl⟩
  have HQ := hid hQ
  rw [← hQ]
  clear hQ
  obtain ⟨ad, rfl⟩ : ∃ ad, A = some ad := by
    obtain ⟨ad, y, e, _⟩ := hr.elemn HS (j := 0) (by omega)
    exact ⟨ad, e⟩
  have HM := hid (rnum_head (k := 2) (c := c) HSa hr.cons hb (by omega) (by decide))
  rw [hk] at HM
  have k1 : ¬ (n : Int) < 2 := by omega
  have k2 : (2 : Int) ≤ c := by omega
  have k3 : (2 : Int) ≤ n := by omega
  have HS5 := HSa.allocB #[.int .u16 1, .int .u64 0, .int .u16 0, .string eStr, .int .u32 0, .int .u32 0, .int .u32 0] 102 (B := w.heap.size + 1) (by simp)
  obtain ⟨DA, hDA⟩ : ∃ DA : Option Addr, (if c = 2 then some ad else some ⟨ad.block, ad.off + 2, none⟩) = DA := ⟨_, rfl⟩
  obtain ⟨m, hm⟩ : ∃ m, m = n - 2 := ⟨_, rfl⟩
  have hm' : n - 2 = m := hm.symm
  have k4 : (16 : Int) < m := by omega
  clear hn hk h2 hm
  go_enter Try.func52, Try.ntmps52
  go_wp2_with fail
  refine HM.out.mono ?_
  rintro e w1 ⟨rfl, rfl⟩
  go_wp2
  (try simp only [Exit.inBlock, Exit.then])
  refine bodyPost_ret (results_rowa rfl _ _ _ _ _ _ _ rfl HS5.up1.blk_heap Try.underlying102 rfl info_rinfo) rfl ?_
  rw [HQ.out]
  exact ⟨rfl, HS5.drop.drop⟩

set_option maxHeartbeats 8000000 in
set_option maxRecDepth 100000 in
theorem rti_none {A : Option Addr} {n c : Nat} {d : List Int} (HS : Sep w0 w O L) (hr : Rb w0 O L 1 A n (by8 d)) (hb : Byt d) (hc : n ≤ c) (hl : n ≤ 140737488355328) {k : Int} (h : 2 ≤ d.length) (hk : fN d 0 2 = k) (h0 : k ≠ 0) (h1 : k ≠ 1) (h3 : k ≠ 3) :
    Calls Try.prog 52 #[.slice A n c] w (TiOut w0 O zIf 6 L) := by
  have hn := hr.klen HS
  have HN := hid hn
  have HSa := HS.alloc #[.int .u16 0, .int .u64 0, .int .u16 0, .string eStr, .int .u32 0, .int .u32 0, .int .u32 0] 102
  obtain ⟨Q, hQ⟩ : ∃ Q : Ending → World → Prop, Q = TiOut w0 O zIf 6 L := ⟨_, rfl⟩
  have HQ := hid hQ
  rw [← hQ]
  clear hQ
  have bk := fN_bd hb 0 2
  simp only [show (256 : Int) ^ 2 = 65536 from rfl] at bk
  rw [hk] at bk
  have y1 : IntKind.u16.wrap k = k := by rw [IntKind.wrap_u16]; omega
  have d0 : (k == 0) = false := by simpa using h0
  have d1 : (k == 1) = false := by simpa using h1
  have d3 : (k == 3) = false := by simpa using h3
  obtain ⟨ad, rfl⟩ : ∃ ad, A = some ad := by
    obtain ⟨ad, y, e, _⟩ := hr.elemn HS (j := 0) (by omega)
    exact ⟨ad, e⟩
  have HM := hid (rnum_head (k := 2) (c := c) HSa hr.cons hb (by omega) (by decide))
  rw [hk] at HM
  have k1 : ¬ (n : Int) < 2 := by omega
  have k2 : (2 : Int) ≤ c := by omega
  have k3 : (2 : Int) ≤ n := by omega
  have HS5 := HSa.allocB #[.int .u16 k, .int .u64 0, .int .u16 0, .string eStr, .int .u32 0, .int .u32 0, .int .u32 0] 102 (B := w.heap.size + 1) (by simp)
  obtain ⟨DA, hDA⟩ : ∃ DA : Option Addr, (if c = 2 then some ad else some ⟨ad.block, ad.off + 2, none⟩) = DA := ⟨_, rfl⟩
  obtain ⟨m, hm⟩ : ∃ m, m = n - 2 := ⟨_, rfl⟩
  have hm' : n - 2 = m := hm.symm
  clear hn hk h hm bk h0 h1 h3
  go_enter Try.func52, Try.ntmps52
  go_wp2_with fail
  refine HM.out.mono ?_
  rintro e w1 ⟨rfl, rfl⟩
  go_wp2
  (try simp only [Exit.inBlock, Exit.then])
  refine bodyPost_ret (results_rowa rfl _ _ _ _ _ _ _ rfl HS5.up1.blk_heap Try.underlying102 rfl info_rinfo) rfl ?_
  rw [HQ.out]
  exact ⟨rfl, HS5.drop.drop⟩

set_option maxHeartbeats 8000000 in
set_option maxRecDepth 100000 in
theorem rti1_ok {A : Option Addr} {n c : Nat} {d : List Int} (HS : Sep w0 w O L) (hr : Rb w0 O L 1 A n (by8 d)) (hb : Byt d) (hc : n ≤ c) (hl : n ≤ 140737488355328) (h : 2 ≤ d.length) (hk : fN d 0 2 = 1) (h2 : ¬ 18 < d.length) :
    Calls Try.prog 52 #[.slice A n c] w (TiOut w0 O ⟨1, 0, 0, strOfNums (d.drop 2), 0, 0, 0⟩ 0 L) := by
  have hn := hr.klen HS
  have HN := hid hn
  have HSa := HS.alloc #[.int .u16 0, .int .u64 0, .int .u16 0, .string eStr, .int .u32 0, .int .u32 0, .int .u32 0] 102
  obtain ⟨Q, hQ⟩ : ∃ Q : Ending → World → Prop, Q = TiOut w0 O ⟨1, 0, 0, strOfNums (d.drop 2), 0, 0, 0⟩ 0 L := ⟨_, rfl⟩
  have HQ := hid hQ
  rw [← hQ]
  clear hQ
  obtain ⟨ad, rfl⟩ : ∃ ad, A = some ad := by
    obtain ⟨ad, y, e, _⟩ := hr.elemn HS (j := 0) (by omega)
    exact ⟨ad, e⟩
  have HM := hid (rnum_head (k := 2) (c := c) HSa hr.cons hb (by omega) (by decide))
  rw [hk] at HM
  have k1 : ¬ (n : Int) < 2 := by omega
  have k2 : (2 : Int) ≤ c := by omega
  have k3 : (2 : Int) ≤ n := by omega
  have HS5 := HSa.allocB #[.int .u16 1, .int .u64 0, .int .u16 0, .string eStr, .int .u32 0, .int .u32 0, .int .u32 0] 102 (B := w.heap.size + 1) (by simp)
  obtain ⟨DA, hDA⟩ : ∃ DA : Option Addr, (if c = 2 then some ad else some ⟨ad.block, ad.off + 2, none⟩) = DA := ⟨_, rfl⟩
  obtain ⟨m, hm⟩ : ∃ m, m = n - 2 := ⟨_, rfl⟩
  have hm' : n - 2 = m := hm.symm
  have k4 : ¬ (16 : Int) < m := by omega
  have hcut := hr.ktail hn (j := 2) (cap := c) (by omega) hc
  rw [Option.map_some, show ad.add 2 = ⟨ad.block, ad.off + 2, none⟩ by unfold Addr.add; rw [if_neg (by omega)], hDA, hm'] at hcut
  have hcv := run_str (P := Try.prog) (c := c - 2) (hcut.cons.cons.read HS5) 23 9 5 Try.underlying23 Try.underlying5 Try.underlying9
  obtain ⟨s, hs⟩ : ∃ s, s = strOfNums (d.drop 2) := ⟨_, rfl⟩
  rw [← hs] at hcv HQ
  have HR := (HS.alloc #[.int .u16 1, .int .u64 0, .int .u16 0, .string s, .int .u32 0, .int .u32 0, .int .u32 0] 102).allocB #[.int .u16 1, .int .u64 0, .int .u16 0, .string s, .int .u32 0, .int .u32 0, .int .u32 0] 102 (B := w.heap.size + 1) (by simp)
  clear hn hk h h2 hm hcut hs
  go_enter Try.func52, Try.ntmps52
  go_wp2_with fail
  refine HM.out.mono ?_
  rintro e w1 ⟨rfl, rfl⟩
  go_wp2
  (try simp only [Exit.inBlock, Exit.then])
  refine bodyPost_ret (results_rowa rfl _ _ _ _ _ _ _ rfl HR.up1.blk_heap Try.underlying102 rfl info_rinfo) rfl ?_
  rw [HQ.out]
  exact ⟨rfl, HR.drop.drop⟩

set_option maxHeartbeats 8000000 in
set_option maxRecDepth 100000 in
theorem rti0_ok {A : Option Addr} {n c : Nat} {d : List Int} (HS : Sep w0 w O L) (hr : Rb w0 O L 1 A n (by8 d)) (hb : Byt d) (hc : n ≤ c) (hl : n ≤ 140737488355328) (hk : fN d 0 2 = 0) (h2 : d.length = 12) :
    Calls Try.prog 52 #[.slice A n c] w (TiOut w0 O ⟨0, fN d 2 8, fN d 10 2, eStr, 0, 0, 0⟩ 0 L) := by
  have hn := hr.klen HS
  have HN := hid hn
  have HSa := HS.alloc #[.int .u16 0, .int .u64 0, .int .u16 0, .string eStr, .int .u32 0, .int .u32 0, .int .u32 0] 102
  obtain ⟨Q, hQ⟩ : ∃ Q : Ending → World → Prop, Q = TiOut w0 O ⟨0, fN d 2 8, fN d 10 2, eStr, 0, 0, 0⟩ 0 L := ⟨_, rfl⟩
  have HQ := hid hQ
  rw [← hQ]
  clear hQ
  obtain ⟨ad, rfl⟩ : ∃ ad, A = some ad := by
    obtain ⟨ad, y, e, _⟩ := hr.elemn HS (j := 0) (by omega)
    exact ⟨ad, e⟩
  have HM := hid (rnum_head (k := 2) (c := c) HSa hr.cons hb (by omega) (by decide))
  rw [hk] at HM
  have k1 : ¬ (n : Int) < 2 := by omega
  have k2 : (2 : Int) ≤ c := by omega
  have k3 : (2 : Int) ≤ n := by omega
  have HS5 := HSa.allocB #[.int .u16 0, .int .u64 0, .int .u16 0, .string eStr, .int .u32 0, .int .u32 0, .int .u32 0] 102 (B := w.heap.size + 1) (by simp)
  have hm' : n - 2 = 10 := by omega
  have c2 : ¬ c = 2 := by omega
  have c8 : ¬ c - 2 = 8 := by omega
  have k4 : (8 : Int) ≤ (c - 2 : Nat) := by omega
  have hcut := hr.ktail hn (j := 2) (cap := c) (by omega) hc
  rw [Option.map_some, if_neg c2, show ad.add 2 = ⟨ad.block, ad.off + 2, none⟩ by unfold Addr.add; rw [if_neg (by omega)], hm'] at hcut
  have e0 : fN (d.drop 2) 0 8 = fN d 2 8 := by unfold fN; rw [List.drop_drop]
  have e1 : fN (d.drop 2) 8 2 = fN d 10 2 := by unfold fN; rw [List.drop_drop]
  have HM1 : Aside (∀ {W : World} {L' : List Asr}, Sep w0 W O L' → Rb w0 O L' 1 (some ⟨ad.block, ad.off + 2, none⟩) 10 (by8 (d.drop 2)) → Calls Try.prog 35 #[.slice (some ⟨ad.block, ad.off + 2, none⟩) 8 (c - 2)] W fun e w' => e = .returned (.int .u64 (fN d 2 8)) ∧ W = w') := ⟨by
    intro W L' H q
    have := rnum_head (k := 8) (c := c - 2) H q (hb.drop 2) (by decide) (by decide)
    rwa [e0] at this⟩
  have HM2 : Aside (∀ {W : World} {L' : List Asr}, Sep w0 W O L' → Rb w0 O L' 1 (some ⟨ad.block, ad.off + 2, none⟩) 10 (by8 (d.drop 2)) → Calls Try.prog 35 #[.slice (some ⟨ad.block, ad.off + 2 + 8, none⟩) 2 (c - 2 - 8)] W fun e w' => e = .returned (.int .u64 (fN d 10 2)) ∧ W = w') := ⟨by
    intro W L' H q
    have := rnum_sub (c := c - 2 - 8) (o := 8) (k := 2) (m := 10) H q (hb.drop 2) (by decide) (by rfl)
    rwa [e1] at this⟩
  have b1 := fN_bd hb 10 2
  simp only [show (256 : Int) ^ 2 = 65536 from rfl] at b1
  have HCUT := hid hcut
  generalize fN d 2 8 = x0 at *
  generalize fN d 10 2 = x1 at *
  have y1 : IntKind.u16.wrap x1 = x1 := by rw [IntKind.wrap_u16]; omega
  have HS6 := HSa.allocB #[.int .u16 0, .int .u64 x0, .int .u16 0, .string eStr, .int .u32 0, .int .u32 0, .int .u32 0] 102 (B := w.heap.size + 1) (by simp)
  have HR := (HS.alloc #[.int .u16 0, .int .u64 x0, .int .u16 x1, .string eStr, .int .u32 0, .int .u32 0, .int .u32 0] 102).allocB #[.int .u16 0, .int .u64 x0, .int .u16 x1, .string eStr, .int .u32 0, .int .u32 0, .int .u32 0] 102 (B := w.heap.size + 1) (by simp)
  clear hn hk h2 hcut e0 e1 b1
  go_enter Try.func52, Try.ntmps52
  go_wp2_with fail
  refine HM.out.mono ?_
  rintro e w1 ⟨rfl, rfl⟩
  go_wp2_with fail
  with_reducible refine (HM1.out HS5 HCUT.out.cons.cons).mono ?_
  rintro e w2 ⟨rfl, rfl⟩
  go_wp2_with fail
  with_reducible refine (HM2.out HS6 HCUT.out.cons.cons).mono ?_
  rintro e w3 ⟨rfl, rfl⟩
  go_wp2
  (try simp only [Exit.inBlock, Exit.then])
  refine bodyPost_ret (results_rowa rfl _ _ _ _ _ _ _ rfl HR.up1.blk_heap Try.underlying102 rfl info_rinfo) rfl ?_
  rw [HQ.out]
  exact ⟨rfl, HR.drop.drop⟩

set_option maxHeartbeats 8000000 in
set_option maxRecDepth 100000 in
theorem rti3_ok {A : Option Addr} {n c : Nat} {d : List Int} (HS : Sep w0 w O L) (hr : Rb w0 O L 1 A n (by8 d)) (hb : Byt d) (hc : n ≤ c) (hl : n ≤ 140737488355328) (hk : fN d 0 2 = 3) (h2 : d.length = 14) :
    Calls Try.prog 52 #[.slice A n c] w (TiOut w0 O ⟨3, 0, 0, eStr, fN d 2 4, fN d 6 4, fN d 10 4⟩ 0 L) := by
  have hn := hr.klen HS
  have HN := hid hn
  have HSa := HS.alloc #[.int .u16 0, .int .u64 0, .int .u16 0, .string eStr, .int .u32 0, .int .u32 0, .int .u32 0] 102
  obtain ⟨Q, hQ⟩ : ∃ Q : Ending → World → Prop, Q = TiOut w0 O ⟨3, 0, 0, eStr, fN d 2 4, fN d 6 4, fN d 10 4⟩ 0 L := ⟨_, rfl⟩
  have HQ := hid hQ
  rw [← hQ]
  clear hQ
  obtain ⟨ad, rfl⟩ : ∃ ad, A = some ad := by
    obtain ⟨ad, y, e, _⟩ := hr.elemn HS (j := 0) (by omega)
    exact ⟨ad, e⟩
  have HM := hid (rnum_head (k := 2) (c := c) HSa hr.cons hb (by omega) (by decide))
  rw [hk] at HM
  have k1 : ¬ (n : Int) < 2 := by omega
  have k2 : (2 : Int) ≤ c := by omega
  have k3 : (2 : Int) ≤ n := by omega
  have HS5 := HSa.allocB #[.int .u16 3, .int .u64 0, .int .u16 0, .string eStr, .int .u32 0, .int .u32 0, .int .u32 0] 102 (B := w.heap.size + 1) (by simp)
  have hm' : n - 2 = 12 := by omega
  have c2 : ¬ c = 2 := by omega
  have hcut := hr.ktail hn (j := 2) (cap := c) (by omega) hc
  rw [Option.map_some, if_neg c2, show ad.add 2 = ⟨ad.block, ad.off + 2, none⟩ by unfold Addr.add; rw [if_neg (by omega)], hm'] at hcut
  have e0 : fN (d.drop 2) 0 4 = fN d 2 4 := by unfold fN; rw [List.drop_drop]
  have e1 : fN (d.drop 2) 4 4 = fN d 6 4 := by unfold fN; rw [List.drop_drop]
  have e2 : fN (d.drop 2) 8 4 = fN d 10 4 := by unfold fN; rw [List.drop_drop]
  have HM1 : Aside (∀ {W : World} {L' : List Asr}, Sep w0 W O L' → Rb w0 O L' 1 (some ⟨ad.block, ad.off + 2, none⟩) 12 (by8 (d.drop 2)) → Calls Try.prog 35 #[.slice (some ⟨ad.block, ad.off + 2, none⟩) 4 (c - 2)] W fun e w' => e = .returned (.int .u64 (fN d 2 4)) ∧ W = w') := ⟨by
    intro W L' H q
    have := rnum_head (k := 4) (c := c - 2) H q (hb.drop 2) (by decide) (by decide)
    rwa [e0] at this⟩
  have HM2 : Aside (∀ {W : World} {L' : List Asr}, Sep w0 W O L' → Rb w0 O L' 1 (some ⟨ad.block, ad.off + 2, none⟩) 12 (by8 (d.drop 2)) → Calls Try.prog 35 #[.slice (some ⟨ad.block, ad.off + 2 + 4, none⟩) 4 (c - 2 - 4)] W fun e w' => e = .returned (.int .u64 (fN d 6 4)) ∧ W = w') := ⟨by
    intro W L' H q
    have := rnum_sub (c := c - 2 - 4) (o := 4) (k := 4) (m := 12) H q (hb.drop 2) (by decide) (by rfl)
    rwa [e1] at this⟩
  have HM3 : Aside (∀ {W : World} {L' : List Asr}, Sep w0 W O L' → Rb w0 O L' 1 (some ⟨ad.block, ad.off + 2, none⟩) 12 (by8 (d.drop 2)) → Calls Try.prog 35 #[.slice (some ⟨ad.block, ad.off + 2 + 8, none⟩) 4 (c - 2 - 8)] W fun e w' => e = .returned (.int .u64 (fN d 10 4)) ∧ W = w') := ⟨by
    intro W L' H q
    have := rnum_sub (c := c - 2 - 8) (o := 8) (k := 4) (m := 12) H q (hb.drop 2) (by decide) (by rfl)
    rwa [e2] at this⟩
  have b0 := fN_bd hb 2 4
  have b1 := fN_bd hb 6 4
  have b2 := fN_bd hb 10 4
  simp only [show (256 : Int) ^ 4 = 4294967296 from rfl] at b0 b1 b2
  have HCUT := hid hcut
  generalize fN d 2 4 = x0 at *
  generalize fN d 6 4 = x1 at *
  generalize fN d 10 4 = x2 at *
  have y0 : IntKind.u32.wrap x0 = x0 := by rw [IntKind.wrap_u32]; omega
  have y1 : IntKind.u32.wrap x1 = x1 := by rw [IntKind.wrap_u32]; omega
  have y2 : IntKind.u32.wrap x2 = x2 := by rw [IntKind.wrap_u32]; omega
  have k5 : (4 : Int) ≤ (c - 2 : Nat) := by omega
  have k6 : (8 : Int) ≤ (c - 2 : Nat) := by omega
  have k7 : (12 : Int) ≤ (c - 2 : Nat) := by omega
  have c5 : ¬ c - 2 = 0 := by omega
  have c6 : ¬ c - 2 = 4 := by omega
  have c7 : ¬ c - 2 = 8 := by omega
  clear hn hk h2 hcut e0 e1 e2 b0 b1 b2
  go_enter Try.func52, Try.ntmps52
  go_wp2_with fail
  refine HM.out.mono ?_
  rintro e w1 ⟨rfl, rfl⟩
  go_wp2_with fail
  obtain ⟨w5, hw5, HS6⟩ := HS5.someW'
  rw [← hw5]
  clear hw5 HS5 HSa HM
  go_loopw [5] (fun i wr => ∃ j : Nat, j ≤ 3 ∧ i = .int .i64 j ∧ Sep w0 wr O (blk (w.heap.size + 1) 102 #[.int .u16 3, .int .u64 0, .int .u16 0, .string eStr, .int .u32 (if 0 < j then x0 else 0), .int .u32 (if 1 < j then x1 else 0), .int .u32 (if 2 < j then x2 else 0)] :: blk w.heap.size 102 #[.int .u16 0, .int .u64 0, .int .u16 0, .string eStr, .int .u32 0, .int .u32 0, .int .u32 0] :: L)) (fun i _ => 3 - (intOf i).toNat)
  case atStart => exact ⟨0, by omega, rfl, HS6⟩
  case round =>
    obtain ⟨j, hj, rfl, HSj⟩ := hrel
    clear HS6
    have key : j = 0 ∨ j = 1 ∨ j = 2 ∨ j = 3 := by omega
    rcases key with rfl | rfl | rfl | rfl
    · replace HSj : Sep w0 wr O (blk (w.heap.size + 1) 102 #[.int .u16 3, .int .u64 0, .int .u16 0, .string eStr, .int .u32 0, .int .u32 0, .int .u32 0] :: blk w.heap.size 102 #[.int .u16 0, .int .u64 0, .int .u16 0, .string eStr, .int .u32 0, .int .u32 0, .int .u32 0] :: L) := HSj
      have s4 := HSj.blk_at 4 rfl
      have t4 := HSj.blk_frozen 4
      have HT := HSj.blk_set 4 (.int .u32 x0)
      go_wp2_with fail
      with_reducible refine (HM1.out HSj HCUT.out.cons.cons).mono ?_
      rintro e w7 ⟨rfl, rfl⟩
      go_wp2
      go_roundw
      case rel => exact ⟨1, by omega, by go_num, HT⟩
      case measure => simp [intOf]
    · replace HSj : Sep w0 wr O (blk (w.heap.size + 1) 102 #[.int .u16 3, .int .u64 0, .int .u16 0, .string eStr, .int .u32 x0, .int .u32 0, .int .u32 0] :: blk w.heap.size 102 #[.int .u16 0, .int .u64 0, .int .u16 0, .string eStr, .int .u32 0, .int .u32 0, .int .u32 0] :: L) := HSj
      have s5 := HSj.blk_at 5 rfl
      have t5 := HSj.blk_frozen 5
      have HT := HSj.blk_set 5 (.int .u32 x1)
      go_wp2_with fail
      with_reducible refine (HM2.out HSj HCUT.out.cons.cons).mono ?_
      rintro e w7 ⟨rfl, rfl⟩
      go_wp2
      go_roundw
      case rel => exact ⟨2, by omega, by go_num, HT⟩
      case measure => simp [intOf]
    · replace HSj : Sep w0 wr O (blk (w.heap.size + 1) 102 #[.int .u16 3, .int .u64 0, .int .u16 0, .string eStr, .int .u32 x0, .int .u32 x1, .int .u32 0] :: blk w.heap.size 102 #[.int .u16 0, .int .u64 0, .int .u16 0, .string eStr, .int .u32 0, .int .u32 0, .int .u32 0] :: L) := HSj
      have s6 := HSj.blk_at 6 rfl
      have t6 := HSj.blk_frozen 6
      have HT := HSj.blk_set 6 (.int .u32 x2)
      go_wp2_with fail
      with_reducible refine (HM3.out HSj HCUT.out.cons.cons).mono ?_
      rintro e w7 ⟨rfl, rfl⟩
      go_wp2
      go_roundw
      case rel => exact ⟨3, by omega, by go_num, HT⟩
      case measure => simp [intOf]
    · replace HSj : Sep w0 wr O (blk (w.heap.size + 1) 102 #[.int .u16 3, .int .u64 0, .int .u16 0, .string eStr, .int .u32 x0, .int .u32 x1, .int .u32 x2] :: blk w.heap.size 102 #[.int .u16 0, .int .u64 0, .int .u16 0, .string eStr, .int .u32 0, .int .u32 0, .int .u32 0] :: L) := HSj
      have HB2 := HSj.up1
      have cz0 := HB2.blk_at 0 rfl
      have fz0 := HB2.blk_frozen 0
      have u0 := HSj.blk_at 0 rfl
      have cz1 := HB2.blk_at 1 rfl
      have fz1 := HB2.blk_frozen 1
      have u1 := HSj.blk_at 1 rfl
      have cz2 := HB2.blk_at 2 rfl
      have fz2 := HB2.blk_frozen 2
      have u2 := HSj.blk_at 2 rfl
      have cz3 := HB2.blk_at 3 rfl
      have fz3 := HB2.blk_frozen 3
      have u3 := HSj.blk_at 3 rfl
      have cz4 := HB2.blk_at 4 rfl
      have fz4 := HB2.blk_frozen 4
      have u4 := HSj.blk_at 4 rfl
      have cz5 := HB2.blk_at 5 rfl
      have fz5 := HB2.blk_frozen 5
      have u5 := HSj.blk_at 5 rfl
      have cz6 := HB2.blk_at 6 rfl
      have fz6 := HB2.blk_frozen 6
      have u6 := HSj.blk_at 6 rfl
      have HR := HB2.blk_set7 (.int .u16 3) (.int .u64 0) (.int .u16 0) (.string eStr) (.int .u32 x0) (.int .u32 x1) (.int .u32 x2)
      go_wp2
      (try simp only [Exit.inBlock, Exit.then])
      refine bodyPost_ret (results_rowa rfl _ _ _ _ _ _ _ rfl HR.blk_heap Try.underlying102 rfl info_rinfo) rfl ?_
      rw [HQ.out]
      exact ⟨rfl, HR.drop.drop⟩

theorem rtakeinfo_calls {A : Option Addr} {n c : Nat} {d : List Int} (HS : Sep w0 w O L) (hr : Rb w0 O L 1 A n (by8 d)) (hb : Byt d) (hc : n ≤ c) (hl : n ≤ 140737488355328) :
    Calls Try.prog 52 #[.slice A n c] w (TiOut w0 O (tiI d) (tiE d) L) := by
  by_cases h2 : d.length < 2
  · have e : tiE d = 5 := by unfold tiE; rw [if_pos h2]
    rw [show tiI d = zIf from by unfold tiI; rw [e, if_pos (by decide)], e]
    exact rti_short HS hr hb hc hl h2
  by_cases k0 : fN d 0 2 = 0
  · by_cases h : d.length = 12
    · have e : tiE d = 0 := by unfold tiE; rw [if_neg h2, if_pos k0, if_pos h]
      rw [show tiI d = ⟨0, fN d 2 8, fN d 10 2, eStr, 0, 0, 0⟩ from by unfold tiI; rw [e, if_neg (by decide), if_pos k0], e]
      exact rti0_ok HS hr hb hc hl k0 h
    · have e : tiE d = 5 := by unfold tiE; rw [if_neg h2, if_pos k0, if_neg h]
      rw [show tiI d = zIf from by unfold tiI; rw [e, if_pos (by decide)], e]
      exact rti0_bad HS hr hb hc hl (by omega) k0 h
  by_cases k1 : fN d 0 2 = 1
  · by_cases h : 18 < d.length
    · have e : tiE d = 3 := by unfold tiE; rw [if_neg h2, if_neg k0, if_pos k1, if_pos h]
      rw [show tiI d = zIf from by unfold tiI; rw [e, if_pos (by decide)], e]
      exact rti1_long HS hr hb hc hl k1 h
    · have e : tiE d = 0 := by unfold tiE; rw [if_neg h2, if_neg k0, if_pos k1, if_neg h]
      rw [show tiI d = ⟨1, 0, 0, strOfNums (d.drop 2), 0, 0, 0⟩ from by unfold tiI; rw [e, if_neg (by decide), if_neg k0, if_pos k1], e]
      exact rti1_ok HS hr hb hc hl (by omega) k1 h
  by_cases k3 : fN d 0 2 = 3
  · by_cases h : d.length = 14
    · have e : tiE d = 0 := by unfold tiE; rw [if_neg h2, if_neg k0, if_neg k1, if_pos k3, if_pos h]
      rw [show tiI d = ⟨3, 0, 0, eStr, fN d 2 4, fN d 6 4, fN d 10 4⟩ from by unfold tiI; rw [e, if_neg (by decide), if_neg k0, if_neg k1], e]
      exact rti3_ok HS hr hb hc hl k3 h
    · have e : tiE d = 5 := by unfold tiE; rw [if_neg h2, if_neg k0, if_neg k1, if_pos k3, if_neg h]
      rw [show tiI d = zIf from by unfold tiI; rw [e, if_pos (by decide)], e]
      exact rti3_bad HS hr hb hc hl (by omega) k3 h
  · have e : tiE d = 6 := by unfold tiE; rw [if_neg h2, if_neg k0, if_neg k1, if_neg k3]
    rw [show tiI d = zIf from by unfold tiI; rw [e, if_pos (by decide)], e]
    exact rti_none HS hr hb hc hl (by omega) rfl k0 k1 k3
end
end Go.Proofs.Ytgepekailoopeaa
