/-
  The walk of HelloData.
-/
import Derived.Test.YtgepekailoopeaaLaw22
import Derived.Test.YtgepekailoopeaaSees22
import Derived.Test.YtgepekailoopeaaHelLawI
namespace Go.Proofs.Ytgepekailoopeaa
open Go.RowKit
set_option linter.unusedVariables false
set_option linter.unusedSimpArgs false
structure Hd (w : World) (i : If) (a1 : ByteArray) (A2 : Option Addr) (n2 : Nat) (l : List Int) : Prop where
  ok : i.Ok
  hn : l.length = n2
  n9 : n2 ≤ 140737488351232
  r2 : ∀ L, Rb w (fun _ => False) L 1 A2 n2 (by8 l)
  b2 : Byt l

set_option maxHeartbeats 8000000 in
set_option maxRecDepth 100000 in
theorem hdata_yyyy {w : World} {kd size fl p q r : Int} {nm a1 : ByteArray} {A2 : Option Addr} {n2 c2 : Nat} {l : List Int} (HD : Hd w ⟨kd, size, fl, nm, p, q, r⟩ a1 A2 n2 l) (h1 : putE ⟨kd, size, fl, nm, p, q, r⟩ = 0) (h2 : a1.size ≤ 16) (h3 : tiE l = 0) (h4 : tnE l = 0) :
    Calls Try.prog 10 #[.agg #[.int .u16 kd, .int .u64 size, .int .u16 fl, .string nm, .int .u32 p, .int .u32 q, .int .u32 r], .string a1, .slice A2 n2 c2] w fun e w' => e = .returned (.bool true) ∧ Below w.heap.size w w' := by
  have hln := HD.hn
  subst hln
  have P1 : ∀ {w' : World} {L' : List Asr}, Sep w w' (fun _ => False) L' → Calls Try.prog 49 #[.agg #[.int .u16 kd, .int .u64 size, .int .u16 fl, .string nm, .int .u32 p, .int .u32 q, .int .u32 r]] w' (InfOut w (fun _ => False) (putE ⟨kd, size, fl, nm, p, q, r⟩) (putB ⟨kd, size, fl, nm, p, q, r⟩) L') := fun H => putinfo_calls H HD.ok
  obtain ⟨g1, g2, g3, g4⟩ := info_back HD.ok h1
  rw [h1] at P1
  obtain ⟨B1, hB1⟩ : ∃ B, B = putB ⟨kd, size, fl, nm, p, q, r⟩ := ⟨_, rfl⟩
  rw [← hB1] at P1 g1 g2 g3 g4
  have P2 : ∀ {w' : World} {L' : List Asr} {A : Option Addr} {c : Nat}, Sep w w' (fun _ => False) L' → Rb w (fun _ => False) L' 1 A B1.length (by8 B1) → Calls Try.prog 51 #[.slice A B1.length c] w' fun e w2 => e = .returned (.tuple #[.agg #[.int .u16 kd, .int .u64 size, .int .u16 fl, .string nm, .int .u32 p, .int .u32 q, .int .u32 r], .int .i64 0]) ∧ Sep w w2 (fun _ => False) L' := by
    intro w' L' A c H R
    have := takeinfo_calls (c := c) H R g3 (by omega)
    rw [g1, g2] at this
    exact this
  have HP1 := hid @P1
  have HP2 := hid @P2
  clear P1 P2 g1 g2 g3 g4 hB1 h1
  have P3 : ∀ {w' : World} {L' : List Asr}, Sep w w' (fun _ => False) L' → Calls Try.prog 53 #[.string a1] w' fun e w' => ∃ A c, e = .returned (.tuple #[.slice A (nameB a1).length c, .int .i64 (nameE a1)]) ∧ Sep w w' (fun _ => False) (own 5 1 A (nameB a1).length c (by8 (nameB a1)) :: L') := fun H => putname_calls H
  obtain ⟨g1, g2, g3, g4, g5⟩ := name_back h2
  rw [g1] at P3
  obtain ⟨B2, hB2⟩ : ∃ B, B = nameB a1 := ⟨_, rfl⟩
  rw [← hB2] at P3 g2 g3 g4 g5
  have P4 : ∀ {w' : World} {L' : List Asr} {A : Option Addr} {c : Nat}, Sep w w' (fun _ => False) L' → Rb w (fun _ => False) L' 1 A B2.length (by8 B2) → Calls Try.prog 55 #[.slice A B2.length c] w' fun e w2 => e = .returned (.tuple #[.string a1, .int .i64 0]) ∧ Sep w w2 (fun _ => False) L' := by
    intro w' L' A c H R
    have := takename_calls (c := c) H R g4 (by omega)
    unfold TnOut at this
    rw [g2, g3] at this
    exact this
  have i16 : (a1.size : Int) ≤ 16 := by omega
  have HP3 := hid @P3
  have HP4 := hid @P4
  clear P3 P4 g1 g2 g3 g4 g5 hB2 h2
  have P5 : ∀ {w' : World} {L' : List Asr}, Sep w w' (fun _ => False) L' → Calls Try.prog 51 #[.slice A2 l.length c2] w' (TiOut w (fun _ => False) (tiI l) (tiE l) L') := fun H => takeinfo_calls H (HD.r2 _) HD.b2 (by have := HD.n9; omega)
  obtain ⟨g1, g2, g3⟩ := back_info HD.b2 (by rw [HD.hn]; exact HD.n9) h3
  rw [h3] at P5
  obtain ⟨Ji, hJ⟩ : ∃ J, J = tiI l := ⟨_, rfl⟩
  rw [← hJ] at P5 g1 g2 g3
  obtain ⟨j0, j1, j2, j3, j4, j5, j6⟩ := Ji
  have P6 : ∀ {w' : World} {L' : List Asr}, Sep w w' (fun _ => False) L' → Calls Try.prog 49 #[.agg #[.int .u16 j0, .int .u64 j1, .int .u16 j2, .string j3, .int .u32 j4, .int .u32 j5, .int .u32 j6]] w' (InfOut w (fun _ => False) 0 l L') := by
    intro w' L' H
    have := putinfo_calls H g1
    rw [g2, g3] at this
    exact this
  unfold TiOut at P5
  have HP5 := hid @P5
  have HP6 := hid @P6
  clear P5 P6 g1 g2 g3 hJ h3
  have P7 : ∀ {w' : World} {L' : List Asr}, Sep w w' (fun _ => False) L' → Calls Try.prog 55 #[.slice A2 l.length c2] w' fun e w2 => e = .returned (.tuple #[.string (tnS l), .int .i64 (tnE l)]) ∧ Sep w w2 (fun _ => False) L' := fun H => takename_calls H (HD.r2 _) HD.b2 (by have := HD.n9; omega)
  obtain ⟨g1, g2⟩ := back_name HD.b2 h4
  rw [h4] at P7
  generalize tnS l = S4 at P7 g1 g2
  have P8 : ∀ {w' : World} {L' : List Asr}, Sep w w' (fun _ => False) L' → Calls Try.prog 53 #[.string S4] w' fun e w' => ∃ A c, e = .returned (.tuple #[.slice A l.length c, .int .i64 0]) ∧ Sep w w' (fun _ => False) (own 5 1 A l.length c (by8 l) :: L') := by
    intro w' L' H
    have := putname_calls (nm := S4) H
    rw [g1, g2] at this
    exact this
  have HP7 := hid @P7
  have HP8 := hid @P8
  clear P7 P8 g1 g2 h4
  have HSa := (Sep.start w).alloc #[.int .u16 kd, .int .u64 size, .int .u16 fl, .string nm, .int .u32 p, .int .u32 q, .int .u32 r] 104
  go_enter Try.func10, Try.ntmps10
  go_wp2_with fail
  refine (HP1.out HSa).mono ?_
  rintro e w1 ⟨A3, c3, rfl, HS1⟩
  clear HSa
  go_wp2_with fail
  refine (HP2.out HS1 Rb.i0).mono ?_
  rintro e w2 ⟨rfl, HS2⟩
  have HS2a := HS2.alloc #[.int .u16 kd, .int .u64 size, .int .u16 fl, .string nm, .int .u32 p, .int .u32 q, .int .u32 r] 104
  have a0' := HS2a.up2.blk_at 0 rfl
  have a1' := HS2a.up2.blk_at 1 rfl
  have a2' := HS2a.up2.blk_at 2 rfl
  have a3' := HS2a.up2.blk_at 3 rfl
  have a4' := HS2a.up2.blk_at 4 rfl
  have a5' := HS2a.up2.blk_at 5 rfl
  have a6' := HS2a.up2.blk_at 6 rfl
  have hq := fun w => eqArr3 p q r p q r w
  have HZ1 : Sep w _ (fun _ => False) [] := HS2a.sel 3 []
  clear HS1 HS2 HS2a
  go_wp2_with fail
  refine (HP3.out HZ1).mono ?_
  rintro e w3 ⟨A5, c5, rfl, HS3⟩
  clear a0' a1' a2' a3' a4' a5' a6' hq
  go_wp2_with fail
  refine (HP4.out HS3 Rb.i0).mono ?_
  rintro e w4 ⟨rfl, HS4⟩
  have HZ2 : Sep w w4 (fun _ => False) [] := HS4.sel 1 []
  clear HS3 HS4 HZ1
  go_wp2_with fail
  refine (HP5.out HZ2).mono ?_
  rintro e w5 ⟨rfl, HS5⟩
  clear HZ2
  have HS5a := HS5.alloc #[.int .u16 j0, .int .u64 j1, .int .u16 j2, .string j3, .int .u32 j4, .int .u32 j5, .int .u32 j6] 104
  go_wp2_with fail
  refine (HP6.out HS5a).mono ?_
  rintro e w6 ⟨A6, c6, rfl, HS6⟩
  have hs1 := run_str (P := Try.prog) (c := c6) (Rb.i0.read HS6) 23 9 5 Try.underlying23 Try.underlying5 Try.underlying9
  have hs2 := run_str (P := Try.prog) (c := c2) ((HD.r2 _).read HS6) 23 9 5 Try.underlying23 Try.underlying5 Try.underlying9
  generalize strOfNums l = sl at hs1 hs2
  have HZ3 : Sep w w6 (fun _ => False) [] := HS6.sel 2 []
  clear HS5 HS5a HS6
  go_wp2_with fail
  refine (HP7.out HZ3).mono ?_
  rintro e w7 ⟨rfl, HS7⟩
  clear hs1 hs2
  go_wp2_with fail
  refine (HP8.out HS7).mono ?_
  rintro e w8 ⟨A8, c8, rfl, HS8⟩
  have hs1 := run_str (P := Try.prog) (c := c8) (Rb.i0.read HS8) 23 9 5 Try.underlying23 Try.underlying5 Try.underlying9
  have hs2 := run_str (P := Try.prog) (c := c2) ((HD.r2 _).read HS8) 23 9 5 Try.underlying23 Try.underlying5 Try.underlying9
  generalize strOfNums l = sl at hs1 hs2
  go_wp2_with fail
  refine (wakes_calls HS8).mono ?_
  rintro e w9 ⟨rfl, HS9⟩
  go_wp2
  go_ret
  exact ⟨rfl, HS9.below⟩

set_option maxHeartbeats 8000000 in
set_option maxRecDepth 100000 in
theorem hdata_yyyn {w : World} {kd size fl p q r : Int} {nm a1 : ByteArray} {A2 : Option Addr} {n2 c2 : Nat} {l : List Int} (HD : Hd w ⟨kd, size, fl, nm, p, q, r⟩ a1 A2 n2 l) (h1 : putE ⟨kd, size, fl, nm, p, q, r⟩ = 0) (h2 : a1.size ≤ 16) (h3 : tiE l = 0) (h4 : tnE l ≠ 0) :
    Calls Try.prog 10 #[.agg #[.int .u16 kd, .int .u64 size, .int .u16 fl, .string nm, .int .u32 p, .int .u32 q, .int .u32 r], .string a1, .slice A2 n2 c2] w fun e w' => e = .returned (.bool true) ∧ Below w.heap.size w w' := by
  have hln := HD.hn
  subst hln
  have P1 : ∀ {w' : World} {L' : List Asr}, Sep w w' (fun _ => False) L' → Calls Try.prog 49 #[.agg #[.int .u16 kd, .int .u64 size, .int .u16 fl, .string nm, .int .u32 p, .int .u32 q, .int .u32 r]] w' (InfOut w (fun _ => False) (putE ⟨kd, size, fl, nm, p, q, r⟩) (putB ⟨kd, size, fl, nm, p, q, r⟩) L') := fun H => putinfo_calls H HD.ok
  obtain ⟨g1, g2, g3, g4⟩ := info_back HD.ok h1
  rw [h1] at P1
  obtain ⟨B1, hB1⟩ : ∃ B, B = putB ⟨kd, size, fl, nm, p, q, r⟩ := ⟨_, rfl⟩
  rw [← hB1] at P1 g1 g2 g3 g4
  have P2 : ∀ {w' : World} {L' : List Asr} {A : Option Addr} {c : Nat}, Sep w w' (fun _ => False) L' → Rb w (fun _ => False) L' 1 A B1.length (by8 B1) → Calls Try.prog 51 #[.slice A B1.length c] w' fun e w2 => e = .returned (.tuple #[.agg #[.int .u16 kd, .int .u64 size, .int .u16 fl, .string nm, .int .u32 p, .int .u32 q, .int .u32 r], .int .i64 0]) ∧ Sep w w2 (fun _ => False) L' := by
    intro w' L' A c H R
    have := takeinfo_calls (c := c) H R g3 (by omega)
    rw [g1, g2] at this
    exact this
  have HP1 := hid @P1
  have HP2 := hid @P2
  clear P1 P2 g1 g2 g3 g4 hB1 h1
  have P3 : ∀ {w' : World} {L' : List Asr}, Sep w w' (fun _ => False) L' → Calls Try.prog 53 #[.string a1] w' fun e w' => ∃ A c, e = .returned (.tuple #[.slice A (nameB a1).length c, .int .i64 (nameE a1)]) ∧ Sep w w' (fun _ => False) (own 5 1 A (nameB a1).length c (by8 (nameB a1)) :: L') := fun H => putname_calls H
  obtain ⟨g1, g2, g3, g4, g5⟩ := name_back h2
  rw [g1] at P3
  obtain ⟨B2, hB2⟩ : ∃ B, B = nameB a1 := ⟨_, rfl⟩
  rw [← hB2] at P3 g2 g3 g4 g5
  have P4 : ∀ {w' : World} {L' : List Asr} {A : Option Addr} {c : Nat}, Sep w w' (fun _ => False) L' → Rb w (fun _ => False) L' 1 A B2.length (by8 B2) → Calls Try.prog 55 #[.slice A B2.length c] w' fun e w2 => e = .returned (.tuple #[.string a1, .int .i64 0]) ∧ Sep w w2 (fun _ => False) L' := by
    intro w' L' A c H R
    have := takename_calls (c := c) H R g4 (by omega)
    unfold TnOut at this
    rw [g2, g3] at this
    exact this
  have i16 : (a1.size : Int) ≤ 16 := by omega
  have HP3 := hid @P3
  have HP4 := hid @P4
  clear P3 P4 g1 g2 g3 g4 g5 hB2 h2
  have P5 : ∀ {w' : World} {L' : List Asr}, Sep w w' (fun _ => False) L' → Calls Try.prog 51 #[.slice A2 l.length c2] w' (TiOut w (fun _ => False) (tiI l) (tiE l) L') := fun H => takeinfo_calls H (HD.r2 _) HD.b2 (by have := HD.n9; omega)
  obtain ⟨g1, g2, g3⟩ := back_info HD.b2 (by rw [HD.hn]; exact HD.n9) h3
  rw [h3] at P5
  obtain ⟨Ji, hJ⟩ : ∃ J, J = tiI l := ⟨_, rfl⟩
  rw [← hJ] at P5 g1 g2 g3
  obtain ⟨j0, j1, j2, j3, j4, j5, j6⟩ := Ji
  have P6 : ∀ {w' : World} {L' : List Asr}, Sep w w' (fun _ => False) L' → Calls Try.prog 49 #[.agg #[.int .u16 j0, .int .u64 j1, .int .u16 j2, .string j3, .int .u32 j4, .int .u32 j5, .int .u32 j6]] w' (InfOut w (fun _ => False) 0 l L') := by
    intro w' L' H
    have := putinfo_calls H g1
    rw [g2, g3] at this
    exact this
  unfold TiOut at P5
  have HP5 := hid @P5
  have HP6 := hid @P6
  clear P5 P6 g1 g2 g3 hJ h3
  have P7 : ∀ {w' : World} {L' : List Asr}, Sep w w' (fun _ => False) L' → Calls Try.prog 55 #[.slice A2 l.length c2] w' fun e w2 => e = .returned (.tuple #[.string (tnS l), .int .i64 (tnE l)]) ∧ Sep w w2 (fun _ => False) L' := fun H => takename_calls H (HD.r2 _) HD.b2 (by have := HD.n9; omega)
  rw [tn_none h4] at P7
  obtain ⟨E4, hE4⟩ : ∃ E, E = tnE l := ⟨_, rfl⟩
  rw [← hE4] at P7 h4
  have e4 : (E4 == 0) = false := by simpa using h4
  have e4' : (E4 != 0) = true := by simpa using h4
  have HP7 := hid @P7
  clear P7 hE4 h4
  have HSa := (Sep.start w).alloc #[.int .u16 kd, .int .u64 size, .int .u16 fl, .string nm, .int .u32 p, .int .u32 q, .int .u32 r] 104
  go_enter Try.func10, Try.ntmps10
  go_wp2_with fail
  refine (HP1.out HSa).mono ?_
  rintro e w1 ⟨A3, c3, rfl, HS1⟩
  clear HSa
  go_wp2_with fail
  refine (HP2.out HS1 Rb.i0).mono ?_
  rintro e w2 ⟨rfl, HS2⟩
  have HS2a := HS2.alloc #[.int .u16 kd, .int .u64 size, .int .u16 fl, .string nm, .int .u32 p, .int .u32 q, .int .u32 r] 104
  have a0' := HS2a.up2.blk_at 0 rfl
  have a1' := HS2a.up2.blk_at 1 rfl
  have a2' := HS2a.up2.blk_at 2 rfl
  have a3' := HS2a.up2.blk_at 3 rfl
  have a4' := HS2a.up2.blk_at 4 rfl
  have a5' := HS2a.up2.blk_at 5 rfl
  have a6' := HS2a.up2.blk_at 6 rfl
  have hq := fun w => eqArr3 p q r p q r w
  have HZ1 : Sep w _ (fun _ => False) [] := HS2a.sel 3 []
  clear HS1 HS2 HS2a
  go_wp2_with fail
  refine (HP3.out HZ1).mono ?_
  rintro e w3 ⟨A5, c5, rfl, HS3⟩
  clear a0' a1' a2' a3' a4' a5' a6' hq
  go_wp2_with fail
  refine (HP4.out HS3 Rb.i0).mono ?_
  rintro e w4 ⟨rfl, HS4⟩
  have HZ2 : Sep w w4 (fun _ => False) [] := HS4.sel 1 []
  clear HS3 HS4 HZ1
  go_wp2_with fail
  refine (HP5.out HZ2).mono ?_
  rintro e w5 ⟨rfl, HS5⟩
  clear HZ2
  have HS5a := HS5.alloc #[.int .u16 j0, .int .u64 j1, .int .u16 j2, .string j3, .int .u32 j4, .int .u32 j5, .int .u32 j6] 104
  go_wp2_with fail
  refine (HP6.out HS5a).mono ?_
  rintro e w6 ⟨A6, c6, rfl, HS6⟩
  have hs1 := run_str (P := Try.prog) (c := c6) (Rb.i0.read HS6) 23 9 5 Try.underlying23 Try.underlying5 Try.underlying9
  have hs2 := run_str (P := Try.prog) (c := c2) ((HD.r2 _).read HS6) 23 9 5 Try.underlying23 Try.underlying5 Try.underlying9
  generalize strOfNums l = sl at hs1 hs2
  have HZ3 : Sep w w6 (fun _ => False) [] := HS6.sel 2 []
  clear HS5 HS5a HS6
  go_wp2_with fail
  refine (HP7.out HZ3).mono ?_
  rintro e w7 ⟨rfl, HS7⟩
  clear hs1 hs2
  go_wp2_with fail
  refine (wakes_calls HS7).mono ?_
  rintro e w9 ⟨rfl, HS9⟩
  go_wp2
  go_ret
  exact ⟨rfl, HS9.below⟩

set_option maxHeartbeats 8000000 in
set_option maxRecDepth 100000 in
theorem hdata_yyny {w : World} {kd size fl p q r : Int} {nm a1 : ByteArray} {A2 : Option Addr} {n2 c2 : Nat} {l : List Int} (HD : Hd w ⟨kd, size, fl, nm, p, q, r⟩ a1 A2 n2 l) (h1 : putE ⟨kd, size, fl, nm, p, q, r⟩ = 0) (h2 : a1.size ≤ 16) (h3 : tiE l ≠ 0) (h4 : tnE l = 0) :
    Calls Try.prog 10 #[.agg #[.int .u16 kd, .int .u64 size, .int .u16 fl, .string nm, .int .u32 p, .int .u32 q, .int .u32 r], .string a1, .slice A2 n2 c2] w fun e w' => e = .returned (.bool true) ∧ Below w.heap.size w w' := by
  have hln := HD.hn
  subst hln
  have P1 : ∀ {w' : World} {L' : List Asr}, Sep w w' (fun _ => False) L' → Calls Try.prog 49 #[.agg #[.int .u16 kd, .int .u64 size, .int .u16 fl, .string nm, .int .u32 p, .int .u32 q, .int .u32 r]] w' (InfOut w (fun _ => False) (putE ⟨kd, size, fl, nm, p, q, r⟩) (putB ⟨kd, size, fl, nm, p, q, r⟩) L') := fun H => putinfo_calls H HD.ok
  obtain ⟨g1, g2, g3, g4⟩ := info_back HD.ok h1
  rw [h1] at P1
  obtain ⟨B1, hB1⟩ : ∃ B, B = putB ⟨kd, size, fl, nm, p, q, r⟩ := ⟨_, rfl⟩
  rw [← hB1] at P1 g1 g2 g3 g4
  have P2 : ∀ {w' : World} {L' : List Asr} {A : Option Addr} {c : Nat}, Sep w w' (fun _ => False) L' → Rb w (fun _ => False) L' 1 A B1.length (by8 B1) → Calls Try.prog 51 #[.slice A B1.length c] w' fun e w2 => e = .returned (.tuple #[.agg #[.int .u16 kd, .int .u64 size, .int .u16 fl, .string nm, .int .u32 p, .int .u32 q, .int .u32 r], .int .i64 0]) ∧ Sep w w2 (fun _ => False) L' := by
    intro w' L' A c H R
    have := takeinfo_calls (c := c) H R g3 (by omega)
    rw [g1, g2] at this
    exact this
  have HP1 := hid @P1
  have HP2 := hid @P2
  clear P1 P2 g1 g2 g3 g4 hB1 h1
  have P3 : ∀ {w' : World} {L' : List Asr}, Sep w w' (fun _ => False) L' → Calls Try.prog 53 #[.string a1] w' fun e w' => ∃ A c, e = .returned (.tuple #[.slice A (nameB a1).length c, .int .i64 (nameE a1)]) ∧ Sep w w' (fun _ => False) (own 5 1 A (nameB a1).length c (by8 (nameB a1)) :: L') := fun H => putname_calls H
  obtain ⟨g1, g2, g3, g4, g5⟩ := name_back h2
  rw [g1] at P3
  obtain ⟨B2, hB2⟩ : ∃ B, B = nameB a1 := ⟨_, rfl⟩
  rw [← hB2] at P3 g2 g3 g4 g5
  have P4 : ∀ {w' : World} {L' : List Asr} {A : Option Addr} {c : Nat}, Sep w w' (fun _ => False) L' → Rb w (fun _ => False) L' 1 A B2.length (by8 B2) → Calls Try.prog 55 #[.slice A B2.length c] w' fun e w2 => e = .returned (.tuple #[.string a1, .int .i64 0]) ∧ Sep w w2 (fun _ => False) L' := by
    intro w' L' A c H R
    have := takename_calls (c := c) H R g4 (by omega)
    unfold TnOut at this
    rw [g2, g3] at this
    exact this
  have i16 : (a1.size : Int) ≤ 16 := by omega
  have HP3 := hid @P3
  have HP4 := hid @P4
  clear P3 P4 g1 g2 g3 g4 g5 hB2 h2
  have P5 : ∀ {w' : World} {L' : List Asr}, Sep w w' (fun _ => False) L' → Calls Try.prog 51 #[.slice A2 l.length c2] w' (TiOut w (fun _ => False) (tiI l) (tiE l) L') := fun H => takeinfo_calls H (HD.r2 _) HD.b2 (by have := HD.n9; omega)
  obtain ⟨E3, hE3⟩ : ∃ E, E = tiE l := ⟨_, rfl⟩
  rw [← hE3] at P5 h3
  have e3 : (E3 == 0) = false := by simpa using h3
  generalize tiI l = Ji at P5
  obtain ⟨j0, j1, j2, j3, j4, j5, j6⟩ := Ji
  unfold TiOut at P5
  have HP5 := hid @P5
  clear P5 hE3 h3
  have P7 : ∀ {w' : World} {L' : List Asr}, Sep w w' (fun _ => False) L' → Calls Try.prog 55 #[.slice A2 l.length c2] w' fun e w2 => e = .returned (.tuple #[.string (tnS l), .int .i64 (tnE l)]) ∧ Sep w w2 (fun _ => False) L' := fun H => takename_calls H (HD.r2 _) HD.b2 (by have := HD.n9; omega)
  obtain ⟨g1, g2⟩ := back_name HD.b2 h4
  rw [h4] at P7
  generalize tnS l = S4 at P7 g1 g2
  have P8 : ∀ {w' : World} {L' : List Asr}, Sep w w' (fun _ => False) L' → Calls Try.prog 53 #[.string S4] w' fun e w' => ∃ A c, e = .returned (.tuple #[.slice A l.length c, .int .i64 0]) ∧ Sep w w' (fun _ => False) (own 5 1 A l.length c (by8 l) :: L') := by
    intro w' L' H
    have := putname_calls (nm := S4) H
    rw [g1, g2] at this
    exact this
  have HP7 := hid @P7
  have HP8 := hid @P8
  clear P7 P8 g1 g2 h4
  have HSa := (Sep.start w).alloc #[.int .u16 kd, .int .u64 size, .int .u16 fl, .string nm, .int .u32 p, .int .u32 q, .int .u32 r] 104
  go_enter Try.func10, Try.ntmps10
  go_wp2_with fail
  refine (HP1.out HSa).mono ?_
  rintro e w1 ⟨A3, c3, rfl, HS1⟩
  clear HSa
  go_wp2_with fail
  refine (HP2.out HS1 Rb.i0).mono ?_
  rintro e w2 ⟨rfl, HS2⟩
  have HS2a := HS2.alloc #[.int .u16 kd, .int .u64 size, .int .u16 fl, .string nm, .int .u32 p, .int .u32 q, .int .u32 r] 104
  have a0' := HS2a.up2.blk_at 0 rfl
  have a1' := HS2a.up2.blk_at 1 rfl
  have a2' := HS2a.up2.blk_at 2 rfl
  have a3' := HS2a.up2.blk_at 3 rfl
  have a4' := HS2a.up2.blk_at 4 rfl
  have a5' := HS2a.up2.blk_at 5 rfl
  have a6' := HS2a.up2.blk_at 6 rfl
  have hq := fun w => eqArr3 p q r p q r w
  have HZ1 : Sep w _ (fun _ => False) [] := HS2a.sel 3 []
  clear HS1 HS2 HS2a
  go_wp2_with fail
  refine (HP3.out HZ1).mono ?_
  rintro e w3 ⟨A5, c5, rfl, HS3⟩
  clear a0' a1' a2' a3' a4' a5' a6' hq
  go_wp2_with fail
  refine (HP4.out HS3 Rb.i0).mono ?_
  rintro e w4 ⟨rfl, HS4⟩
  have HZ2 : Sep w w4 (fun _ => False) [] := HS4.sel 1 []
  clear HS3 HS4 HZ1
  go_wp2_with fail
  refine (HP5.out HZ2).mono ?_
  rintro e w5 ⟨rfl, HS5⟩
  clear HZ2
  have HS5a := HS5.alloc #[.int .u16 j0, .int .u64 j1, .int .u16 j2, .string j3, .int .u32 j4, .int .u32 j5, .int .u32 j6] 104
  have HZ3 : Sep w _ (fun _ => False) [] := HS5a.sel 1 []
  clear HS5 HS5a
  go_wp2_with fail
  refine (HP7.out HZ3).mono ?_
  rintro e w7 ⟨rfl, HS7⟩
  go_wp2_with fail
  refine (HP8.out HS7).mono ?_
  rintro e w8 ⟨A8, c8, rfl, HS8⟩
  have hs1 := run_str (P := Try.prog) (c := c8) (Rb.i0.read HS8) 23 9 5 Try.underlying23 Try.underlying5 Try.underlying9
  have hs2 := run_str (P := Try.prog) (c := c2) ((HD.r2 _).read HS8) 23 9 5 Try.underlying23 Try.underlying5 Try.underlying9
  generalize strOfNums l = sl at hs1 hs2
  go_wp2_with fail
  refine (wakes_calls HS8).mono ?_
  rintro e w9 ⟨rfl, HS9⟩
  go_wp2
  go_ret
  exact ⟨rfl, HS9.below⟩

set_option maxHeartbeats 8000000 in
set_option maxRecDepth 100000 in
theorem hdata_yynn {w : World} {kd size fl p q r : Int} {nm a1 : ByteArray} {A2 : Option Addr} {n2 c2 : Nat} {l : List Int} (HD : Hd w ⟨kd, size, fl, nm, p, q, r⟩ a1 A2 n2 l) (h1 : putE ⟨kd, size, fl, nm, p, q, r⟩ = 0) (h2 : a1.size ≤ 16) (h3 : tiE l ≠ 0) (h4 : tnE l ≠ 0) :
    Calls Try.prog 10 #[.agg #[.int .u16 kd, .int .u64 size, .int .u16 fl, .string nm, .int .u32 p, .int .u32 q, .int .u32 r], .string a1, .slice A2 n2 c2] w fun e w' => e = .returned (.bool true) ∧ Below w.heap.size w w' := by
  have hln := HD.hn
  subst hln
  have P1 : ∀ {w' : World} {L' : List Asr}, Sep w w' (fun _ => False) L' → Calls Try.prog 49 #[.agg #[.int .u16 kd, .int .u64 size, .int .u16 fl, .string nm, .int .u32 p, .int .u32 q, .int .u32 r]] w' (InfOut w (fun _ => False) (putE ⟨kd, size, fl, nm, p, q, r⟩) (putB ⟨kd, size, fl, nm, p, q, r⟩) L') := fun H => putinfo_calls H HD.ok
  obtain ⟨g1, g2, g3, g4⟩ := info_back HD.ok h1
  rw [h1] at P1
  obtain ⟨B1, hB1⟩ : ∃ B, B = putB ⟨kd, size, fl, nm, p, q, r⟩ := ⟨_, rfl⟩
  rw [← hB1] at P1 g1 g2 g3 g4
  have P2 : ∀ {w' : World} {L' : List Asr} {A : Option Addr} {c : Nat}, Sep w w' (fun _ => False) L' → Rb w (fun _ => False) L' 1 A B1.length (by8 B1) → Calls Try.prog 51 #[.slice A B1.length c] w' fun e w2 => e = .returned (.tuple #[.agg #[.int .u16 kd, .int .u64 size, .int .u16 fl, .string nm, .int .u32 p, .int .u32 q, .int .u32 r], .int .i64 0]) ∧ Sep w w2 (fun _ => False) L' := by
    intro w' L' A c H R
    have := takeinfo_calls (c := c) H R g3 (by omega)
    rw [g1, g2] at this
    exact this
  have HP1 := hid @P1
  have HP2 := hid @P2
  clear P1 P2 g1 g2 g3 g4 hB1 h1
  have P3 : ∀ {w' : World} {L' : List Asr}, Sep w w' (fun _ => False) L' → Calls Try.prog 53 #[.string a1] w' fun e w' => ∃ A c, e = .returned (.tuple #[.slice A (nameB a1).length c, .int .i64 (nameE a1)]) ∧ Sep w w' (fun _ => False) (own 5 1 A (nameB a1).length c (by8 (nameB a1)) :: L') := fun H => putname_calls H
  obtain ⟨g1, g2, g3, g4, g5⟩ := name_back h2
  rw [g1] at P3
  obtain ⟨B2, hB2⟩ : ∃ B, B = nameB a1 := ⟨_, rfl⟩
  rw [← hB2] at P3 g2 g3 g4 g5
  have P4 : ∀ {w' : World} {L' : List Asr} {A : Option Addr} {c : Nat}, Sep w w' (fun _ => False) L' → Rb w (fun _ => False) L' 1 A B2.length (by8 B2) → Calls Try.prog 55 #[.slice A B2.length c] w' fun e w2 => e = .returned (.tuple #[.string a1, .int .i64 0]) ∧ Sep w w2 (fun _ => False) L' := by
    intro w' L' A c H R
    have := takename_calls (c := c) H R g4 (by omega)
    unfold TnOut at this
    rw [g2, g3] at this
    exact this
  have i16 : (a1.size : Int) ≤ 16 := by omega
  have HP3 := hid @P3
  have HP4 := hid @P4
  clear P3 P4 g1 g2 g3 g4 g5 hB2 h2
  have P5 : ∀ {w' : World} {L' : List Asr}, Sep w w' (fun _ => False) L' → Calls Try.prog 51 #[.slice A2 l.length c2] w' (TiOut w (fun _ => False) (tiI l) (tiE l) L') := fun H => takeinfo_calls H (HD.r2 _) HD.b2 (by have := HD.n9; omega)
  obtain ⟨E3, hE3⟩ : ∃ E, E = tiE l := ⟨_, rfl⟩
  rw [← hE3] at P5 h3
  have e3 : (E3 == 0) = false := by simpa using h3
  generalize tiI l = Ji at P5
  obtain ⟨j0, j1, j2, j3, j4, j5, j6⟩ := Ji
  unfold TiOut at P5
  have HP5 := hid @P5
  clear P5 hE3 h3
  have P7 : ∀ {w' : World} {L' : List Asr}, Sep w w' (fun _ => False) L' → Calls Try.prog 55 #[.slice A2 l.length c2] w' fun e w2 => e = .returned (.tuple #[.string (tnS l), .int .i64 (tnE l)]) ∧ Sep w w2 (fun _ => False) L' := fun H => takename_calls H (HD.r2 _) HD.b2 (by have := HD.n9; omega)
  rw [tn_none h4] at P7
  obtain ⟨E4, hE4⟩ : ∃ E, E = tnE l := ⟨_, rfl⟩
  rw [← hE4] at P7 h4
  have e4 : (E4 == 0) = false := by simpa using h4
  have e4' : (E4 != 0) = true := by simpa using h4
  have HP7 := hid @P7
  clear P7 hE4 h4
  have HSa := (Sep.start w).alloc #[.int .u16 kd, .int .u64 size, .int .u16 fl, .string nm, .int .u32 p, .int .u32 q, .int .u32 r] 104
  go_enter Try.func10, Try.ntmps10
  go_wp2_with fail
  refine (HP1.out HSa).mono ?_
  rintro e w1 ⟨A3, c3, rfl, HS1⟩
  clear HSa
  go_wp2_with fail
  refine (HP2.out HS1 Rb.i0).mono ?_
  rintro e w2 ⟨rfl, HS2⟩
  have HS2a := HS2.alloc #[.int .u16 kd, .int .u64 size, .int .u16 fl, .string nm, .int .u32 p, .int .u32 q, .int .u32 r] 104
  have a0' := HS2a.up2.blk_at 0 rfl
  have a1' := HS2a.up2.blk_at 1 rfl
  have a2' := HS2a.up2.blk_at 2 rfl
  have a3' := HS2a.up2.blk_at 3 rfl
  have a4' := HS2a.up2.blk_at 4 rfl
  have a5' := HS2a.up2.blk_at 5 rfl
  have a6' := HS2a.up2.blk_at 6 rfl
  have hq := fun w => eqArr3 p q r p q r w
  have HZ1 : Sep w _ (fun _ => False) [] := HS2a.sel 3 []
  clear HS1 HS2 HS2a
  go_wp2_with fail
  refine (HP3.out HZ1).mono ?_
  rintro e w3 ⟨A5, c5, rfl, HS3⟩
  clear a0' a1' a2' a3' a4' a5' a6' hq
  go_wp2_with fail
  refine (HP4.out HS3 Rb.i0).mono ?_
  rintro e w4 ⟨rfl, HS4⟩
  have HZ2 : Sep w w4 (fun _ => False) [] := HS4.sel 1 []
  clear HS3 HS4 HZ1
  go_wp2_with fail
  refine (HP5.out HZ2).mono ?_
  rintro e w5 ⟨rfl, HS5⟩
  clear HZ2
  have HS5a := HS5.alloc #[.int .u16 j0, .int .u64 j1, .int .u16 j2, .string j3, .int .u32 j4, .int .u32 j5, .int .u32 j6] 104
  have HZ3 : Sep w _ (fun _ => False) [] := HS5a.sel 1 []
  clear HS5 HS5a
  go_wp2_with fail
  refine (HP7.out HZ3).mono ?_
  rintro e w7 ⟨rfl, HS7⟩
  go_wp2_with fail
  refine (wakes_calls HS7).mono ?_
  rintro e w9 ⟨rfl, HS9⟩
  go_wp2
  go_ret
  exact ⟨rfl, HS9.below⟩

set_option maxHeartbeats 8000000 in
set_option maxRecDepth 100000 in
theorem hdata_ynyy {w : World} {kd size fl p q r : Int} {nm a1 : ByteArray} {A2 : Option Addr} {n2 c2 : Nat} {l : List Int} (HD : Hd w ⟨kd, size, fl, nm, p, q, r⟩ a1 A2 n2 l) (h1 : putE ⟨kd, size, fl, nm, p, q, r⟩ = 0) (h2 : ¬ a1.size ≤ 16) (h3 : tiE l = 0) (h4 : tnE l = 0) :
    Calls Try.prog 10 #[.agg #[.int .u16 kd, .int .u64 size, .int .u16 fl, .string nm, .int .u32 p, .int .u32 q, .int .u32 r], .string a1, .slice A2 n2 c2] w fun e w' => e = .returned (.bool true) ∧ Below w.heap.size w w' := by
  have hln := HD.hn
  subst hln
  have P1 : ∀ {w' : World} {L' : List Asr}, Sep w w' (fun _ => False) L' → Calls Try.prog 49 #[.agg #[.int .u16 kd, .int .u64 size, .int .u16 fl, .string nm, .int .u32 p, .int .u32 q, .int .u32 r]] w' (InfOut w (fun _ => False) (putE ⟨kd, size, fl, nm, p, q, r⟩) (putB ⟨kd, size, fl, nm, p, q, r⟩) L') := fun H => putinfo_calls H HD.ok
  obtain ⟨g1, g2, g3, g4⟩ := info_back HD.ok h1
  rw [h1] at P1
  obtain ⟨B1, hB1⟩ : ∃ B, B = putB ⟨kd, size, fl, nm, p, q, r⟩ := ⟨_, rfl⟩
  rw [← hB1] at P1 g1 g2 g3 g4
  have P2 : ∀ {w' : World} {L' : List Asr} {A : Option Addr} {c : Nat}, Sep w w' (fun _ => False) L' → Rb w (fun _ => False) L' 1 A B1.length (by8 B1) → Calls Try.prog 51 #[.slice A B1.length c] w' fun e w2 => e = .returned (.tuple #[.agg #[.int .u16 kd, .int .u64 size, .int .u16 fl, .string nm, .int .u32 p, .int .u32 q, .int .u32 r], .int .i64 0]) ∧ Sep w w2 (fun _ => False) L' := by
    intro w' L' A c H R
    have := takeinfo_calls (c := c) H R g3 (by omega)
    rw [g1, g2] at this
    exact this
  have HP1 := hid @P1
  have HP2 := hid @P2
  clear P1 P2 g1 g2 g3 g4 hB1 h1
  have P3 : ∀ {w' : World} {L' : List Asr}, Sep w w' (fun _ => False) L' → Calls Try.prog 53 #[.string a1] w' fun e w' => ∃ A c, e = .returned (.tuple #[.slice A (nameB a1).length c, .int .i64 (nameE a1)]) ∧ Sep w w' (fun _ => False) (own 5 1 A (nameB a1).length c (by8 (nameB a1)) :: L') := fun H => putname_calls H
  rw [show nameE a1 = 3 from by unfold nameE; rw [if_pos (by omega)]] at P3
  generalize nameB a1 = B2 at P3
  have i16 : ¬ (a1.size : Int) ≤ 16 := by omega
  have HP3 := hid @P3
  clear P3 h2
  have P5 : ∀ {w' : World} {L' : List Asr}, Sep w w' (fun _ => False) L' → Calls Try.prog 51 #[.slice A2 l.length c2] w' (TiOut w (fun _ => False) (tiI l) (tiE l) L') := fun H => takeinfo_calls H (HD.r2 _) HD.b2 (by have := HD.n9; omega)
  obtain ⟨g1, g2, g3⟩ := back_info HD.b2 (by rw [HD.hn]; exact HD.n9) h3
  rw [h3] at P5
  obtain ⟨Ji, hJ⟩ : ∃ J, J = tiI l := ⟨_, rfl⟩
  rw [← hJ] at P5 g1 g2 g3
  obtain ⟨j0, j1, j2, j3, j4, j5, j6⟩ := Ji
  have P6 : ∀ {w' : World} {L' : List Asr}, Sep w w' (fun _ => False) L' → Calls Try.prog 49 #[.agg #[.int .u16 j0, .int .u64 j1, .int .u16 j2, .string j3, .int .u32 j4, .int .u32 j5, .int .u32 j6]] w' (InfOut w (fun _ => False) 0 l L') := by
    intro w' L' H
    have := putinfo_calls H g1
    rw [g2, g3] at this
    exact this
  unfold TiOut at P5
  have HP5 := hid @P5
  have HP6 := hid @P6
  clear P5 P6 g1 g2 g3 hJ h3
  have P7 : ∀ {w' : World} {L' : List Asr}, Sep w w' (fun _ => False) L' → Calls Try.prog 55 #[.slice A2 l.length c2] w' fun e w2 => e = .returned (.tuple #[.string (tnS l), .int .i64 (tnE l)]) ∧ Sep w w2 (fun _ => False) L' := fun H => takename_calls H (HD.r2 _) HD.b2 (by have := HD.n9; omega)
  obtain ⟨g1, g2⟩ := back_name HD.b2 h4
  rw [h4] at P7
  generalize tnS l = S4 at P7 g1 g2
  have P8 : ∀ {w' : World} {L' : List Asr}, Sep w w' (fun _ => False) L' → Calls Try.prog 53 #[.string S4] w' fun e w' => ∃ A c, e = .returned (.tuple #[.slice A l.length c, .int .i64 0]) ∧ Sep w w' (fun _ => False) (own 5 1 A l.length c (by8 l) :: L') := by
    intro w' L' H
    have := putname_calls (nm := S4) H
    rw [g1, g2] at this
    exact this
  have HP7 := hid @P7
  have HP8 := hid @P8
  clear P7 P8 g1 g2 h4
  have HSa := (Sep.start w).alloc #[.int .u16 kd, .int .u64 size, .int .u16 fl, .string nm, .int .u32 p, .int .u32 q, .int .u32 r] 104
  go_enter Try.func10, Try.ntmps10
  go_wp2_with fail
  refine (HP1.out HSa).mono ?_
  rintro e w1 ⟨A3, c3, rfl, HS1⟩
  clear HSa
  go_wp2_with fail
  refine (HP2.out HS1 Rb.i0).mono ?_
  rintro e w2 ⟨rfl, HS2⟩
  have HS2a := HS2.alloc #[.int .u16 kd, .int .u64 size, .int .u16 fl, .string nm, .int .u32 p, .int .u32 q, .int .u32 r] 104
  have a0' := HS2a.up2.blk_at 0 rfl
  have a1' := HS2a.up2.blk_at 1 rfl
  have a2' := HS2a.up2.blk_at 2 rfl
  have a3' := HS2a.up2.blk_at 3 rfl
  have a4' := HS2a.up2.blk_at 4 rfl
  have a5' := HS2a.up2.blk_at 5 rfl
  have a6' := HS2a.up2.blk_at 6 rfl
  have hq := fun w => eqArr3 p q r p q r w
  have HZ1 : Sep w _ (fun _ => False) [] := HS2a.sel 3 []
  clear HS1 HS2 HS2a
  go_wp2_with fail
  refine (HP3.out HZ1).mono ?_
  rintro e w3 ⟨A5, c5, rfl, HS3⟩
  clear a0' a1' a2' a3' a4' a5' a6' hq
  have HZ2 : Sep w w3 (fun _ => False) [] := HS3.sel 1 []
  clear HS3 HZ1
  go_wp2_with fail
  refine (HP5.out HZ2).mono ?_
  rintro e w5 ⟨rfl, HS5⟩
  clear HZ2
  have HS5a := HS5.alloc #[.int .u16 j0, .int .u64 j1, .int .u16 j2, .string j3, .int .u32 j4, .int .u32 j5, .int .u32 j6] 104
  go_wp2_with fail
  refine (HP6.out HS5a).mono ?_
  rintro e w6 ⟨A6, c6, rfl, HS6⟩
  have hs1 := run_str (P := Try.prog) (c := c6) (Rb.i0.read HS6) 23 9 5 Try.underlying23 Try.underlying5 Try.underlying9
  have hs2 := run_str (P := Try.prog) (c := c2) ((HD.r2 _).read HS6) 23 9 5 Try.underlying23 Try.underlying5 Try.underlying9
  generalize strOfNums l = sl at hs1 hs2
  have HZ3 : Sep w w6 (fun _ => False) [] := HS6.sel 2 []
  clear HS5 HS5a HS6
  go_wp2_with fail
  refine (HP7.out HZ3).mono ?_
  rintro e w7 ⟨rfl, HS7⟩
  clear hs1 hs2
  go_wp2_with fail
  refine (HP8.out HS7).mono ?_
  rintro e w8 ⟨A8, c8, rfl, HS8⟩
  have hs1 := run_str (P := Try.prog) (c := c8) (Rb.i0.read HS8) 23 9 5 Try.underlying23 Try.underlying5 Try.underlying9
  have hs2 := run_str (P := Try.prog) (c := c2) ((HD.r2 _).read HS8) 23 9 5 Try.underlying23 Try.underlying5 Try.underlying9
  generalize strOfNums l = sl at hs1 hs2
  go_wp2_with fail
  refine (wakes_calls HS8).mono ?_
  rintro e w9 ⟨rfl, HS9⟩
  go_wp2
  go_ret
  exact ⟨rfl, HS9.below⟩

set_option maxHeartbeats 8000000 in
set_option maxRecDepth 100000 in
theorem hdata_ynyn {w : World} {kd size fl p q r : Int} {nm a1 : ByteArray} {A2 : Option Addr} {n2 c2 : Nat} {l : List Int} (HD : Hd w ⟨kd, size, fl, nm, p, q, r⟩ a1 A2 n2 l) (h1 : putE ⟨kd, size, fl, nm, p, q, r⟩ = 0) (h2 : ¬ a1.size ≤ 16) (h3 : tiE l = 0) (h4 : tnE l ≠ 0) :
    Calls Try.prog 10 #[.agg #[.int .u16 kd, .int .u64 size, .int .u16 fl, .string nm, .int .u32 p, .int .u32 q, .int .u32 r], .string a1, .slice A2 n2 c2] w fun e w' => e = .returned (.bool true) ∧ Below w.heap.size w w' := by
  have hln := HD.hn
  subst hln
  have P1 : ∀ {w' : World} {L' : List Asr}, Sep w w' (fun _ => False) L' → Calls Try.prog 49 #[.agg #[.int .u16 kd, .int .u64 size, .int .u16 fl, .string nm, .int .u32 p, .int .u32 q, .int .u32 r]] w' (InfOut w (fun _ => False) (putE ⟨kd, size, fl, nm, p, q, r⟩) (putB ⟨kd, size, fl, nm, p, q, r⟩) L') := fun H => putinfo_calls H HD.ok
  obtain ⟨g1, g2, g3, g4⟩ := info_back HD.ok h1
  rw [h1] at P1
  obtain ⟨B1, hB1⟩ : ∃ B, B = putB ⟨kd, size, fl, nm, p, q, r⟩ := ⟨_, rfl⟩
  rw [← hB1] at P1 g1 g2 g3 g4
  have P2 : ∀ {w' : World} {L' : List Asr} {A : Option Addr} {c : Nat}, Sep w w' (fun _ => False) L' → Rb w (fun _ => False) L' 1 A B1.length (by8 B1) → Calls Try.prog 51 #[.slice A B1.length c] w' fun e w2 => e = .returned (.tuple #[.agg #[.int .u16 kd, .int .u64 size, .int .u16 fl, .string nm, .int .u32 p, .int .u32 q, .int .u32 r], .int .i64 0]) ∧ Sep w w2 (fun _ => False) L' := by
    intro w' L' A c H R
    have := takeinfo_calls (c := c) H R g3 (by omega)
    rw [g1, g2] at this
    exact this
  have HP1 := hid @P1
  have HP2 := hid @P2
  clear P1 P2 g1 g2 g3 g4 hB1 h1
  have P3 : ∀ {w' : World} {L' : List Asr}, Sep w w' (fun _ => False) L' → Calls Try.prog 53 #[.string a1] w' fun e w' => ∃ A c, e = .returned (.tuple #[.slice A (nameB a1).length c, .int .i64 (nameE a1)]) ∧ Sep w w' (fun _ => False) (own 5 1 A (nameB a1).length c (by8 (nameB a1)) :: L') := fun H => putname_calls H
  rw [show nameE a1 = 3 from by unfold nameE; rw [if_pos (by omega)]] at P3
  generalize nameB a1 = B2 at P3
  have i16 : ¬ (a1.size : Int) ≤ 16 := by omega
  have HP3 := hid @P3
  clear P3 h2
  have P5 : ∀ {w' : World} {L' : List Asr}, Sep w w' (fun _ => False) L' → Calls Try.prog 51 #[.slice A2 l.length c2] w' (TiOut w (fun _ => False) (tiI l) (tiE l) L') := fun H => takeinfo_calls H (HD.r2 _) HD.b2 (by have := HD.n9; omega)
  obtain ⟨g1, g2, g3⟩ := back_info HD.b2 (by rw [HD.hn]; exact HD.n9) h3
  rw [h3] at P5
  obtain ⟨Ji, hJ⟩ : ∃ J, J = tiI l := ⟨_, rfl⟩
  rw [← hJ] at P5 g1 g2 g3
  obtain ⟨j0, j1, j2, j3, j4, j5, j6⟩ := Ji
  have P6 : ∀ {w' : World} {L' : List Asr}, Sep w w' (fun _ => False) L' → Calls Try.prog 49 #[.agg #[.int .u16 j0, .int .u64 j1, .int .u16 j2, .string j3, .int .u32 j4, .int .u32 j5, .int .u32 j6]] w' (InfOut w (fun _ => False) 0 l L') := by
    intro w' L' H
    have := putinfo_calls H g1
    rw [g2, g3] at this
    exact this
  unfold TiOut at P5
  have HP5 := hid @P5
  have HP6 := hid @P6
  clear P5 P6 g1 g2 g3 hJ h3
  have P7 : ∀ {w' : World} {L' : List Asr}, Sep w w' (fun _ => False) L' → Calls Try.prog 55 #[.slice A2 l.length c2] w' fun e w2 => e = .returned (.tuple #[.string (tnS l), .int .i64 (tnE l)]) ∧ Sep w w2 (fun _ => False) L' := fun H => takename_calls H (HD.r2 _) HD.b2 (by have := HD.n9; omega)
  rw [tn_none h4] at P7
  obtain ⟨E4, hE4⟩ : ∃ E, E = tnE l := ⟨_, rfl⟩
  rw [← hE4] at P7 h4
  have e4 : (E4 == 0) = false := by simpa using h4
  have e4' : (E4 != 0) = true := by simpa using h4
  have HP7 := hid @P7
  clear P7 hE4 h4
  have HSa := (Sep.start w).alloc #[.int .u16 kd, .int .u64 size, .int .u16 fl, .string nm, .int .u32 p, .int .u32 q, .int .u32 r] 104
  go_enter Try.func10, Try.ntmps10
  go_wp2_with fail
  refine (HP1.out HSa).mono ?_
  rintro e w1 ⟨A3, c3, rfl, HS1⟩
  clear HSa
  go_wp2_with fail
  refine (HP2.out HS1 Rb.i0).mono ?_
  rintro e w2 ⟨rfl, HS2⟩
  have HS2a := HS2.alloc #[.int .u16 kd, .int .u64 size, .int .u16 fl, .string nm, .int .u32 p, .int .u32 q, .int .u32 r] 104
  have a0' := HS2a.up2.blk_at 0 rfl
  have a1' := HS2a.up2.blk_at 1 rfl
  have a2' := HS2a.up2.blk_at 2 rfl
  have a3' := HS2a.up2.blk_at 3 rfl
  have a4' := HS2a.up2.blk_at 4 rfl
  have a5' := HS2a.up2.blk_at 5 rfl
  have a6' := HS2a.up2.blk_at 6 rfl
  have hq := fun w => eqArr3 p q r p q r w
  have HZ1 : Sep w _ (fun _ => False) [] := HS2a.sel 3 []
  clear HS1 HS2 HS2a
  go_wp2_with fail
  refine (HP3.out HZ1).mono ?_
  rintro e w3 ⟨A5, c5, rfl, HS3⟩
  clear a0' a1' a2' a3' a4' a5' a6' hq
  have HZ2 : Sep w w3 (fun _ => False) [] := HS3.sel 1 []
  clear HS3 HZ1
  go_wp2_with fail
  refine (HP5.out HZ2).mono ?_
  rintro e w5 ⟨rfl, HS5⟩
  clear HZ2
  have HS5a := HS5.alloc #[.int .u16 j0, .int .u64 j1, .int .u16 j2, .string j3, .int .u32 j4, .int .u32 j5, .int .u32 j6] 104
  go_wp2_with fail
  refine (HP6.out HS5a).mono ?_
  rintro e w6 ⟨A6, c6, rfl, HS6⟩
  have hs1 := run_str (P := Try.prog) (c := c6) (Rb.i0.read HS6) 23 9 5 Try.underlying23 Try.underlying5 Try.underlying9
  have hs2 := run_str (P := Try.prog) (c := c2) ((HD.r2 _).read HS6) 23 9 5 Try.underlying23 Try.underlying5 Try.underlying9
  generalize strOfNums l = sl at hs1 hs2
  have HZ3 : Sep w w6 (fun _ => False) [] := HS6.sel 2 []
  clear HS5 HS5a HS6
  go_wp2_with fail
  refine (HP7.out HZ3).mono ?_
  rintro e w7 ⟨rfl, HS7⟩
  clear hs1 hs2
  go_wp2_with fail
  refine (wakes_calls HS7).mono ?_
  rintro e w9 ⟨rfl, HS9⟩
  go_wp2
  go_ret
  exact ⟨rfl, HS9.below⟩

set_option maxHeartbeats 8000000 in
set_option maxRecDepth 100000 in
theorem hdata_ynny {w : World} {kd size fl p q r : Int} {nm a1 : ByteArray} {A2 : Option Addr} {n2 c2 : Nat} {l : List Int} (HD : Hd w ⟨kd, size, fl, nm, p, q, r⟩ a1 A2 n2 l) (h1 : putE ⟨kd, size, fl, nm, p, q, r⟩ = 0) (h2 : ¬ a1.size ≤ 16) (h3 : tiE l ≠ 0) (h4 : tnE l = 0) :
    Calls Try.prog 10 #[.agg #[.int .u16 kd, .int .u64 size, .int .u16 fl, .string nm, .int .u32 p, .int .u32 q, .int .u32 r], .string a1, .slice A2 n2 c2] w fun e w' => e = .returned (.bool true) ∧ Below w.heap.size w w' := by
  have hln := HD.hn
  subst hln
  have P1 : ∀ {w' : World} {L' : List Asr}, Sep w w' (fun _ => False) L' → Calls Try.prog 49 #[.agg #[.int .u16 kd, .int .u64 size, .int .u16 fl, .string nm, .int .u32 p, .int .u32 q, .int .u32 r]] w' (InfOut w (fun _ => False) (putE ⟨kd, size, fl, nm, p, q, r⟩) (putB ⟨kd, size, fl, nm, p, q, r⟩) L') := fun H => putinfo_calls H HD.ok
  obtain ⟨g1, g2, g3, g4⟩ := info_back HD.ok h1
  rw [h1] at P1
  obtain ⟨B1, hB1⟩ : ∃ B, B = putB ⟨kd, size, fl, nm, p, q, r⟩ := ⟨_, rfl⟩
  rw [← hB1] at P1 g1 g2 g3 g4
  have P2 : ∀ {w' : World} {L' : List Asr} {A : Option Addr} {c : Nat}, Sep w w' (fun _ => False) L' → Rb w (fun _ => False) L' 1 A B1.length (by8 B1) → Calls Try.prog 51 #[.slice A B1.length c] w' fun e w2 => e = .returned (.tuple #[.agg #[.int .u16 kd, .int .u64 size, .int .u16 fl, .string nm, .int .u32 p, .int .u32 q, .int .u32 r], .int .i64 0]) ∧ Sep w w2 (fun _ => False) L' := by
    intro w' L' A c H R
    have := takeinfo_calls (c := c) H R g3 (by omega)
    rw [g1, g2] at this
    exact this
  have HP1 := hid @P1
  have HP2 := hid @P2
  clear P1 P2 g1 g2 g3 g4 hB1 h1
  have P3 : ∀ {w' : World} {L' : List Asr}, Sep w w' (fun _ => False) L' → Calls Try.prog 53 #[.string a1] w' fun e w' => ∃ A c, e = .returned (.tuple #[.slice A (nameB a1).length c, .int .i64 (nameE a1)]) ∧ Sep w w' (fun _ => False) (own 5 1 A (nameB a1).length c (by8 (nameB a1)) :: L') := fun H => putname_calls H
  rw [show nameE a1 = 3 from by unfold nameE; rw [if_pos (by omega)]] at P3
  generalize nameB a1 = B2 at P3
  have i16 : ¬ (a1.size : Int) ≤ 16 := by omega
  have HP3 := hid @P3
  clear P3 h2
  have P5 : ∀ {w' : World} {L' : List Asr}, Sep w w' (fun _ => False) L' → Calls Try.prog 51 #[.slice A2 l.length c2] w' (TiOut w (fun _ => False) (tiI l) (tiE l) L') := fun H => takeinfo_calls H (HD.r2 _) HD.b2 (by have := HD.n9; omega)
  obtain ⟨E3, hE3⟩ : ∃ E, E = tiE l := ⟨_, rfl⟩
  rw [← hE3] at P5 h3
  have e3 : (E3 == 0) = false := by simpa using h3
  generalize tiI l = Ji at P5
  obtain ⟨j0, j1, j2, j3, j4, j5, j6⟩ := Ji
  unfold TiOut at P5
  have HP5 := hid @P5
  clear P5 hE3 h3
  have P7 : ∀ {w' : World} {L' : List Asr}, Sep w w' (fun _ => False) L' → Calls Try.prog 55 #[.slice A2 l.length c2] w' fun e w2 => e = .returned (.tuple #[.string (tnS l), .int .i64 (tnE l)]) ∧ Sep w w2 (fun _ => False) L' := fun H => takename_calls H (HD.r2 _) HD.b2 (by have := HD.n9; omega)
  obtain ⟨g1, g2⟩ := back_name HD.b2 h4
  rw [h4] at P7
  generalize tnS l = S4 at P7 g1 g2
  have P8 : ∀ {w' : World} {L' : List Asr}, Sep w w' (fun _ => False) L' → Calls Try.prog 53 #[.string S4] w' fun e w' => ∃ A c, e = .returned (.tuple #[.slice A l.length c, .int .i64 0]) ∧ Sep w w' (fun _ => False) (own 5 1 A l.length c (by8 l) :: L') := by
    intro w' L' H
    have := putname_calls (nm := S4) H
    rw [g1, g2] at this
    exact this
  have HP7 := hid @P7
  have HP8 := hid @P8
  clear P7 P8 g1 g2 h4
  have HSa := (Sep.start w).alloc #[.int .u16 kd, .int .u64 size, .int .u16 fl, .string nm, .int .u32 p, .int .u32 q, .int .u32 r] 104
  go_enter Try.func10, Try.ntmps10
  go_wp2_with fail
  refine (HP1.out HSa).mono ?_
  rintro e w1 ⟨A3, c3, rfl, HS1⟩
  clear HSa
  go_wp2_with fail
  refine (HP2.out HS1 Rb.i0).mono ?_
  rintro e w2 ⟨rfl, HS2⟩
  have HS2a := HS2.alloc #[.int .u16 kd, .int .u64 size, .int .u16 fl, .string nm, .int .u32 p, .int .u32 q, .int .u32 r] 104
  have a0' := HS2a.up2.blk_at 0 rfl
  have a1' := HS2a.up2.blk_at 1 rfl
  have a2' := HS2a.up2.blk_at 2 rfl
  have a3' := HS2a.up2.blk_at 3 rfl
  have a4' := HS2a.up2.blk_at 4 rfl
  have a5' := HS2a.up2.blk_at 5 rfl
  have a6' := HS2a.up2.blk_at 6 rfl
  have hq := fun w => eqArr3 p q r p q r w
  have HZ1 : Sep w _ (fun _ => False) [] := HS2a.sel 3 []
  clear HS1 HS2 HS2a
  go_wp2_with fail
  refine (HP3.out HZ1).mono ?_
  rintro e w3 ⟨A5, c5, rfl, HS3⟩
  clear a0' a1' a2' a3' a4' a5' a6' hq
  have HZ2 : Sep w w3 (fun _ => False) [] := HS3.sel 1 []
  clear HS3 HZ1
  go_wp2_with fail
  refine (HP5.out HZ2).mono ?_
  rintro e w5 ⟨rfl, HS5⟩
  clear HZ2
  have HS5a := HS5.alloc #[.int .u16 j0, .int .u64 j1, .int .u16 j2, .string j3, .int .u32 j4, .int .u32 j5, .int .u32 j6] 104
  have HZ3 : Sep w _ (fun _ => False) [] := HS5a.sel 1 []
  clear HS5 HS5a
  go_wp2_with fail
  refine (HP7.out HZ3).mono ?_
  rintro e w7 ⟨rfl, HS7⟩
  go_wp2_with fail
  refine (HP8.out HS7).mono ?_
  rintro e w8 ⟨A8, c8, rfl, HS8⟩
  have hs1 := run_str (P := Try.prog) (c := c8) (Rb.i0.read HS8) 23 9 5 Try.underlying23 Try.underlying5 Try.underlying9
  have hs2 := run_str (P := Try.prog) (c := c2) ((HD.r2 _).read HS8) 23 9 5 Try.underlying23 Try.underlying5 Try.underlying9
  generalize strOfNums l = sl at hs1 hs2
  go_wp2_with fail
  refine (wakes_calls HS8).mono ?_
  rintro e w9 ⟨rfl, HS9⟩
  go_wp2
  go_ret
  exact ⟨rfl, HS9.below⟩

set_option maxHeartbeats 8000000 in
set_option maxRecDepth 100000 in
theorem hdata_ynnn {w : World} {kd size fl p q r : Int} {nm a1 : ByteArray} {A2 : Option Addr} {n2 c2 : Nat} {l : List Int} (HD : Hd w ⟨kd, size, fl, nm, p, q, r⟩ a1 A2 n2 l) (h1 : putE ⟨kd, size, fl, nm, p, q, r⟩ = 0) (h2 : ¬ a1.size ≤ 16) (h3 : tiE l ≠ 0) (h4 : tnE l ≠ 0) :
    Calls Try.prog 10 #[.agg #[.int .u16 kd, .int .u64 size, .int .u16 fl, .string nm, .int .u32 p, .int .u32 q, .int .u32 r], .string a1, .slice A2 n2 c2] w fun e w' => e = .returned (.bool true) ∧ Below w.heap.size w w' := by
  have hln := HD.hn
  subst hln
  have P1 : ∀ {w' : World} {L' : List Asr}, Sep w w' (fun _ => False) L' → Calls Try.prog 49 #[.agg #[.int .u16 kd, .int .u64 size, .int .u16 fl, .string nm, .int .u32 p, .int .u32 q, .int .u32 r]] w' (InfOut w (fun _ => False) (putE ⟨kd, size, fl, nm, p, q, r⟩) (putB ⟨kd, size, fl, nm, p, q, r⟩) L') := fun H => putinfo_calls H HD.ok
  obtain ⟨g1, g2, g3, g4⟩ := info_back HD.ok h1
  rw [h1] at P1
  obtain ⟨B1, hB1⟩ : ∃ B, B = putB ⟨kd, size, fl, nm, p, q, r⟩ := ⟨_, rfl⟩
  rw [← hB1] at P1 g1 g2 g3 g4
  have P2 : ∀ {w' : World} {L' : List Asr} {A : Option Addr} {c : Nat}, Sep w w' (fun _ => False) L' → Rb w (fun _ => False) L' 1 A B1.length (by8 B1) → Calls Try.prog 51 #[.slice A B1.length c] w' fun e w2 => e = .returned (.tuple #[.agg #[.int .u16 kd, .int .u64 size, .int .u16 fl, .string nm, .int .u32 p, .int .u32 q, .int .u32 r], .int .i64 0]) ∧ Sep w w2 (fun _ => False) L' := by
    intro w' L' A c H R
    have := takeinfo_calls (c := c) H R g3 (by omega)
    rw [g1, g2] at this
    exact this
  have HP1 := hid @P1
  have HP2 := hid @P2
  clear P1 P2 g1 g2 g3 g4 hB1 h1
  have P3 : ∀ {w' : World} {L' : List Asr}, Sep w w' (fun _ => False) L' → Calls Try.prog 53 #[.string a1] w' fun e w' => ∃ A c, e = .returned (.tuple #[.slice A (nameB a1).length c, .int .i64 (nameE a1)]) ∧ Sep w w' (fun _ => False) (own 5 1 A (nameB a1).length c (by8 (nameB a1)) :: L') := fun H => putname_calls H
  rw [show nameE a1 = 3 from by unfold nameE; rw [if_pos (by omega)]] at P3
  generalize nameB a1 = B2 at P3
  have i16 : ¬ (a1.size : Int) ≤ 16 := by omega
  have HP3 := hid @P3
  clear P3 h2
  have P5 : ∀ {w' : World} {L' : List Asr}, Sep w w' (fun _ => False) L' → Calls Try.prog 51 #[.slice A2 l.length c2] w' (TiOut w (fun _ => False) (tiI l) (tiE l) L') := fun H => takeinfo_calls H (HD.r2 _) HD.b2 (by have := HD.n9; omega)
  obtain ⟨E3, hE3⟩ : ∃ E, E = tiE l := ⟨_, rfl⟩
  rw [← hE3] at P5 h3
  have e3 : (E3 == 0) = false := by simpa using h3
  generalize tiI l = Ji at P5
  obtain ⟨j0, j1, j2, j3, j4, j5, j6⟩ := Ji
  unfold TiOut at P5
  have HP5 := hid @P5
  clear P5 hE3 h3
  have P7 : ∀ {w' : World} {L' : List Asr}, Sep w w' (fun _ => False) L' → Calls Try.prog 55 #[.slice A2 l.length c2] w' fun e w2 => e = .returned (.tuple #[.string (tnS l), .int .i64 (tnE l)]) ∧ Sep w w2 (fun _ => False) L' := fun H => takename_calls H (HD.r2 _) HD.b2 (by have := HD.n9; omega)
  rw [tn_none h4] at P7
  obtain ⟨E4, hE4⟩ : ∃ E, E = tnE l := ⟨_, rfl⟩
  rw [← hE4] at P7 h4
  have e4 : (E4 == 0) = false := by simpa using h4
  have e4' : (E4 != 0) = true := by simpa using h4
  have HP7 := hid @P7
  clear P7 hE4 h4
  have HSa := (Sep.start w).alloc #[.int .u16 kd, .int .u64 size, .int .u16 fl, .string nm, .int .u32 p, .int .u32 q, .int .u32 r] 104
  go_enter Try.func10, Try.ntmps10
  go_wp2_with fail
  refine (HP1.out HSa).mono ?_
  rintro e w1 ⟨A3, c3, rfl, HS1⟩
  clear HSa
  go_wp2_with fail
  refine (HP2.out HS1 Rb.i0).mono ?_
  rintro e w2 ⟨rfl, HS2⟩
  have HS2a := HS2.alloc #[.int .u16 kd, .int .u64 size, .int .u16 fl, .string nm, .int .u32 p, .int .u32 q, .int .u32 r] 104
  have a0' := HS2a.up2.blk_at 0 rfl
  have a1' := HS2a.up2.blk_at 1 rfl
  have a2' := HS2a.up2.blk_at 2 rfl
  have a3' := HS2a.up2.blk_at 3 rfl
  have a4' := HS2a.up2.blk_at 4 rfl
  have a5' := HS2a.up2.blk_at 5 rfl
  have a6' := HS2a.up2.blk_at 6 rfl
  have hq := fun w => eqArr3 p q r p q r w
  have HZ1 : Sep w _ (fun _ => False) [] := HS2a.sel 3 []
  clear HS1 HS2 HS2a
  go_wp2_with fail
  refine (HP3.out HZ1).mono ?_
  rintro e w3 ⟨A5, c5, rfl, HS3⟩
  clear a0' a1' a2' a3' a4' a5' a6' hq
  have HZ2 : Sep w w3 (fun _ => False) [] := HS3.sel 1 []
  clear HS3 HZ1
  go_wp2_with fail
  refine (HP5.out HZ2).mono ?_
  rintro e w5 ⟨rfl, HS5⟩
  clear HZ2
  have HS5a := HS5.alloc #[.int .u16 j0, .int .u64 j1, .int .u16 j2, .string j3, .int .u32 j4, .int .u32 j5, .int .u32 j6] 104
  have HZ3 : Sep w _ (fun _ => False) [] := HS5a.sel 1 []
  clear HS5 HS5a
  go_wp2_with fail
  refine (HP7.out HZ3).mono ?_
  rintro e w7 ⟨rfl, HS7⟩
  go_wp2_with fail
  refine (wakes_calls HS7).mono ?_
  rintro e w9 ⟨rfl, HS9⟩
  go_wp2
  go_ret
  exact ⟨rfl, HS9.below⟩

set_option maxHeartbeats 8000000 in
set_option maxRecDepth 100000 in
theorem hdata_nyyy {w : World} {kd size fl p q r : Int} {nm a1 : ByteArray} {A2 : Option Addr} {n2 c2 : Nat} {l : List Int} (HD : Hd w ⟨kd, size, fl, nm, p, q, r⟩ a1 A2 n2 l) (h1 : putE ⟨kd, size, fl, nm, p, q, r⟩ ≠ 0) (h2 : a1.size ≤ 16) (h3 : tiE l = 0) (h4 : tnE l = 0) :
    Calls Try.prog 10 #[.agg #[.int .u16 kd, .int .u64 size, .int .u16 fl, .string nm, .int .u32 p, .int .u32 q, .int .u32 r], .string a1, .slice A2 n2 c2] w fun e w' => e = .returned (.bool true) ∧ Below w.heap.size w w' := by
  have hln := HD.hn
  subst hln
  have P1 : ∀ {w' : World} {L' : List Asr}, Sep w w' (fun _ => False) L' → Calls Try.prog 49 #[.agg #[.int .u16 kd, .int .u64 size, .int .u16 fl, .string nm, .int .u32 p, .int .u32 q, .int .u32 r]] w' (InfOut w (fun _ => False) (putE ⟨kd, size, fl, nm, p, q, r⟩) (putB ⟨kd, size, fl, nm, p, q, r⟩) L') := fun H => putinfo_calls H HD.ok
  obtain ⟨E1, hE1⟩ : ∃ E, E = putE ⟨kd, size, fl, nm, p, q, r⟩ := ⟨_, rfl⟩
  rw [← hE1] at P1 h1
  have e1 : (E1 == 0) = false := by simpa using h1
  generalize putB ⟨kd, size, fl, nm, p, q, r⟩ = B1 at P1
  have HP1 := hid @P1
  clear P1 hE1 h1
  have P3 : ∀ {w' : World} {L' : List Asr}, Sep w w' (fun _ => False) L' → Calls Try.prog 53 #[.string a1] w' fun e w' => ∃ A c, e = .returned (.tuple #[.slice A (nameB a1).length c, .int .i64 (nameE a1)]) ∧ Sep w w' (fun _ => False) (own 5 1 A (nameB a1).length c (by8 (nameB a1)) :: L') := fun H => putname_calls H
  obtain ⟨g1, g2, g3, g4, g5⟩ := name_back h2
  rw [g1] at P3
  obtain ⟨B2, hB2⟩ : ∃ B, B = nameB a1 := ⟨_, rfl⟩
  rw [← hB2] at P3 g2 g3 g4 g5
  have P4 : ∀ {w' : World} {L' : List Asr} {A : Option Addr} {c : Nat}, Sep w w' (fun _ => False) L' → Rb w (fun _ => False) L' 1 A B2.length (by8 B2) → Calls Try.prog 55 #[.slice A B2.length c] w' fun e w2 => e = .returned (.tuple #[.string a1, .int .i64 0]) ∧ Sep w w2 (fun _ => False) L' := by
    intro w' L' A c H R
    have := takename_calls (c := c) H R g4 (by omega)
    unfold TnOut at this
    rw [g2, g3] at this
    exact this
  have i16 : (a1.size : Int) ≤ 16 := by omega
  have HP3 := hid @P3
  have HP4 := hid @P4
  clear P3 P4 g1 g2 g3 g4 g5 hB2 h2
  have P5 : ∀ {w' : World} {L' : List Asr}, Sep w w' (fun _ => False) L' → Calls Try.prog 51 #[.slice A2 l.length c2] w' (TiOut w (fun _ => False) (tiI l) (tiE l) L') := fun H => takeinfo_calls H (HD.r2 _) HD.b2 (by have := HD.n9; omega)
  obtain ⟨g1, g2, g3⟩ := back_info HD.b2 (by rw [HD.hn]; exact HD.n9) h3
  rw [h3] at P5
  obtain ⟨Ji, hJ⟩ : ∃ J, J = tiI l := ⟨_, rfl⟩
  rw [← hJ] at P5 g1 g2 g3
  obtain ⟨j0, j1, j2, j3, j4, j5, j6⟩ := Ji
  have P6 : ∀ {w' : World} {L' : List Asr}, Sep w w' (fun _ => False) L' → Calls Try.prog 49 #[.agg #[.int .u16 j0, .int .u64 j1, .int .u16 j2, .string j3, .int .u32 j4, .int .u32 j5, .int .u32 j6]] w' (InfOut w (fun _ => False) 0 l L') := by
    intro w' L' H
    have := putinfo_calls H g1
    rw [g2, g3] at this
    exact this
  unfold TiOut at P5
  have HP5 := hid @P5
  have HP6 := hid @P6
  clear P5 P6 g1 g2 g3 hJ h3
  have P7 : ∀ {w' : World} {L' : List Asr}, Sep w w' (fun _ => False) L' → Calls Try.prog 55 #[.slice A2 l.length c2] w' fun e w2 => e = .returned (.tuple #[.string (tnS l), .int .i64 (tnE l)]) ∧ Sep w w2 (fun _ => False) L' := fun H => takename_calls H (HD.r2 _) HD.b2 (by have := HD.n9; omega)
  obtain ⟨g1, g2⟩ := back_name HD.b2 h4
  rw [h4] at P7
  generalize tnS l = S4 at P7 g1 g2
  have P8 : ∀ {w' : World} {L' : List Asr}, Sep w w' (fun _ => False) L' → Calls Try.prog 53 #[.string S4] w' fun e w' => ∃ A c, e = .returned (.tuple #[.slice A l.length c, .int .i64 0]) ∧ Sep w w' (fun _ => False) (own 5 1 A l.length c (by8 l) :: L') := by
    intro w' L' H
    have := putname_calls (nm := S4) H
    rw [g1, g2] at this
    exact this
  have HP7 := hid @P7
  have HP8 := hid @P8
  clear P7 P8 g1 g2 h4
  have HSa := (Sep.start w).alloc #[.int .u16 kd, .int .u64 size, .int .u16 fl, .string nm, .int .u32 p, .int .u32 q, .int .u32 r] 104
  go_enter Try.func10, Try.ntmps10
  go_wp2_with fail
  refine (HP1.out HSa).mono ?_
  rintro e w1 ⟨A3, c3, rfl, HS1⟩
  clear HSa
  have HZ1 : Sep w _ (fun _ => False) [] := HS1.sel 2 []
  clear HS1
  go_wp2_with fail
  refine (HP3.out HZ1).mono ?_
  rintro e w3 ⟨A5, c5, rfl, HS3⟩
  go_wp2_with fail
  refine (HP4.out HS3 Rb.i0).mono ?_
  rintro e w4 ⟨rfl, HS4⟩
  have HZ2 : Sep w w4 (fun _ => False) [] := HS4.sel 1 []
  clear HS3 HS4 HZ1
  go_wp2_with fail
  refine (HP5.out HZ2).mono ?_
  rintro e w5 ⟨rfl, HS5⟩
  clear HZ2
  have HS5a := HS5.alloc #[.int .u16 j0, .int .u64 j1, .int .u16 j2, .string j3, .int .u32 j4, .int .u32 j5, .int .u32 j6] 104
  go_wp2_with fail
  refine (HP6.out HS5a).mono ?_
  rintro e w6 ⟨A6, c6, rfl, HS6⟩
  have hs1 := run_str (P := Try.prog) (c := c6) (Rb.i0.read HS6) 23 9 5 Try.underlying23 Try.underlying5 Try.underlying9
  have hs2 := run_str (P := Try.prog) (c := c2) ((HD.r2 _).read HS6) 23 9 5 Try.underlying23 Try.underlying5 Try.underlying9
  generalize strOfNums l = sl at hs1 hs2
  have HZ3 : Sep w w6 (fun _ => False) [] := HS6.sel 2 []
  clear HS5 HS5a HS6
  go_wp2_with fail
  refine (HP7.out HZ3).mono ?_
  rintro e w7 ⟨rfl, HS7⟩
  clear hs1 hs2
  go_wp2_with fail
  refine (HP8.out HS7).mono ?_
  rintro e w8 ⟨A8, c8, rfl, HS8⟩
  have hs1 := run_str (P := Try.prog) (c := c8) (Rb.i0.read HS8) 23 9 5 Try.underlying23 Try.underlying5 Try.underlying9
  have hs2 := run_str (P := Try.prog) (c := c2) ((HD.r2 _).read HS8) 23 9 5 Try.underlying23 Try.underlying5 Try.underlying9
  generalize strOfNums l = sl at hs1 hs2
  go_wp2_with fail
  refine (wakes_calls HS8).mono ?_
  rintro e w9 ⟨rfl, HS9⟩
  go_wp2
  go_ret
  exact ⟨rfl, HS9.below⟩

set_option maxHeartbeats 8000000 in
set_option maxRecDepth 100000 in
theorem hdata_nyyn {w : World} {kd size fl p q r : Int} {nm a1 : ByteArray} {A2 : Option Addr} {n2 c2 : Nat} {l : List Int} (HD : Hd w ⟨kd, size, fl, nm, p, q, r⟩ a1 A2 n2 l) (h1 : putE ⟨kd, size, fl, nm, p, q, r⟩ ≠ 0) (h2 : a1.size ≤ 16) (h3 : tiE l = 0) (h4 : tnE l ≠ 0) :
    Calls Try.prog 10 #[.agg #[.int .u16 kd, .int .u64 size, .int .u16 fl, .string nm, .int .u32 p, .int .u32 q, .int .u32 r], .string a1, .slice A2 n2 c2] w fun e w' => e = .returned (.bool true) ∧ Below w.heap.size w w' := by
  have hln := HD.hn
  subst hln
  have P1 : ∀ {w' : World} {L' : List Asr}, Sep w w' (fun _ => False) L' → Calls Try.prog 49 #[.agg #[.int .u16 kd, .int .u64 size, .int .u16 fl, .string nm, .int .u32 p, .int .u32 q, .int .u32 r]] w' (InfOut w (fun _ => False) (putE ⟨kd, size, fl, nm, p, q, r⟩) (putB ⟨kd, size, fl, nm, p, q, r⟩) L') := fun H => putinfo_calls H HD.ok
  obtain ⟨E1, hE1⟩ : ∃ E, E = putE ⟨kd, size, fl, nm, p, q, r⟩ := ⟨_, rfl⟩
  rw [← hE1] at P1 h1
  have e1 : (E1 == 0) = false := by simpa using h1
  generalize putB ⟨kd, size, fl, nm, p, q, r⟩ = B1 at P1
  have HP1 := hid @P1
  clear P1 hE1 h1
  have P3 : ∀ {w' : World} {L' : List Asr}, Sep w w' (fun _ => False) L' → Calls Try.prog 53 #[.string a1] w' fun e w' => ∃ A c, e = .returned (.tuple #[.slice A (nameB a1).length c, .int .i64 (nameE a1)]) ∧ Sep w w' (fun _ => False) (own 5 1 A (nameB a1).length c (by8 (nameB a1)) :: L') := fun H => putname_calls H
  obtain ⟨g1, g2, g3, g4, g5⟩ := name_back h2
  rw [g1] at P3
  obtain ⟨B2, hB2⟩ : ∃ B, B = nameB a1 := ⟨_, rfl⟩
  rw [← hB2] at P3 g2 g3 g4 g5
  have P4 : ∀ {w' : World} {L' : List Asr} {A : Option Addr} {c : Nat}, Sep w w' (fun _ => False) L' → Rb w (fun _ => False) L' 1 A B2.length (by8 B2) → Calls Try.prog 55 #[.slice A B2.length c] w' fun e w2 => e = .returned (.tuple #[.string a1, .int .i64 0]) ∧ Sep w w2 (fun _ => False) L' := by
    intro w' L' A c H R
    have := takename_calls (c := c) H R g4 (by omega)
    unfold TnOut at this
    rw [g2, g3] at this
    exact this
  have i16 : (a1.size : Int) ≤ 16 := by omega
  have HP3 := hid @P3
  have HP4 := hid @P4
  clear P3 P4 g1 g2 g3 g4 g5 hB2 h2
  have P5 : ∀ {w' : World} {L' : List Asr}, Sep w w' (fun _ => False) L' → Calls Try.prog 51 #[.slice A2 l.length c2] w' (TiOut w (fun _ => False) (tiI l) (tiE l) L') := fun H => takeinfo_calls H (HD.r2 _) HD.b2 (by have := HD.n9; omega)
  obtain ⟨g1, g2, g3⟩ := back_info HD.b2 (by rw [HD.hn]; exact HD.n9) h3
  rw [h3] at P5
  obtain ⟨Ji, hJ⟩ : ∃ J, J = tiI l := ⟨_, rfl⟩
  rw [← hJ] at P5 g1 g2 g3
  obtain ⟨j0, j1, j2, j3, j4, j5, j6⟩ := Ji
  have P6 : ∀ {w' : World} {L' : List Asr}, Sep w w' (fun _ => False) L' → Calls Try.prog 49 #[.agg #[.int .u16 j0, .int .u64 j1, .int .u16 j2, .string j3, .int .u32 j4, .int .u32 j5, .int .u32 j6]] w' (InfOut w (fun _ => False) 0 l L') := by
    intro w' L' H
    have := putinfo_calls H g1
    rw [g2, g3] at this
    exact this
  unfold TiOut at P5
  have HP5 := hid @P5
  have HP6 := hid @P6
  clear P5 P6 g1 g2 g3 hJ h3
  have P7 : ∀ {w' : World} {L' : List Asr}, Sep w w' (fun _ => False) L' → Calls Try.prog 55 #[.slice A2 l.length c2] w' fun e w2 => e = .returned (.tuple #[.string (tnS l), .int .i64 (tnE l)]) ∧ Sep w w2 (fun _ => False) L' := fun H => takename_calls H (HD.r2 _) HD.b2 (by have := HD.n9; omega)
  rw [tn_none h4] at P7
  obtain ⟨E4, hE4⟩ : ∃ E, E = tnE l := ⟨_, rfl⟩
  rw [← hE4] at P7 h4
  have e4 : (E4 == 0) = false := by simpa using h4
  have e4' : (E4 != 0) = true := by simpa using h4
  have HP7 := hid @P7
  clear P7 hE4 h4
  have HSa := (Sep.start w).alloc #[.int .u16 kd, .int .u64 size, .int .u16 fl, .string nm, .int .u32 p, .int .u32 q, .int .u32 r] 104
  go_enter Try.func10, Try.ntmps10
  go_wp2_with fail
  refine (HP1.out HSa).mono ?_
  rintro e w1 ⟨A3, c3, rfl, HS1⟩
  clear HSa
  have HZ1 : Sep w _ (fun _ => False) [] := HS1.sel 2 []
  clear HS1
  go_wp2_with fail
  refine (HP3.out HZ1).mono ?_
  rintro e w3 ⟨A5, c5, rfl, HS3⟩
  go_wp2_with fail
  refine (HP4.out HS3 Rb.i0).mono ?_
  rintro e w4 ⟨rfl, HS4⟩
  have HZ2 : Sep w w4 (fun _ => False) [] := HS4.sel 1 []
  clear HS3 HS4 HZ1
  go_wp2_with fail
  refine (HP5.out HZ2).mono ?_
  rintro e w5 ⟨rfl, HS5⟩
  clear HZ2
  have HS5a := HS5.alloc #[.int .u16 j0, .int .u64 j1, .int .u16 j2, .string j3, .int .u32 j4, .int .u32 j5, .int .u32 j6] 104
  go_wp2_with fail
  refine (HP6.out HS5a).mono ?_
  rintro e w6 ⟨A6, c6, rfl, HS6⟩
  have hs1 := run_str (P := Try.prog) (c := c6) (Rb.i0.read HS6) 23 9 5 Try.underlying23 Try.underlying5 Try.underlying9
  have hs2 := run_str (P := Try.prog) (c := c2) ((HD.r2 _).read HS6) 23 9 5 Try.underlying23 Try.underlying5 Try.underlying9
  generalize strOfNums l = sl at hs1 hs2
  have HZ3 : Sep w w6 (fun _ => False) [] := HS6.sel 2 []
  clear HS5 HS5a HS6
  go_wp2_with fail
  refine (HP7.out HZ3).mono ?_
  rintro e w7 ⟨rfl, HS7⟩
  clear hs1 hs2
  go_wp2_with fail
  refine (wakes_calls HS7).mono ?_
  rintro e w9 ⟨rfl, HS9⟩
  go_wp2
  go_ret
  exact ⟨rfl, HS9.below⟩

set_option maxHeartbeats 8000000 in
set_option maxRecDepth 100000 in
theorem hdata_nyny {w : World} {kd size fl p q r : Int} {nm a1 : ByteArray} {A2 : Option Addr} {n2 c2 : Nat} {l : List Int} (HD : Hd w ⟨kd, size, fl, nm, p, q, r⟩ a1 A2 n2 l) (h1 : putE ⟨kd, size, fl, nm, p, q, r⟩ ≠ 0) (h2 : a1.size ≤ 16) (h3 : tiE l ≠ 0) (h4 : tnE l = 0) :
    Calls Try.prog 10 #[.agg #[.int .u16 kd, .int .u64 size, .int .u16 fl, .string nm, .int .u32 p, .int .u32 q, .int .u32 r], .string a1, .slice A2 n2 c2] w fun e w' => e = .returned (.bool true) ∧ Below w.heap.size w w' := by
  have hln := HD.hn
  subst hln
  have P1 : ∀ {w' : World} {L' : List Asr}, Sep w w' (fun _ => False) L' → Calls Try.prog 49 #[.agg #[.int .u16 kd, .int .u64 size, .int .u16 fl, .string nm, .int .u32 p, .int .u32 q, .int .u32 r]] w' (InfOut w (fun _ => False) (putE ⟨kd, size, fl, nm, p, q, r⟩) (putB ⟨kd, size, fl, nm, p, q, r⟩) L') := fun H => putinfo_calls H HD.ok
  obtain ⟨E1, hE1⟩ : ∃ E, E = putE ⟨kd, size, fl, nm, p, q, r⟩ := ⟨_, rfl⟩
  rw [← hE1] at P1 h1
  have e1 : (E1 == 0) = false := by simpa using h1
  generalize putB ⟨kd, size, fl, nm, p, q, r⟩ = B1 at P1
  have HP1 := hid @P1
  clear P1 hE1 h1
  have P3 : ∀ {w' : World} {L' : List Asr}, Sep w w' (fun _ => False) L' → Calls Try.prog 53 #[.string a1] w' fun e w' => ∃ A c, e = .returned (.tuple #[.slice A (nameB a1).length c, .int .i64 (nameE a1)]) ∧ Sep w w' (fun _ => False) (own 5 1 A (nameB a1).length c (by8 (nameB a1)) :: L') := fun H => putname_calls H
  obtain ⟨g1, g2, g3, g4, g5⟩ := name_back h2
  rw [g1] at P3
  obtain ⟨B2, hB2⟩ : ∃ B, B = nameB a1 := ⟨_, rfl⟩
  rw [← hB2] at P3 g2 g3 g4 g5
  have P4 : ∀ {w' : World} {L' : List Asr} {A : Option Addr} {c : Nat}, Sep w w' (fun _ => False) L' → Rb w (fun _ => False) L' 1 A B2.length (by8 B2) → Calls Try.prog 55 #[.slice A B2.length c] w' fun e w2 => e = .returned (.tuple #[.string a1, .int .i64 0]) ∧ Sep w w2 (fun _ => False) L' := by
    intro w' L' A c H R
    have := takename_calls (c := c) H R g4 (by omega)
    unfold TnOut at this
    rw [g2, g3] at this
    exact this
  have i16 : (a1.size : Int) ≤ 16 := by omega
  have HP3 := hid @P3
  have HP4 := hid @P4
  clear P3 P4 g1 g2 g3 g4 g5 hB2 h2
  have P5 : ∀ {w' : World} {L' : List Asr}, Sep w w' (fun _ => False) L' → Calls Try.prog 51 #[.slice A2 l.length c2] w' (TiOut w (fun _ => False) (tiI l) (tiE l) L') := fun H => takeinfo_calls H (HD.r2 _) HD.b2 (by have := HD.n9; omega)
  obtain ⟨E3, hE3⟩ : ∃ E, E = tiE l := ⟨_, rfl⟩
  rw [← hE3] at P5 h3
  have e3 : (E3 == 0) = false := by simpa using h3
  generalize tiI l = Ji at P5
  obtain ⟨j0, j1, j2, j3, j4, j5, j6⟩ := Ji
  unfold TiOut at P5
  have HP5 := hid @P5
  clear P5 hE3 h3
  have P7 : ∀ {w' : World} {L' : List Asr}, Sep w w' (fun _ => False) L' → Calls Try.prog 55 #[.slice A2 l.length c2] w' fun e w2 => e = .returned (.tuple #[.string (tnS l), .int .i64 (tnE l)]) ∧ Sep w w2 (fun _ => False) L' := fun H => takename_calls H (HD.r2 _) HD.b2 (by have := HD.n9; omega)
  obtain ⟨g1, g2⟩ := back_name HD.b2 h4
  rw [h4] at P7
  generalize tnS l = S4 at P7 g1 g2
  have P8 : ∀ {w' : World} {L' : List Asr}, Sep w w' (fun _ => False) L' → Calls Try.prog 53 #[.string S4] w' fun e w' => ∃ A c, e = .returned (.tuple #[.slice A l.length c, .int .i64 0]) ∧ Sep w w' (fun _ => False) (own 5 1 A l.length c (by8 l) :: L') := by
    intro w' L' H
    have := putname_calls (nm := S4) H
    rw [g1, g2] at this
    exact this
  have HP7 := hid @P7
  have HP8 := hid @P8
  clear P7 P8 g1 g2 h4
  have HSa := (Sep.start w).alloc #[.int .u16 kd, .int .u64 size, .int .u16 fl, .string nm, .int .u32 p, .int .u32 q, .int .u32 r] 104
  go_enter Try.func10, Try.ntmps10
  go_wp2_with fail
  refine (HP1.out HSa).mono ?_
  rintro e w1 ⟨A3, c3, rfl, HS1⟩
  clear HSa
  have HZ1 : Sep w _ (fun _ => False) [] := HS1.sel 2 []
  clear HS1
  go_wp2_with fail
  refine (HP3.out HZ1).mono ?_
  rintro e w3 ⟨A5, c5, rfl, HS3⟩
  go_wp2_with fail
  refine (HP4.out HS3 Rb.i0).mono ?_
  rintro e w4 ⟨rfl, HS4⟩
  have HZ2 : Sep w w4 (fun _ => False) [] := HS4.sel 1 []
  clear HS3 HS4 HZ1
  go_wp2_with fail
  refine (HP5.out HZ2).mono ?_
  rintro e w5 ⟨rfl, HS5⟩
  clear HZ2
  have HS5a := HS5.alloc #[.int .u16 j0, .int .u64 j1, .int .u16 j2, .string j3, .int .u32 j4, .int .u32 j5, .int .u32 j6] 104
  have HZ3 : Sep w _ (fun _ => False) [] := HS5a.sel 1 []
  clear HS5 HS5a
  go_wp2_with fail
  refine (HP7.out HZ3).mono ?_
  rintro e w7 ⟨rfl, HS7⟩
  go_wp2_with fail
  refine (HP8.out HS7).mono ?_
  rintro e w8 ⟨A8, c8, rfl, HS8⟩
  have hs1 := run_str (P := Try.prog) (c := c8) (Rb.i0.read HS8) 23 9 5 Try.underlying23 Try.underlying5 Try.underlying9
  have hs2 := run_str (P := Try.prog) (c := c2) ((HD.r2 _).read HS8) 23 9 5 Try.underlying23 Try.underlying5 Try.underlying9
  generalize strOfNums l = sl at hs1 hs2
  go_wp2_with fail
  refine (wakes_calls HS8).mono ?_
  rintro e w9 ⟨rfl, HS9⟩
  go_wp2
  go_ret
  exact ⟨rfl, HS9.below⟩

set_option maxHeartbeats 8000000 in
set_option maxRecDepth 100000 in
theorem hdata_nynn {w : World} {kd size fl p q r : Int} {nm a1 : ByteArray} {A2 : Option Addr} {n2 c2 : Nat} {l : List Int} (HD : Hd w ⟨kd, size, fl, nm, p, q, r⟩ a1 A2 n2 l) (h1 : putE ⟨kd, size, fl, nm, p, q, r⟩ ≠ 0) (h2 : a1.size ≤ 16) (h3 : tiE l ≠ 0) (h4 : tnE l ≠ 0) :
    Calls Try.prog 10 #[.agg #[.int .u16 kd, .int .u64 size, .int .u16 fl, .string nm, .int .u32 p, .int .u32 q, .int .u32 r], .string a1, .slice A2 n2 c2] w fun e w' => e = .returned (.bool true) ∧ Below w.heap.size w w' := by
  have hln := HD.hn
  subst hln
  have P1 : ∀ {w' : World} {L' : List Asr}, Sep w w' (fun _ => False) L' → Calls Try.prog 49 #[.agg #[.int .u16 kd, .int .u64 size, .int .u16 fl, .string nm, .int .u32 p, .int .u32 q, .int .u32 r]] w' (InfOut w (fun _ => False) (putE ⟨kd, size, fl, nm, p, q, r⟩) (putB ⟨kd, size, fl, nm, p, q, r⟩) L') := fun H => putinfo_calls H HD.ok
  obtain ⟨E1, hE1⟩ : ∃ E, E = putE ⟨kd, size, fl, nm, p, q, r⟩ := ⟨_, rfl⟩
  rw [← hE1] at P1 h1
  have e1 : (E1 == 0) = false := by simpa using h1
  generalize putB ⟨kd, size, fl, nm, p, q, r⟩ = B1 at P1
  have HP1 := hid @P1
  clear P1 hE1 h1
  have P3 : ∀ {w' : World} {L' : List Asr}, Sep w w' (fun _ => False) L' → Calls Try.prog 53 #[.string a1] w' fun e w' => ∃ A c, e = .returned (.tuple #[.slice A (nameB a1).length c, .int .i64 (nameE a1)]) ∧ Sep w w' (fun _ => False) (own 5 1 A (nameB a1).length c (by8 (nameB a1)) :: L') := fun H => putname_calls H
  obtain ⟨g1, g2, g3, g4, g5⟩ := name_back h2
  rw [g1] at P3
  obtain ⟨B2, hB2⟩ : ∃ B, B = nameB a1 := ⟨_, rfl⟩
  rw [← hB2] at P3 g2 g3 g4 g5
  have P4 : ∀ {w' : World} {L' : List Asr} {A : Option Addr} {c : Nat}, Sep w w' (fun _ => False) L' → Rb w (fun _ => False) L' 1 A B2.length (by8 B2) → Calls Try.prog 55 #[.slice A B2.length c] w' fun e w2 => e = .returned (.tuple #[.string a1, .int .i64 0]) ∧ Sep w w2 (fun _ => False) L' := by
    intro w' L' A c H R
    have := takename_calls (c := c) H R g4 (by omega)
    unfold TnOut at this
    rw [g2, g3] at this
    exact this
  have i16 : (a1.size : Int) ≤ 16 := by omega
  have HP3 := hid @P3
  have HP4 := hid @P4
  clear P3 P4 g1 g2 g3 g4 g5 hB2 h2
  have P5 : ∀ {w' : World} {L' : List Asr}, Sep w w' (fun _ => False) L' → Calls Try.prog 51 #[.slice A2 l.length c2] w' (TiOut w (fun _ => False) (tiI l) (tiE l) L') := fun H => takeinfo_calls H (HD.r2 _) HD.b2 (by have := HD.n9; omega)
  obtain ⟨E3, hE3⟩ : ∃ E, E = tiE l := ⟨_, rfl⟩
  rw [← hE3] at P5 h3
  have e3 : (E3 == 0) = false := by simpa using h3
  generalize tiI l = Ji at P5
  obtain ⟨j0, j1, j2, j3, j4, j5, j6⟩ := Ji
  unfold TiOut at P5
  have HP5 := hid @P5
  clear P5 hE3 h3
  have P7 : ∀ {w' : World} {L' : List Asr}, Sep w w' (fun _ => False) L' → Calls Try.prog 55 #[.slice A2 l.length c2] w' fun e w2 => e = .returned (.tuple #[.string (tnS l), .int .i64 (tnE l)]) ∧ Sep w w2 (fun _ => False) L' := fun H => takename_calls H (HD.r2 _) HD.b2 (by have := HD.n9; omega)
  rw [tn_none h4] at P7
  obtain ⟨E4, hE4⟩ : ∃ E, E = tnE l := ⟨_, rfl⟩
  rw [← hE4] at P7 h4
  have e4 : (E4 == 0) = false := by simpa using h4
  have e4' : (E4 != 0) = true := by simpa using h4
  have HP7 := hid @P7
  clear P7 hE4 h4
  have HSa := (Sep.start w).alloc #[.int .u16 kd, .int .u64 size, .int .u16 fl, .string nm, .int .u32 p, .int .u32 q, .int .u32 r] 104
  go_enter Try.func10, Try.ntmps10
  go_wp2_with fail
  refine (HP1.out HSa).mono ?_
  rintro e w1 ⟨A3, c3, rfl, HS1⟩
  clear HSa
  have HZ1 : Sep w _ (fun _ => False) [] := HS1.sel 2 []
  clear HS1
  go_wp2_with fail
  refine (HP3.out HZ1).mono ?_
  rintro e w3 ⟨A5, c5, rfl, HS3⟩
  go_wp2_with fail
  refine (HP4.out HS3 Rb.i0).mono ?_
  rintro e w4 ⟨rfl, HS4⟩
  have HZ2 : Sep w w4 (fun _ => False) [] := HS4.sel 1 []
  clear HS3 HS4 HZ1
  go_wp2_with fail
  refine (HP5.out HZ2).mono ?_
  rintro e w5 ⟨rfl, HS5⟩
  clear HZ2
  have HS5a := HS5.alloc #[.int .u16 j0, .int .u64 j1, .int .u16 j2, .string j3, .int .u32 j4, .int .u32 j5, .int .u32 j6] 104
  have HZ3 : Sep w _ (fun _ => False) [] := HS5a.sel 1 []
  clear HS5 HS5a
  go_wp2_with fail
  refine (HP7.out HZ3).mono ?_
  rintro e w7 ⟨rfl, HS7⟩
  go_wp2_with fail
  refine (wakes_calls HS7).mono ?_
  rintro e w9 ⟨rfl, HS9⟩
  go_wp2
  go_ret
  exact ⟨rfl, HS9.below⟩

set_option maxHeartbeats 8000000 in
set_option maxRecDepth 100000 in
theorem hdata_nnyy {w : World} {kd size fl p q r : Int} {nm a1 : ByteArray} {A2 : Option Addr} {n2 c2 : Nat} {l : List Int} (HD : Hd w ⟨kd, size, fl, nm, p, q, r⟩ a1 A2 n2 l) (h1 : putE ⟨kd, size, fl, nm, p, q, r⟩ ≠ 0) (h2 : ¬ a1.size ≤ 16) (h3 : tiE l = 0) (h4 : tnE l = 0) :
    Calls Try.prog 10 #[.agg #[.int .u16 kd, .int .u64 size, .int .u16 fl, .string nm, .int .u32 p, .int .u32 q, .int .u32 r], .string a1, .slice A2 n2 c2] w fun e w' => e = .returned (.bool true) ∧ Below w.heap.size w w' := by
  have hln := HD.hn
  subst hln
  have P1 : ∀ {w' : World} {L' : List Asr}, Sep w w' (fun _ => False) L' → Calls Try.prog 49 #[.agg #[.int .u16 kd, .int .u64 size, .int .u16 fl, .string nm, .int .u32 p, .int .u32 q, .int .u32 r]] w' (InfOut w (fun _ => False) (putE ⟨kd, size, fl, nm, p, q, r⟩) (putB ⟨kd, size, fl, nm, p, q, r⟩) L') := fun H => putinfo_calls H HD.ok
  obtain ⟨E1, hE1⟩ : ∃ E, E = putE ⟨kd, size, fl, nm, p, q, r⟩ := ⟨_, rfl⟩
  rw [← hE1] at P1 h1
  have e1 : (E1 == 0) = false := by simpa using h1
  generalize putB ⟨kd, size, fl, nm, p, q, r⟩ = B1 at P1
  have HP1 := hid @P1
  clear P1 hE1 h1
  have P3 : ∀ {w' : World} {L' : List Asr}, Sep w w' (fun _ => False) L' → Calls Try.prog 53 #[.string a1] w' fun e w' => ∃ A c, e = .returned (.tuple #[.slice A (nameB a1).length c, .int .i64 (nameE a1)]) ∧ Sep w w' (fun _ => False) (own 5 1 A (nameB a1).length c (by8 (nameB a1)) :: L') := fun H => putname_calls H
  rw [show nameE a1 = 3 from by unfold nameE; rw [if_pos (by omega)]] at P3
  generalize nameB a1 = B2 at P3
  have i16 : ¬ (a1.size : Int) ≤ 16 := by omega
  have HP3 := hid @P3
  clear P3 h2
  have P5 : ∀ {w' : World} {L' : List Asr}, Sep w w' (fun _ => False) L' → Calls Try.prog 51 #[.slice A2 l.length c2] w' (TiOut w (fun _ => False) (tiI l) (tiE l) L') := fun H => takeinfo_calls H (HD.r2 _) HD.b2 (by have := HD.n9; omega)
  obtain ⟨g1, g2, g3⟩ := back_info HD.b2 (by rw [HD.hn]; exact HD.n9) h3
  rw [h3] at P5
  obtain ⟨Ji, hJ⟩ : ∃ J, J = tiI l := ⟨_, rfl⟩
  rw [← hJ] at P5 g1 g2 g3
  obtain ⟨j0, j1, j2, j3, j4, j5, j6⟩ := Ji
  have P6 : ∀ {w' : World} {L' : List Asr}, Sep w w' (fun _ => False) L' → Calls Try.prog 49 #[.agg #[.int .u16 j0, .int .u64 j1, .int .u16 j2, .string j3, .int .u32 j4, .int .u32 j5, .int .u32 j6]] w' (InfOut w (fun _ => False) 0 l L') := by
    intro w' L' H
    have := putinfo_calls H g1
    rw [g2, g3] at this
    exact this
  unfold TiOut at P5
  have HP5 := hid @P5
  have HP6 := hid @P6
  clear P5 P6 g1 g2 g3 hJ h3
  have P7 : ∀ {w' : World} {L' : List Asr}, Sep w w' (fun _ => False) L' → Calls Try.prog 55 #[.slice A2 l.length c2] w' fun e w2 => e = .returned (.tuple #[.string (tnS l), .int .i64 (tnE l)]) ∧ Sep w w2 (fun _ => False) L' := fun H => takename_calls H (HD.r2 _) HD.b2 (by have := HD.n9; omega)
  obtain ⟨g1, g2⟩ := back_name HD.b2 h4
  rw [h4] at P7
  generalize tnS l = S4 at P7 g1 g2
  have P8 : ∀ {w' : World} {L' : List Asr}, Sep w w' (fun _ => False) L' → Calls Try.prog 53 #[.string S4] w' fun e w' => ∃ A c, e = .returned (.tuple #[.slice A l.length c, .int .i64 0]) ∧ Sep w w' (fun _ => False) (own 5 1 A l.length c (by8 l) :: L') := by
    intro w' L' H
    have := putname_calls (nm := S4) H
    rw [g1, g2] at this
    exact this
  have HP7 := hid @P7
  have HP8 := hid @P8
  clear P7 P8 g1 g2 h4
  have HSa := (Sep.start w).alloc #[.int .u16 kd, .int .u64 size, .int .u16 fl, .string nm, .int .u32 p, .int .u32 q, .int .u32 r] 104
  go_enter Try.func10, Try.ntmps10
  go_wp2_with fail
  refine (HP1.out HSa).mono ?_
  rintro e w1 ⟨A3, c3, rfl, HS1⟩
  clear HSa
  have HZ1 : Sep w _ (fun _ => False) [] := HS1.sel 2 []
  clear HS1
  go_wp2_with fail
  refine (HP3.out HZ1).mono ?_
  rintro e w3 ⟨A5, c5, rfl, HS3⟩
  have HZ2 : Sep w w3 (fun _ => False) [] := HS3.sel 1 []
  clear HS3 HZ1
  go_wp2_with fail
  refine (HP5.out HZ2).mono ?_
  rintro e w5 ⟨rfl, HS5⟩
  clear HZ2
  have HS5a := HS5.alloc #[.int .u16 j0, .int .u64 j1, .int .u16 j2, .string j3, .int .u32 j4, .int .u32 j5, .int .u32 j6] 104
  go_wp2_with fail
  refine (HP6.out HS5a).mono ?_
  rintro e w6 ⟨A6, c6, rfl, HS6⟩
  have hs1 := run_str (P := Try.prog) (c := c6) (Rb.i0.read HS6) 23 9 5 Try.underlying23 Try.underlying5 Try.underlying9
  have hs2 := run_str (P := Try.prog) (c := c2) ((HD.r2 _).read HS6) 23 9 5 Try.underlying23 Try.underlying5 Try.underlying9
  generalize strOfNums l = sl at hs1 hs2
  have HZ3 : Sep w w6 (fun _ => False) [] := HS6.sel 2 []
  clear HS5 HS5a HS6
  go_wp2_with fail
  refine (HP7.out HZ3).mono ?_
  rintro e w7 ⟨rfl, HS7⟩
  clear hs1 hs2
  go_wp2_with fail
  refine (HP8.out HS7).mono ?_
  rintro e w8 ⟨A8, c8, rfl, HS8⟩
  have hs1 := run_str (P := Try.prog) (c := c8) (Rb.i0.read HS8) 23 9 5 Try.underlying23 Try.underlying5 Try.underlying9
  have hs2 := run_str (P := Try.prog) (c := c2) ((HD.r2 _).read HS8) 23 9 5 Try.underlying23 Try.underlying5 Try.underlying9
  generalize strOfNums l = sl at hs1 hs2
  go_wp2_with fail
  refine (wakes_calls HS8).mono ?_
  rintro e w9 ⟨rfl, HS9⟩
  go_wp2
  go_ret
  exact ⟨rfl, HS9.below⟩

set_option maxHeartbeats 8000000 in
set_option maxRecDepth 100000 in
theorem hdata_nnyn {w : World} {kd size fl p q r : Int} {nm a1 : ByteArray} {A2 : Option Addr} {n2 c2 : Nat} {l : List Int} (HD : Hd w ⟨kd, size, fl, nm, p, q, r⟩ a1 A2 n2 l) (h1 : putE ⟨kd, size, fl, nm, p, q, r⟩ ≠ 0) (h2 : ¬ a1.size ≤ 16) (h3 : tiE l = 0) (h4 : tnE l ≠ 0) :
    Calls Try.prog 10 #[.agg #[.int .u16 kd, .int .u64 size, .int .u16 fl, .string nm, .int .u32 p, .int .u32 q, .int .u32 r], .string a1, .slice A2 n2 c2] w fun e w' => e = .returned (.bool true) ∧ Below w.heap.size w w' := by
  have hln := HD.hn
  subst hln
  have P1 : ∀ {w' : World} {L' : List Asr}, Sep w w' (fun _ => False) L' → Calls Try.prog 49 #[.agg #[.int .u16 kd, .int .u64 size, .int .u16 fl, .string nm, .int .u32 p, .int .u32 q, .int .u32 r]] w' (InfOut w (fun _ => False) (putE ⟨kd, size, fl, nm, p, q, r⟩) (putB ⟨kd, size, fl, nm, p, q, r⟩) L') := fun H => putinfo_calls H HD.ok
  obtain ⟨E1, hE1⟩ : ∃ E, E = putE ⟨kd, size, fl, nm, p, q, r⟩ := ⟨_, rfl⟩
  rw [← hE1] at P1 h1
  have e1 : (E1 == 0) = false := by simpa using h1
  generalize putB ⟨kd, size, fl, nm, p, q, r⟩ = B1 at P1
  have HP1 := hid @P1
  clear P1 hE1 h1
  have P3 : ∀ {w' : World} {L' : List Asr}, Sep w w' (fun _ => False) L' → Calls Try.prog 53 #[.string a1] w' fun e w' => ∃ A c, e = .returned (.tuple #[.slice A (nameB a1).length c, .int .i64 (nameE a1)]) ∧ Sep w w' (fun _ => False) (own 5 1 A (nameB a1).length c (by8 (nameB a1)) :: L') := fun H => putname_calls H
  rw [show nameE a1 = 3 from by unfold nameE; rw [if_pos (by omega)]] at P3
  generalize nameB a1 = B2 at P3
  have i16 : ¬ (a1.size : Int) ≤ 16 := by omega
  have HP3 := hid @P3
  clear P3 h2
  have P5 : ∀ {w' : World} {L' : List Asr}, Sep w w' (fun _ => False) L' → Calls Try.prog 51 #[.slice A2 l.length c2] w' (TiOut w (fun _ => False) (tiI l) (tiE l) L') := fun H => takeinfo_calls H (HD.r2 _) HD.b2 (by have := HD.n9; omega)
  obtain ⟨g1, g2, g3⟩ := back_info HD.b2 (by rw [HD.hn]; exact HD.n9) h3
  rw [h3] at P5
  obtain ⟨Ji, hJ⟩ : ∃ J, J = tiI l := ⟨_, rfl⟩
  rw [← hJ] at P5 g1 g2 g3
  obtain ⟨j0, j1, j2, j3, j4, j5, j6⟩ := Ji
  have P6 : ∀ {w' : World} {L' : List Asr}, Sep w w' (fun _ => False) L' → Calls Try.prog 49 #[.agg #[.int .u16 j0, .int .u64 j1, .int .u16 j2, .string j3, .int .u32 j4, .int .u32 j5, .int .u32 j6]] w' (InfOut w (fun _ => False) 0 l L') := by
    intro w' L' H
    have := putinfo_calls H g1
    rw [g2, g3] at this
    exact this
  unfold TiOut at P5
  have HP5 := hid @P5
  have HP6 := hid @P6
  clear P5 P6 g1 g2 g3 hJ h3
  have P7 : ∀ {w' : World} {L' : List Asr}, Sep w w' (fun _ => False) L' → Calls Try.prog 55 #[.slice A2 l.length c2] w' fun e w2 => e = .returned (.tuple #[.string (tnS l), .int .i64 (tnE l)]) ∧ Sep w w2 (fun _ => False) L' := fun H => takename_calls H (HD.r2 _) HD.b2 (by have := HD.n9; omega)
  rw [tn_none h4] at P7
  obtain ⟨E4, hE4⟩ : ∃ E, E = tnE l := ⟨_, rfl⟩
  rw [← hE4] at P7 h4
  have e4 : (E4 == 0) = false := by simpa using h4
  have e4' : (E4 != 0) = true := by simpa using h4
  have HP7 := hid @P7
  clear P7 hE4 h4
  have HSa := (Sep.start w).alloc #[.int .u16 kd, .int .u64 size, .int .u16 fl, .string nm, .int .u32 p, .int .u32 q, .int .u32 r] 104
  go_enter Try.func10, Try.ntmps10
  go_wp2_with fail
  refine (HP1.out HSa).mono ?_
  rintro e w1 ⟨A3, c3, rfl, HS1⟩
  clear HSa
  have HZ1 : Sep w _ (fun _ => False) [] := HS1.sel 2 []
  clear HS1
  go_wp2_with fail
  refine (HP3.out HZ1).mono ?_
  rintro e w3 ⟨A5, c5, rfl, HS3⟩
  have HZ2 : Sep w w3 (fun _ => False) [] := HS3.sel 1 []
  clear HS3 HZ1
  go_wp2_with fail
  refine (HP5.out HZ2).mono ?_
  rintro e w5 ⟨rfl, HS5⟩
  clear HZ2
  have HS5a := HS5.alloc #[.int .u16 j0, .int .u64 j1, .int .u16 j2, .string j3, .int .u32 j4, .int .u32 j5, .int .u32 j6] 104
  go_wp2_with fail
  refine (HP6.out HS5a).mono ?_
  rintro e w6 ⟨A6, c6, rfl, HS6⟩
  have hs1 := run_str (P := Try.prog) (c := c6) (Rb.i0.read HS6) 23 9 5 Try.underlying23 Try.underlying5 Try.underlying9
  have hs2 := run_str (P := Try.prog) (c := c2) ((HD.r2 _).read HS6) 23 9 5 Try.underlying23 Try.underlying5 Try.underlying9
  generalize strOfNums l = sl at hs1 hs2
  have HZ3 : Sep w w6 (fun _ => False) [] := HS6.sel 2 []
  clear HS5 HS5a HS6
  go_wp2_with fail
  refine (HP7.out HZ3).mono ?_
  rintro e w7 ⟨rfl, HS7⟩
  clear hs1 hs2
  go_wp2_with fail
  refine (wakes_calls HS7).mono ?_
  rintro e w9 ⟨rfl, HS9⟩
  go_wp2
  go_ret
  exact ⟨rfl, HS9.below⟩

set_option maxHeartbeats 8000000 in
set_option maxRecDepth 100000 in
theorem hdata_nnny {w : World} {kd size fl p q r : Int} {nm a1 : ByteArray} {A2 : Option Addr} {n2 c2 : Nat} {l : List Int} (HD : Hd w ⟨kd, size, fl, nm, p, q, r⟩ a1 A2 n2 l) (h1 : putE ⟨kd, size, fl, nm, p, q, r⟩ ≠ 0) (h2 : ¬ a1.size ≤ 16) (h3 : tiE l ≠ 0) (h4 : tnE l = 0) :
    Calls Try.prog 10 #[.agg #[.int .u16 kd, .int .u64 size, .int .u16 fl, .string nm, .int .u32 p, .int .u32 q, .int .u32 r], .string a1, .slice A2 n2 c2] w fun e w' => e = .returned (.bool true) ∧ Below w.heap.size w w' := by
  have hln := HD.hn
  subst hln
  have P1 : ∀ {w' : World} {L' : List Asr}, Sep w w' (fun _ => False) L' → Calls Try.prog 49 #[.agg #[.int .u16 kd, .int .u64 size, .int .u16 fl, .string nm, .int .u32 p, .int .u32 q, .int .u32 r]] w' (InfOut w (fun _ => False) (putE ⟨kd, size, fl, nm, p, q, r⟩) (putB ⟨kd, size, fl, nm, p, q, r⟩) L') := fun H => putinfo_calls H HD.ok
  obtain ⟨E1, hE1⟩ : ∃ E, E = putE ⟨kd, size, fl, nm, p, q, r⟩ := ⟨_, rfl⟩
  rw [← hE1] at P1 h1
  have e1 : (E1 == 0) = false := by simpa using h1
  generalize putB ⟨kd, size, fl, nm, p, q, r⟩ = B1 at P1
  have HP1 := hid @P1
  clear P1 hE1 h1
  have P3 : ∀ {w' : World} {L' : List Asr}, Sep w w' (fun _ => False) L' → Calls Try.prog 53 #[.string a1] w' fun e w' => ∃ A c, e = .returned (.tuple #[.slice A (nameB a1).length c, .int .i64 (nameE a1)]) ∧ Sep w w' (fun _ => False) (own 5 1 A (nameB a1).length c (by8 (nameB a1)) :: L') := fun H => putname_calls H
  rw [show nameE a1 = 3 from by unfold nameE; rw [if_pos (by omega)]] at P3
  generalize nameB a1 = B2 at P3
  have i16 : ¬ (a1.size : Int) ≤ 16 := by omega
  have HP3 := hid @P3
  clear P3 h2
  have P5 : ∀ {w' : World} {L' : List Asr}, Sep w w' (fun _ => False) L' → Calls Try.prog 51 #[.slice A2 l.length c2] w' (TiOut w (fun _ => False) (tiI l) (tiE l) L') := fun H => takeinfo_calls H (HD.r2 _) HD.b2 (by have := HD.n9; omega)
  obtain ⟨E3, hE3⟩ : ∃ E, E = tiE l := ⟨_, rfl⟩
  rw [← hE3] at P5 h3
  have e3 : (E3 == 0) = false := by simpa using h3
  generalize tiI l = Ji at P5
  obtain ⟨j0, j1, j2, j3, j4, j5, j6⟩ := Ji
  unfold TiOut at P5
  have HP5 := hid @P5
  clear P5 hE3 h3
  have P7 : ∀ {w' : World} {L' : List Asr}, Sep w w' (fun _ => False) L' → Calls Try.prog 55 #[.slice A2 l.length c2] w' fun e w2 => e = .returned (.tuple #[.string (tnS l), .int .i64 (tnE l)]) ∧ Sep w w2 (fun _ => False) L' := fun H => takename_calls H (HD.r2 _) HD.b2 (by have := HD.n9; omega)
  obtain ⟨g1, g2⟩ := back_name HD.b2 h4
  rw [h4] at P7
  generalize tnS l = S4 at P7 g1 g2
  have P8 : ∀ {w' : World} {L' : List Asr}, Sep w w' (fun _ => False) L' → Calls Try.prog 53 #[.string S4] w' fun e w' => ∃ A c, e = .returned (.tuple #[.slice A l.length c, .int .i64 0]) ∧ Sep w w' (fun _ => False) (own 5 1 A l.length c (by8 l) :: L') := by
    intro w' L' H
    have := putname_calls (nm := S4) H
    rw [g1, g2] at this
    exact this
  have HP7 := hid @P7
  have HP8 := hid @P8
  clear P7 P8 g1 g2 h4
  have HSa := (Sep.start w).alloc #[.int .u16 kd, .int .u64 size, .int .u16 fl, .string nm, .int .u32 p, .int .u32 q, .int .u32 r] 104
  go_enter Try.func10, Try.ntmps10
  go_wp2_with fail
  refine (HP1.out HSa).mono ?_
  rintro e w1 ⟨A3, c3, rfl, HS1⟩
  clear HSa
  have HZ1 : Sep w _ (fun _ => False) [] := HS1.sel 2 []
  clear HS1
  go_wp2_with fail
  refine (HP3.out HZ1).mono ?_
  rintro e w3 ⟨A5, c5, rfl, HS3⟩
  have HZ2 : Sep w w3 (fun _ => False) [] := HS3.sel 1 []
  clear HS3 HZ1
  go_wp2_with fail
  refine (HP5.out HZ2).mono ?_
  rintro e w5 ⟨rfl, HS5⟩
  clear HZ2
  have HS5a := HS5.alloc #[.int .u16 j0, .int .u64 j1, .int .u16 j2, .string j3, .int .u32 j4, .int .u32 j5, .int .u32 j6] 104
  have HZ3 : Sep w _ (fun _ => False) [] := HS5a.sel 1 []
  clear HS5 HS5a
  go_wp2_with fail
  refine (HP7.out HZ3).mono ?_
  rintro e w7 ⟨rfl, HS7⟩
  go_wp2_with fail
  refine (HP8.out HS7).mono ?_
  rintro e w8 ⟨A8, c8, rfl, HS8⟩
  have hs1 := run_str (P := Try.prog) (c := c8) (Rb.i0.read HS8) 23 9 5 Try.underlying23 Try.underlying5 Try.underlying9
  have hs2 := run_str (P := Try.prog) (c := c2) ((HD.r2 _).read HS8) 23 9 5 Try.underlying23 Try.underlying5 Try.underlying9
  generalize strOfNums l = sl at hs1 hs2
  go_wp2_with fail
  refine (wakes_calls HS8).mono ?_
  rintro e w9 ⟨rfl, HS9⟩
  go_wp2
  go_ret
  exact ⟨rfl, HS9.below⟩

set_option maxHeartbeats 8000000 in
set_option maxRecDepth 100000 in
theorem hdata_nnnn {w : World} {kd size fl p q r : Int} {nm a1 : ByteArray} {A2 : Option Addr} {n2 c2 : Nat} {l : List Int} (HD : Hd w ⟨kd, size, fl, nm, p, q, r⟩ a1 A2 n2 l) (h1 : putE ⟨kd, size, fl, nm, p, q, r⟩ ≠ 0) (h2 : ¬ a1.size ≤ 16) (h3 : tiE l ≠ 0) (h4 : tnE l ≠ 0) :
    Calls Try.prog 10 #[.agg #[.int .u16 kd, .int .u64 size, .int .u16 fl, .string nm, .int .u32 p, .int .u32 q, .int .u32 r], .string a1, .slice A2 n2 c2] w fun e w' => e = .returned (.bool true) ∧ Below w.heap.size w w' := by
  have hln := HD.hn
  subst hln
  have P1 : ∀ {w' : World} {L' : List Asr}, Sep w w' (fun _ => False) L' → Calls Try.prog 49 #[.agg #[.int .u16 kd, .int .u64 size, .int .u16 fl, .string nm, .int .u32 p, .int .u32 q, .int .u32 r]] w' (InfOut w (fun _ => False) (putE ⟨kd, size, fl, nm, p, q, r⟩) (putB ⟨kd, size, fl, nm, p, q, r⟩) L') := fun H => putinfo_calls H HD.ok
  obtain ⟨E1, hE1⟩ : ∃ E, E = putE ⟨kd, size, fl, nm, p, q, r⟩ := ⟨_, rfl⟩
  rw [← hE1] at P1 h1
  have e1 : (E1 == 0) = false := by simpa using h1
  generalize putB ⟨kd, size, fl, nm, p, q, r⟩ = B1 at P1
  have HP1 := hid @P1
  clear P1 hE1 h1
  have P3 : ∀ {w' : World} {L' : List Asr}, Sep w w' (fun _ => False) L' → Calls Try.prog 53 #[.string a1] w' fun e w' => ∃ A c, e = .returned (.tuple #[.slice A (nameB a1).length c, .int .i64 (nameE a1)]) ∧ Sep w w' (fun _ => False) (own 5 1 A (nameB a1).length c (by8 (nameB a1)) :: L') := fun H => putname_calls H
  rw [show nameE a1 = 3 from by unfold nameE; rw [if_pos (by omega)]] at P3
  generalize nameB a1 = B2 at P3
  have i16 : ¬ (a1.size : Int) ≤ 16 := by omega
  have HP3 := hid @P3
  clear P3 h2
  have P5 : ∀ {w' : World} {L' : List Asr}, Sep w w' (fun _ => False) L' → Calls Try.prog 51 #[.slice A2 l.length c2] w' (TiOut w (fun _ => False) (tiI l) (tiE l) L') := fun H => takeinfo_calls H (HD.r2 _) HD.b2 (by have := HD.n9; omega)
  obtain ⟨E3, hE3⟩ : ∃ E, E = tiE l := ⟨_, rfl⟩
  rw [← hE3] at P5 h3
  have e3 : (E3 == 0) = false := by simpa using h3
  generalize tiI l = Ji at P5
  obtain ⟨j0, j1, j2, j3, j4, j5, j6⟩ := Ji
  unfold TiOut at P5
  have HP5 := hid @P5
  clear P5 hE3 h3
  have P7 : ∀ {w' : World} {L' : List Asr}, Sep w w' (fun _ => False) L' → Calls Try.prog 55 #[.slice A2 l.length c2] w' fun e w2 => e = .returned (.tuple #[.string (tnS l), .int .i64 (tnE l)]) ∧ Sep w w2 (fun _ => False) L' := fun H => takename_calls H (HD.r2 _) HD.b2 (by have := HD.n9; omega)
  rw [tn_none h4] at P7
  obtain ⟨E4, hE4⟩ : ∃ E, E = tnE l := ⟨_, rfl⟩
  rw [← hE4] at P7 h4
  have e4 : (E4 == 0) = false := by simpa using h4
  have e4' : (E4 != 0) = true := by simpa using h4
  have HP7 := hid @P7
  clear P7 hE4 h4
  have HSa := (Sep.start w).alloc #[.int .u16 kd, .int .u64 size, .int .u16 fl, .string nm, .int .u32 p, .int .u32 q, .int .u32 r] 104
  go_enter Try.func10, Try.ntmps10
  go_wp2_with fail
  refine (HP1.out HSa).mono ?_
  rintro e w1 ⟨A3, c3, rfl, HS1⟩
  clear HSa
  have HZ1 : Sep w _ (fun _ => False) [] := HS1.sel 2 []
  clear HS1
  go_wp2_with fail
  refine (HP3.out HZ1).mono ?_
  rintro e w3 ⟨A5, c5, rfl, HS3⟩
  have HZ2 : Sep w w3 (fun _ => False) [] := HS3.sel 1 []
  clear HS3 HZ1
  go_wp2_with fail
  refine (HP5.out HZ2).mono ?_
  rintro e w5 ⟨rfl, HS5⟩
  clear HZ2
  have HS5a := HS5.alloc #[.int .u16 j0, .int .u64 j1, .int .u16 j2, .string j3, .int .u32 j4, .int .u32 j5, .int .u32 j6] 104
  have HZ3 : Sep w _ (fun _ => False) [] := HS5a.sel 1 []
  clear HS5 HS5a
  go_wp2_with fail
  refine (HP7.out HZ3).mono ?_
  rintro e w7 ⟨rfl, HS7⟩
  go_wp2_with fail
  refine (wakes_calls HS7).mono ?_
  rintro e w9 ⟨rfl, HS9⟩
  go_wp2
  go_ret
  exact ⟨rfl, HS9.below⟩

theorem helloData_walk (cs0 : Array Value) (a1 : ByteArray) (A2 : Option Addr) (n2 c2 : Nat) (x0 : Sh.V (.agg (.pair (.int .u16) (.pair (.int .u64) (.pair (.int .u16) (.pair .str (.pair (.agg (.pair (.int .u32) (.pair (.int .u32) (.pair (.int .u32) .unit)))) .unit))))))) (x1 : Sh.V .str) (x2 : Sh.V (.slice (.int .u8) 1)) (w : World) (s0 : Sees w.heap (.agg (.pair (.int .u16) (.pair (.int .u64) (.pair (.int .u16) (.pair .str (.pair (.agg (.pair (.int .u32) (.pair (.int .u32) (.pair (.int .u32) .unit)))) .unit)))))) cs0.toList x0) (s1 : Sees w.heap .str [.string a1] x1) (s2 : Sees w.heap (.slice (.int .u8) 1) [.slice A2 n2 c2] x2) (y0 : Light (.agg (.pair (.int .u16) (.pair (.int .u64) (.pair (.int .u16) (.pair .str (.pair (.agg (.pair (.int .u32) (.pair (.int .u32) (.pair (.int .u32) .unit)))) .unit)))))) x0) (y1 : Light .str x1) (y2 : Light (.slice (.int .u8) 1) x2) :
    Calls Try.prog 10 #[.agg cs0, .string a1, .slice A2 n2 c2] w fun e w' => e = .returned (.bool true) ∧ Below w.heap.size w w' := by
  obtain ⟨kd, size, fl, nm, p, q, r, rfl, hk, hsz, hf, hn, hp, hq, hr⟩ := sees_info s0 y0
  obtain ⟨hn2, hr2, hc2, _, hw2⟩ := sees_ints s2
  obtain ⟨l, rfl⟩ : ∃ l : List Int, l = x2 := ⟨_, rfl⟩
  have ly2 : n2 ≤ 140737488351232 := by have := y2.1; omega
  have HD : Hd w ⟨kd, size, fl, nm, p, q, r⟩ a1 A2 n2 l := ⟨⟨hk, hsz, hf, hn, hp, hq, hr⟩, hn2.symm, ly2, fun L => Rb.came hr2, kv_byt hw2⟩
  by_cases h1 : putE ⟨kd, size, fl, nm, p, q, r⟩ = 0 <;> by_cases h2 : a1.size ≤ 16 <;> by_cases h3 : tiE l = 0 <;> by_cases h4 : tnE l = 0
  · exact hdata_yyyy HD h1 h2 h3 h4
  · exact hdata_yyyn HD h1 h2 h3 h4
  · exact hdata_yyny HD h1 h2 h3 h4
  · exact hdata_yynn HD h1 h2 h3 h4
  · exact hdata_ynyy HD h1 h2 h3 h4
  · exact hdata_ynyn HD h1 h2 h3 h4
  · exact hdata_ynny HD h1 h2 h3 h4
  · exact hdata_ynnn HD h1 h2 h3 h4
  · exact hdata_nyyy HD h1 h2 h3 h4
  · exact hdata_nyyn HD h1 h2 h3 h4
  · exact hdata_nyny HD h1 h2 h3 h4
  · exact hdata_nynn HD h1 h2 h3 h4
  · exact hdata_nnyy HD h1 h2 h3 h4
  · exact hdata_nnyn HD h1 h2 h3 h4
  · exact hdata_nnny HD h1 h2 h3 h4
  · exact hdata_nnnn HD h1 h2 h3 h4
end Go.Proofs.Ytgepekailoopeaa
