/-
  The walk of HelloKnown.
-/
import Derived.Test.YtgepekailoopeaaHelNil
import Derived.Test.YtgepekailoopeaaHelX
import Derived.Test.YtgepekailoopeaaInfP
import Derived.Test.YtgepekailoopeaaRefAns0
import Derived.Test.YtgepekailoopeaaView
namespace Go.Proofs.Ytgepekailoopeaa
open Go.RowKit
set_option linter.unusedVariables false
set_option linter.unusedSimpArgs false
abbrev longS : ByteArray := { data := #[97, 98, 99, 100, 101, 102, 103, 104, 105, 106, 107, 108, 109, 110, 111, 112, 113] }
abbrev bS : ByteArray := { data := #[98] }
abbrev kv1 : Vol := ⟨0, longS, 0, 0, false, 0⟩
abbrev kv2 : Vol := ⟨0, bS, 0, 0, false, 0⟩
abbrev kv3 : Vol := ⟨0, aStr, 0, 0, false, 0⟩
abbrev rd1 : List Int := [0, 0, 0, 1, 97, 0, 2, 0, 3]
abbrev rd5 : List Int := [255, 255, 255, 255, 97, 0, 0]
abbrev rd6 : List Int := [0, 0, 0, 1, 97, 0, 1, 0, 3, 0, 4]
abbrev rd7 : List Int := [0, 0, 0, 17] ++ List.replicate 19 0
abbrev gr1 : List Int := [78, 66, 68, 77, 65, 71, 73, 67, 120]
abbrev gr2 : List Int := [78, 66, 68, 77, 65, 71, 73, 88]
theorem kn1 : readW 7 rd1 = noWi 5 := by kernel_rfl
theorem kn2 : readW 2 [0] = noWi 5 := by kernel_rfl
theorem kn3 : readW 4 [] = noWi 6 := by kernel_rfl
theorem kn4 : readW 1 (List.replicate 17 0) = noWi 3 := by kernel_rfl
theorem kn5 : readW 6 rd5 = noWi 5 := by kernel_rfl
theorem kn6 : readW 7 rd6 = noWi 5 := by kernel_rfl
theorem kn7 : readW 6 rd7 = noWi 3 := by kernel_rfl
theorem kn8 : ansR 3 eStr [] [kv1, kv2] = [(3, 2, [0, 0, 0, 1, 98]), (3, 1, [])] := by kernel_rfl
theorem kn9 : ansR 6 bS [] [kv3] = [(6, 2147483654, [])] := by kernel_rfl
theorem kn10 : grN gr1 = 0 ∧ grE gr1 = 0 ∧ grF gr1 = 0 := by decide
theorem kn11 : grN gr2 = 0 ∧ grE gr2 = 33 ∧ grF gr2 = 0 := by decide
theorem kn12 : putE ⟨1, 1, 0, eStr, 0, 0, 0⟩ = 1 := by decide
theorem kn13 : putE ⟨2, 0, 0, eStr, 0, 0, 0⟩ = 6 := by decide
theorem kn14 : (writeR 7 eStr (List.replicate 125 0)).E = 0 := by kernel_rfl
theorem kn15 : (writeR 7 eStr (List.replicate 126 0)).E = 3 := by kernel_rfl
theorem mk_u16 (s : Nat) (hs : s ≤ 1048576) (w : World) : (Instr.makeSlice 53 (.int .i64 s) (.int .i64 s)).run Try.prog w = .ok (.slice (some ⟨w.heap.size, 0, none⟩) s s) (w.alloc (.cells (kv .u16 (List.replicate s 0)).toArray 71)) := by
  obtain ⟨i0, hi0, hz0, hz1, hz2⟩ := info_parts info_u16
  have h := run_makeSlice (P := Try.prog) w 53 71 i0 (.int .u16 0) Try.underlying53 hi0 hz0 .i64 .i64 s s (by omega) (by omega) (by rw [hz1]; simp; omega) (by rw [hz2]; omega) (by omega)
  rw [h, hz1]
  have e : madeCells (Value.int .u16 0).cells ((s : Int).toNat * 1) = (kv .u16 (List.replicate s 0)).toArray := by
    apply Array.toList_inj.1
    rw [show (Value.int .u16 0).cells = #[Value.int .u16 0] from rfl, toList_madeCells_one]
    simp [kv]
  rw [e, Int.toNat_natCast]
theorem kvOk (nm : ByteArray) (h : nm.size ≤ 100) : (⟨0, nm, 0, 0, false, 0⟩ : Vol).Ok := ⟨by show (0 : Int) ≤ 0 ∧ (0 : Int) < 18446744073709551616; decide, by show (0 : Int) ≤ 0 ∧ (0 : Int) < 18446744073709551616; decide, by show (0 : Int) ≤ 0 ∧ (0 : Int) < 18446744073709551616; decide, by show (0 : Int) ≤ 0 ∧ (0 : Int) < 18446744073709551616; decide, by show nm.size ≤ _; omega⟩

set_option maxHeartbeats 8000000 in
set_option maxRecDepth 100000 in
theorem helloKnown_walk (w : World) :
    Calls Try.prog 13 #[] w fun e w' => e = .returned (.bool true) ∧ Below w.heap.size w w' := by
  have HS := Sep.start w
  have hm17 : ∀ w, (Instr.makeSlice 23 (.int .i64 17) (.int .i64 17)).run Try.prog w = .ok (.slice (some ⟨w.heap.size, 0, none⟩) 17 17) (w.alloc (.cells (by8 (List.replicate 17 0)).toArray 5)) := mk_u8 17 (by decide)
  have hm125 : ∀ w, (Instr.makeSlice 53 (.int .i64 125) (.int .i64 125)).run Try.prog w = .ok (.slice (some ⟨w.heap.size, 0, none⟩) 125 125) (w.alloc (.cells (kv .u16 (List.replicate 125 0)).toArray 71)) := mk_u16 125 (by decide)
  have hm126 : ∀ w, (Instr.makeSlice 53 (.int .i64 126) (.int .i64 126)).run Try.prog w = .ok (.slice (some ⟨w.heap.size, 0, none⟩) 126 126) (w.alloc (.cells (kv .u16 (List.replicate 126 0)).toArray 71)) := mk_u16 126 (by decide)
  have HW17 : Aside (∀ {W : World} {L' : List Asr} {A : Option Addr} {c : Nat}, Sep w W (fun _ => False) L' → Rb w (fun _ => False) L' 1 A 17 (by8 (List.replicate 17 0)) → Calls Try.prog 46 #[.agg #[.int .u32 1, .slice A 17 c]] W (WiOut w (fun _ => False) 71 (noWi 3) L')) := ⟨by
    intro W L' A c H R
    rw [← kn4]
    exact read_calls H R (by intro x hx; rw [List.eq_of_mem_replicate hx]; decide) (by decide)⟩
  have HW125 : Aside (∀ {W : World} {L' : List Asr} {A : Option Addr} {c : Nat}, Sep w W (fun _ => False) L' → Rb w (fun _ => False) L' 1 A 125 (kv .u16 (List.replicate 125 0)) → Calls Try.prog 44 #[.agg #[.int .u32 7, .string eStr, .slice A 125 c]] W fun e w' => ∃ v : Int × Option Addr × Nat × Nat, e = .returned (.tuple #[.agg #[.int .u32 v.1, .slice v.2.1 v.2.2.1 v.2.2.2], .int .i64 0]) ∧ Sep w w' (fun _ => False) L') := ⟨by
    intro W L' A c H R
    refine (hwrite_calls H R (by intro x hx; rw [List.eq_of_mem_replicate hx]; decide) (by decide)).mono ?_
    rintro e w' ⟨A', c', rfl, _, H'⟩
    rw [kn14]
    exact ⟨(_, _, _, _), rfl, H'.drop⟩⟩
  have HW126 : Aside (∀ {W : World} {L' : List Asr} {A : Option Addr} {c : Nat}, Sep w W (fun _ => False) L' → Rb w (fun _ => False) L' 1 A 126 (kv .u16 (List.replicate 126 0)) → Calls Try.prog 44 #[.agg #[.int .u32 7, .string eStr, .slice A 126 c]] W fun e w' => ∃ v : Int × Option Addr × Nat × Nat, e = .returned (.tuple #[.agg #[.int .u32 v.1, .slice v.2.1 v.2.2.1 v.2.2.2], .int .i64 3]) ∧ Sep w w' (fun _ => False) L') := ⟨by
    intro W L' A c H R
    refine (hwrite_calls H R (by intro x hx; rw [List.eq_of_mem_replicate hx]; decide) (by decide)).mono ?_
    rintro e w' ⟨A', c', rfl, _, H'⟩
    rw [kn15]
    exact ⟨(_, _, _, _), rfl, H'.drop⟩⟩
  obtain ⟨z17, hz17⟩ : ∃ z : List Value, z = by8 (List.replicate 17 0) := ⟨_, rfl⟩
  obtain ⟨z125, hz125⟩ : ∃ z : List Value, z = kv .u16 (List.replicate 125 0) := ⟨_, rfl⟩
  obtain ⟨z126, hz126⟩ : ∃ z : List Value, z = kv .u16 (List.replicate 126 0) := ⟨_, rfl⟩
  have hl17 : Aside (z17.toArray.size = 17 * 1) := ⟨by rw [hz17]; rfl⟩
  have hl125 : Aside (z125.toArray.size = 125 * 1) := ⟨by rw [hz125]; rfl⟩
  have hl126 : Aside (z126.toArray.size = 126 * 1) := ⟨by rw [hz126]; rfl⟩
  rw [← hz17] at hm17 HW17
  rw [← hz125] at hm125 HW125
  rw [← hz126] at hm126 HW126
  clear hz17 hz125 hz126
  obtain ⟨i0, hi0, hz0, hz1, hz2⟩ := info_parts info_u8
  go_enter Try.func13, Try.ntmps13
  go_wp2_with fail
  refine (read_calls (op := 7) (d := rd1) (HS.lit #[.int .u8 0, .int .u8 0, .int .u8 0, .int .u8 1, .int .u8 97, .int .u8 0, .int .u8 2, .int .u8 0, .int .u8 3] 5 1 9 rfl (by decide)) Rb.i0 (by decide) (by decide)).mono ?_
  rintro e w1 ⟨A1, c1, he, HS1⟩
  rw [kn1] at he HS1
  subst he
  have HS1a : Sep w _ (fun _ => False) [] := (HS1.alloc #[.int .u32 0, .string eStr, .slice A1 0 c1] 66).sel 3 []
  have HL1 := HS1a.litB #[.int .u8 0] 5 1 1 rfl (by decide) (B := w1.heap.size + 1) (by simp)
  go_wp2_with fail
  refine (read_calls (op := 2) (d := [0]) HL1 Rb.i0 (by decide) (by decide)).mono ?_
  rintro e w2 ⟨A2, c2, he, HS2⟩
  rw [kn2] at he HS2
  subst he
  have HS2a : Sep w _ (fun _ => False) [] := (HS2.alloc #[.int .u32 0, .string eStr, .slice A2 0 c2] 66).sel 3 []
  clear HS1 HS1a HL1
  go_wp2_with fail
  refine (read_calls (op := 4) (d := []) HS2a Rb.nil (by decide) (by decide)).mono ?_
  rintro e w3 ⟨A3, c3, he, HS3⟩
  rw [kn3] at he HS3
  subst he
  have HS3a : Sep w _ (fun _ => False) [] := (HS3.alloc #[.int .u32 0, .string eStr, .slice A3 0 c3] 66).sel 2 []
  have HL3 : Sep w _ (fun _ => False) (own 5 1 (some ⟨w3.heap.size + 1, 0, none⟩) 17 17 z17 :: []) := HS3a.litB z17.toArray 5 1 17 hl17.out (by decide) (B := w3.heap.size + 1) (by simp)
  clear HS2 HS2a
  go_wp2_with fail
  refine (HW17.out HL3 Rb.i0).mono ?_
  rintro e w4 ⟨A4, c4, rfl, HS4⟩
  have HS4a : Sep w _ (fun _ => False) [] := (HS4.alloc #[.int .u32 0, .string eStr, .slice A4 0 c4] 66).sel 3 []
  have HL4 := HS4a.litB #[.int .u8 255, .int .u8 255, .int .u8 255, .int .u8 255, .int .u8 97, .int .u8 0, .int .u8 0] 5 1 7 rfl (by decide) (B := w4.heap.size + 1) (by simp)
  clear HS3 HS3a HL3
  go_wp2_with fail
  refine (read_calls (op := 6) (d := rd5) HL4 Rb.i0 (by decide) (by decide)).mono ?_
  rintro e w5 ⟨A5, c5, he, HS5⟩
  rw [kn5] at he HS5
  subst he
  have HS5a : Sep w _ (fun _ => False) [] := (HS5.alloc #[.int .u32 0, .string eStr, .slice A5 0 c5] 66).sel 3 []
  have HL5 := HS5a.litB #[.int .u8 0, .int .u8 0, .int .u8 0, .int .u8 1, .int .u8 97, .int .u8 0, .int .u8 1, .int .u8 0, .int .u8 3, .int .u8 0, .int .u8 4] 5 1 11 rfl (by decide) (B := w5.heap.size + 1) (by simp)
  clear HS4 HS4a HL4
  go_wp2_with fail
  refine (read_calls (op := 7) (d := rd6) HL5 Rb.i0 (by decide) (by decide)).mono ?_
  rintro e w6 ⟨A6, c6, he, HS6⟩
  rw [kn6] at he HS6
  subst he
  have HS6a : Sep w _ (fun _ => False) [] := HS6.sel 2 []
  have HL6 : Sep w _ (fun _ => False) (own 5 1 (some ⟨w6.heap.size, 0, none⟩) 4 4 (by8 [0, 0, 0, 17]) :: []) := HS6a.lit #[.int .u8 0, .int .u8 0, .int .u8 0, .int .u8 17] 5 1 4 rfl (by decide)
  clear HS5 HS5a HL5
  go_wp2_with (at_builtin; (refine wpList_append_zeros_sep rfl (.tmp 85) (.const (.int .i64 19)) 23 3 rfl 5 i0 .i64 .i64 Try.underlying23 Try.underlying3 hi0 hz0 hz1 hz2 rfl rfl HL6 (by decide) (by decide) (by decide) ?_; intro A7 c7 w7 HS7 hsz7))
  refine (read_calls (op := 6) (d := rd7) HS7 Rb.i0 (by decide) (by decide)).mono ?_
  rintro e w8 ⟨A8, c8, he, HS8⟩
  rw [kn7] at he HS8
  subst he
  have HS8a : Sep w w8 (fun _ => False) [] := HS8.sel 2 []
  have HL8 : Sep w _ (fun _ => False) (own 60 6 (some ⟨w8.heap.size, 0, none⟩) 2 2 (vrow [kv1, kv2]) :: []) := HS8a.lit #[.int .u64 0, .string longS, .int .u64 0, .int .u64 0, .bool false, .int .u64 0, .int .u64 0, .string bS, .int .u64 0, .int .u64 0, .bool false, .int .u64 0] 60 6 2 rfl (by decide)
  clear HS6 HS6a HL6 HS7 HS8
  go_wp2_with fail
  refine (answers_calls (op := 3) (wn := eStr) (inf := []) (vs := [kv1, kv2]) HL8 Rb.i0 rfl (by decide) (by intro v hv; rcases List.mem_cons.1 hv with rfl | hv; exact kvOk _ (by decide); obtain rfl := List.mem_singleton.1 hv; exact kvOk _ (by decide)) Rb.nil (by decide)).mono ?_
  rintro e w9 ⟨rs, A9, c9, hout, he, HS9⟩
  rw [kn8] at hout
  obtain ⟨r0, r1, rfl⟩ : ∃ r0 r1, rs = [r0, r1] := by
    rcases rs with _ | ⟨r0, _ | ⟨r1, _ | ⟨r2, rs⟩⟩⟩ <;> simp at hout ⊢
  obtain ⟨q1, k1, D1, e1, d1⟩ := r0
  obtain ⟨q2, k2, D2, e2, d2⟩ := r1
  simp only [List.map_cons, List.map_nil, Rp.out, List.cons.injEq, Prod.mk.injEq] at hout
  obtain ⟨⟨rfl, rfl, rfl⟩, ⟨rfl, rfl, rfl⟩, -⟩ := hout
  subst he
  have HS9d := HS9.up1.unstar
  replace HS9d : Sep w w9 (fun _ => False) (own 5 1 D1 5 e1 (by8 [0, 0, 0, 1, 98]) :: dataA 5 [⟨3, 1, D2, e2, []⟩] :: own 35 3 A9 2 c9 [.int .u32 3, .int .u32 2, .slice D1 5 e1, .int .u32 3, .int .u32 1, .slice D2 0 e2] :: _) := HS9d
  obtain ⟨g9, rfl⟩ := HS9d.up2.own_some (by decide)
  have t2 : w9.cell? ⟨g9, 2, none⟩ = some (.slice D1 5 e1) := (HS9d.up2.own_row.cellAt 2 (by decide)).trans rfl
  have hs : (convert 23 9 (.slice D1 5 e1)).run Try.prog w9 = .ok (.string { data := #[0, 0, 0, 1, 98] }) w9 := run_str (P := Try.prog) (c := e1) (Rb.i0.read HS9d) 23 9 5 Try.underlying23 Try.underlying5 Try.underlying9
  have HS9a : Sep w w9 (fun _ => False) [] := HS9.sel 3 []
  have HL9 : Sep w _ (fun _ => False) (own 60 6 (some ⟨w9.heap.size, 0, none⟩) 1 1 (vrow [kv3]) :: []) := HS9a.lit #[.int .u64 0, .string aStr, .int .u64 0, .int .u64 0, .bool false, .int .u64 0] 60 6 1 rfl (by decide)
  clear HS8a HL8 HS9 HS9d
  go_wp2_with fail
  refine (answers_calls (op := 6) (wn := bS) (inf := []) (vs := [kv3]) HL9 Rb.i0 rfl (by decide) (by intro v hv; obtain rfl := List.mem_singleton.1 hv; exact kvOk _ (by decide)) Rb.nil (by decide)).mono ?_
  rintro e w10 ⟨rs, A10, c10, hout, he, HS10⟩
  rw [kn9] at hout
  obtain ⟨r0, rfl⟩ : ∃ r0, rs = [r0] := by
    rcases rs with _ | ⟨r0, _ | ⟨r1, rs⟩⟩ <;> simp at hout ⊢
  obtain ⟨q3, k3, D3, e3, d3⟩ := r0
  simp only [List.map_cons, List.map_nil, Rp.out, List.cons.injEq, Prod.mk.injEq] at hout
  obtain ⟨⟨rfl, rfl, rfl⟩, -⟩ := hout
  subst he
  replace HS10 : Sep w w10 (fun _ => False) (own 35 3 A10 1 c10 [.int .u32 6, .int .u32 2147483654, .slice D3 0 e3] :: _) := HS10
  obtain ⟨g10, rfl⟩ := HS10.own_some (by decide)
  clear t2 hs
  have t1 : w10.cell? ⟨g10, 1, none⟩ = some (.int .u32 2147483654) := (HS10.own_row.cellAt 1 (by decide)).trans rfl
  have HS10a : Sep w w10 (fun _ => False) [] := HS10.sel 3 []
  clear HS9a HL9 HS10
  go_wp2_with fail
  have hf1 : ∀ w : World, (Instr.field 35 (.agg #[.int .u32 9, .int .u32 2147483657, .slice none 0 0]) 1).run Try.prog w = .ok (.int .u32 2147483657) w := fun _ => by kernel_rfl
  have hf2 : ∀ w : World, (Instr.field 35 (.agg #[.int .u32 9, .int .u32 2147483650, .slice none 0 0]) 1).run Try.prog w = .ok (.int .u32 2147483650) w := fun _ => by kernel_rfl
  refine (hrefuse_calls (op := 9) (e := 3) HS10a).mono ?_
  rintro e w11 ⟨rfl, HS11⟩
  rw [show refK 3 = 2147483657 from rfl]
  clear t1
  go_wp2_with fail
  refine (hrefuse_calls (op := 9) (e := 0) HS11).mono ?_
  rintro e w12 ⟨rfl, HS12⟩
  rw [show refK 0 = 2147483650 from rfl]
  go_wp2_with fail
  refine (hTake_nil HS12).mono ?_
  rintro e w13 ⟨rfl, HS13⟩
  have HS13a : Sep w _ (fun _ => False) [] := (HS13.alloc #[.int .u32 0, .slice none 0 0] 31).sel 1 []
  clear HS10a HS11 HS12
  go_wp2_with fail
  refine (greeted_nil HS13a).mono ?_
  rintro e w14 ⟨rfl, HS14⟩
  go_wp2_with fail
  refine (takeflags_nil HS14).mono ?_
  rintro e w15 ⟨rfl, HS15⟩
  have kc := const_bytes
  go_wp2_with fail
  refine (ltape_calls (l := gr1) (HS15.mark #[.int .u8 78, .int .u8 66, .int .u8 68, .int .u8 77, .int .u8 65, .int .u8 71, .int .u8 73, .int .u8 67, .int .u8 120] 5 (9, 10) 9 rfl rfl) Rb.r0 (by decide)).mono ?_
  rintro e w16 ⟨g16, rfl, HS16⟩
  clear HS13 HS13a HS14 HS15
  go_wp2_with fail
  refine (greeted_calls HS16 (by decide) (by decide)).mono ?_
  rintro e w17 ⟨he, HS17⟩
  rw [kn10.1, kn10.2.1, kn10.2.2, show decide ((0 : Int) < ((0 : Nat) : Int)) = false from by decide] at he
  rw [kn10.1, List.drop_zero] at HS17
  subst he
  go_wp2_with fail
  refine (ltape_calls (l := gr2) (HS17.mark #[.int .u8 78, .int .u8 66, .int .u8 68, .int .u8 77, .int .u8 65, .int .u8 71, .int .u8 73, .int .u8 88] 5 (8, 9) 8 rfl rfl) Rb.r0 (by decide)).mono ?_
  rintro e w18 ⟨g18, rfl, HS18⟩
  go_wp2_with fail
  refine (greeted_calls HS18 (by decide) (by decide)).mono ?_
  rintro e w19 ⟨he, HS19⟩
  rw [kn11.1, kn11.2.1, kn11.2.2, show decide ((0 : Int) < ((0 : Nat) : Int)) = false from by decide] at he
  rw [kn11.1, List.drop_zero] at HS19
  subst he
  have HS19a : Sep w w19 (fun _ => False) (Go.Proofs.Ytgepekailoopeaa.tape g18 gr2 :: Go.Proofs.Ytgepekailoopeaa.tape g16 gr1 :: []) := HS19.sel 4 [0, 2]
  clear HS16 HS17 HS18 HS19 kc
  have HP1 : Aside (∀ {W : World} {L' : List Asr}, Sep w W (fun _ => False) L' → Calls Try.prog 49 #[.agg #[.int .u16 1, .int .u64 1, .int .u16 0, .string eStr, .int .u32 0, .int .u32 0, .int .u32 0]] W fun e w' => ∃ v : Option Addr × Nat × Nat, e = .returned (.tuple #[.slice v.1 v.2.1 v.2.2, .int .i64 1]) ∧ Sep w w' (fun _ => False) L') := ⟨by
    intro W L' H
    refine (putinfo_calls (i := ⟨1, 1, 0, eStr, 0, 0, 0⟩) H ⟨by decide, by decide, by decide, by decide, by decide, by decide, by decide⟩).mono ?_
    rintro e w' ⟨A', c', rfl, H'⟩
    rw [kn12]
    exact ⟨(_, _, _), rfl, H'.drop⟩⟩
  have HP2 : Aside (∀ {W : World} {L' : List Asr}, Sep w W (fun _ => False) L' → Calls Try.prog 49 #[.agg #[.int .u16 2, .int .u64 0, .int .u16 0, .string eStr, .int .u32 0, .int .u32 0, .int .u32 0]] W fun e w' => ∃ v : Option Addr × Nat × Nat, e = .returned (.tuple #[.slice v.1 v.2.1 v.2.2, .int .i64 6]) ∧ Sep w w' (fun _ => False) L') := ⟨by
    intro W L' H
    refine (putinfo_calls (i := ⟨2, 0, 0, eStr, 0, 0, 0⟩) H ⟨by decide, by decide, by decide, by decide, by decide, by decide, by decide⟩).mono ?_
    rintro e w' ⟨A', c', rfl, H'⟩
    rw [kn13]
    exact ⟨(_, _, _), rfl, H'.drop⟩⟩
  go_wp2_with fail
  refine (HP1.out HS19a).mono ?_
  rintro e w20 ⟨⟨A20, n20, c20⟩, rfl, HS20⟩
  go_wp2_with fail
  refine (HP2.out HS20).mono ?_
  rintro e w21 ⟨⟨A21, n21, c21⟩, rfl, HS21⟩
  have HL21 : Sep w _ (fun _ => False) (own 71 1 (some ⟨w21.heap.size, 0, none⟩) 125 125 z125 :: Go.Proofs.Ytgepekailoopeaa.tape g18 gr2 :: Go.Proofs.Ytgepekailoopeaa.tape g16 gr1 :: []) := HS21.lit z125.toArray 71 1 125 hl125.out (by decide)
  go_wp2_with fail
  refine (HW125.out HL21 Rb.i0).mono ?_
  rintro e w22 ⟨⟨o22, A22, n22, c22⟩, rfl, HS22⟩
  have HS22a : Sep w _ (fun _ => False) (Go.Proofs.Ytgepekailoopeaa.tape g18 gr2 :: Go.Proofs.Ytgepekailoopeaa.tape g16 gr1 :: []) := (HS22.alloc #[.int .u32 o22, .slice A22 n22 c22] 31).sel 4 [2, 3]
  have HL22 : Sep w _ (fun _ => False) (own 71 1 (some ⟨w22.heap.size + 1, 0, none⟩) 126 126 z126 :: Go.Proofs.Ytgepekailoopeaa.tape g18 gr2 :: Go.Proofs.Ytgepekailoopeaa.tape g16 gr1 :: []) := HS22a.litB z126.toArray 71 1 126 hl126.out (by decide) (B := w22.heap.size + 1) (by simp)
  clear HS19a HS20 HS21 HL21 HS22 HS22a
  go_wp2_with fail
  refine (HW126.out HL22 Rb.i0).mono ?_
  rintro e w23 ⟨⟨o23, A23, n23, c23⟩, rfl, HS23⟩
  have HS23a : Sep w _ (fun _ => False) (Go.Proofs.Ytgepekailoopeaa.tape g18 gr2 :: Go.Proofs.Ytgepekailoopeaa.tape g16 gr1 :: []) := (HS23.alloc #[.int .u32 o23, .slice A23 n23 c23] 31).sel 4 [2, 3]
  clear HL22 HS23
  go_wp2_with fail
  refine (len_calls HS23a.up1).mono ?_
  rintro e w24 ⟨rfl, rfl⟩
  go_wp2_with fail
  refine (len_calls HS23a).mono ?_
  rintro e w25 ⟨rfl, rfl⟩
  go_wp2_with fail
  refine (wakes_calls HS23a).mono ?_
  rintro e w26 ⟨rfl, HS26⟩
  go_wp2
  go_ret
  exact ⟨rfl, HS26.below⟩
end Go.Proofs.Ytgepekailoopeaa
