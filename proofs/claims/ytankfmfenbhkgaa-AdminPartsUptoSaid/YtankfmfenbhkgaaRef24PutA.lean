/-
  Contract of cisternref24.PutAnswer.
-/
import Derived.Test.YtankfmfenbhkgaaRef24A
import Derived.Test.YtankfmfenbhkgaaAppRo
import Derived.Test.YtankfmfenbhkgaaAdmPutA
import Derived.Deep.DeepCutAuto
namespace Go.Proofs.Ytankfmfenbhkgaa
open Go.RowKit
set_option linter.unusedVariables false
set_option linter.unusedSimpArgs false
section
variable {w0 w : World} {O : Nat → Prop} {L : List Asr}

theorem rnumapp_ro {ad : Addr} {n s : Nat} {l : List Int} {x : Int} (HS : Sep w0 w O L) (hr : Rb w0 O L 1 (some ad) n (by8 l)) (h0 : 0 < n) (hn : n ≤ 1000) (h1 : 1 ≤ s) (h8 : s ≤ 8) (x0 : 0 ≤ x) (x1 : x < 18446744073709551616) :
    Calls Try.prog 27 #[.slice (some ad) n n, .int .u64 x, .int .i64 s] w fun e w' => ∃ A' c', e = .returned (.slice A' (n + s) c') ∧ Sep w0 w' O (own 5 1 A' (n + s) c' (by8 (l ++ be s x)) :: L) := by
  obtain ⟨i0, hi0, hz0, hz1, hz2⟩ := info_parts info_u8
  have hlen := hr.klen HS
  go_enter Try.func27, Try.ntmps27
  go_wp2_with fail
  refine (rbytes_calls HS h1 (by omega) x0 x1).mono ?_
  rintro e w1 ⟨B, cb, rfl, HB⟩
  obtain ⟨adb, hab, _, hcb⟩ := (hr.cons.read HB).2 h0
  obtain ⟨adn, rfl, _, hcn⟩ := (HB.rd0).2 (by omega)
  injection hab with hab
  subst hab
  have hxl : (by8 l).length = n := by rw [by8_len, hlen]
  have hsl : (by8 (be s x)).length = s := by rw [by8_len, be_len]
  have hp : n + s ≤ 1000000 := by omega
  have hs0 : 0 < s := by omega
  go_wp2_with (at_builtin; go_loud (refine wpList_append_ro rfl (.tmp 7) (.tmp 10) 25 rfl 5 i0 _ Try.underlying25 hi0 hz0 hz1 hz2 rfl HB rfl hxl hcb rfl hsl hcn hs0 hp ?_); intro A1 c1 w2 HC hsz)
  go_ret
  rw [by8_append] at HC
  exact ⟨A1, c1, rfl, HC.up1.drop⟩

abbrev ransV (ck er id : Int) (A : Option Addr) (n c : Nat) : Value := .agg #[.int .u64 ck, .int .u32 er, .int .u64 id, .slice A n c]

set_option maxHeartbeats 1000000 in
theorem rputansA_long {ck er id : Int} {A : Option Addr} {n c : Nat} (HS : Sep w0 w O L) (h : 16 < n) :
    Calls Try.prog 17 #[ransV ck er id A n c] w fun e w' => e = .returned (.tuple #[.slice none 0 0, .int .i64 3]) ∧ Sep w0 w' O L := by
  have HSb := HS.alloc #[.int .u64 ck, .int .u32 er, .int .u64 id, .slice A n c] 43
  have i1 : (16 : Int) < n := by omega
  clear h
  go_enter Try.func17, Try.ntmps17
  go_wp2
  go_ret2
  exact ⟨rfl, HSb.drop⟩

set_option maxHeartbeats 4000000 in
set_option maxRecDepth 100000 in
theorem rputansA_calls {ck er id : Int} {A : Option Addr} {n c : Nat} {vs : List Vol} (HS : Sep w0 w O L) (hr : Rb w0 O L 6 A n (vrow vs)) (hn : vs.length = n) (hv : ∀ v ∈ vs, v.Ok) (h16 : n ≤ 16) (c0 : 0 ≤ ck) (c1 : ck < 18446744073709551616) (e0 : 0 ≤ er) (e1 : er < 4294967296) (d0 : 0 ≤ id) (d1 : id < 18446744073709551616) :
    Calls Try.prog 17 #[ransV ck er id A n c] w fun e w' => ((∀ v ∈ vs, v.nm.size ≤ 16) → ∃ A' c', e = .returned (.tuple #[.slice A' (ansBytes ck er id vs).length c', .int .i64 0]) ∧ Sep w0 w' O (own 5 1 A' (ansBytes ck er id vs).length c' (by8 (ansBytes ck er id vs)) :: L)) ∧ ((¬ ∀ v ∈ vs, v.nm.size ≤ 16) → e = .returned (.tuple #[.slice none 0 0, .int .i64 3]) ∧ Sep w0 w' O L) := by
  obtain ⟨i0, hi0, hz0, hz1, hz2⟩ := info_parts info_u8
  have kc2 := const_bytes2
  have s1 : IntKind.u64.wrap er = er := by rw [IntKind.wrap_u64]; omega
  have s2 : IntKind.u8.wrap (n : Int) = n := by rw [IntKind.wrap_u8]; omega
  have HSb := HS.alloc #[.int .u64 ck, .int .u32 er, .int .u64 id, .slice A n c] 43
  have HM := HSb.mark #[.int .u8 67, .int .u8 73, .int .u8 83, .int .u8 65] 5 (4, 5) 4 rfl (B := w.heap.size + 1) (by simp)
  have hrm : Rb w0 O _ 1 _ 4 (by8 [67, 73, 83, 65]) := Rb.r0 (w0 := w0) (O := O) (L := blk w.heap.size 43 #[.int .u64 ck, .int .u32 er, .int .u64 id, .slice A n c] :: L) (size := 1) (n := 4) (A := some ⟨w.heap.size + 1, 0, none⟩) (xs := by8 [67, 73, 83, 65])
  have HN := hid hn
  have HV := hid hv
  have hHD : nput (ansHead ck er id n) = [67, 73, 83, 65] ++ be 4 er ++ be 8 ck ++ be 8 id ++ [(n : Int)] := by
    have e1' : be 1 (n : Int) = [(n : Int)] := by show [(n : Int) % 256] = [(n : Int)]; rw [Int.emod_eq_of_lt (by omega) (by omega)]
    simp only [nput, ansHead, List.flatMap_cons, List.flatMap_nil, List.append_nil, e1', show be 4 1128878913 = [67, 73, 83, 65] from by decide, List.append_assoc]
  have HP : Aside (ansBytes ck er id vs = nput (ansHead ck er id n) ++ vsbytes vs) := ⟨by unfold ansBytes; rw [hn]⟩
  have HRL : Aside ((nput (ansHead ck er id n)).length = 25) := ⟨by simp [nput, ansHead, be_len]⟩
  have i16 : ¬ 16 < (n : Int) := by omega
  obtain ⟨hd, hhd⟩ : ∃ hd, hd = nput (ansHead ck er id n) := ⟨_, rfl⟩
  rw [← hhd] at HP HRL hHD
  have HHD := hid hHD
  obtain ⟨Q, hQ⟩ : ∃ Q : Ending → World → Prop, Q = fun e w' => ((∀ v ∈ vs, v.nm.size ≤ 16) → ∃ A' c', e = .returned (.tuple #[.slice A' (ansBytes ck er id vs).length c', .int .i64 0]) ∧ Sep w0 w' O (own 5 1 A' (ansBytes ck er id vs).length c' (by8 (ansBytes ck er id vs)) :: L)) ∧ ((¬ ∀ v ∈ vs, v.nm.size ≤ 16) → e = .returned (.tuple #[.slice none 0 0, .int .i64 3]) ∧ Sep w0 w' O L) := ⟨_, rfl⟩
  have HQ := hid hQ
  rw [← hQ]
  clear hn hv hQ hhd hHD h16
  go_enter Try.func17, Try.ntmps17
  go_wp2_with fail
  refine (rnumapp_ro (s := 4) HM hrm (by decide) (by decide) (by decide) (by decide) e0 (by omega)).mono ?_
  rintro e w1 ⟨A1, c1', rfl, HS1⟩
  have k0 := HS1.up2.blk_at 0 rfl
  go_wp2_with fail
  refine (rnumapp_calls (s := 8) HS1 (by decide) (by decide) (by decide) c0 c1).mono ?_
  rintro e w2 ⟨A2, c2', rfl, HS2⟩
  clear k0
  have k0 := HS2.up2.blk_at 2 rfl
  go_wp2_with fail
  refine (rnumapp_calls (s := 8) HS2 (by decide) (by decide) (by decide) d0 d1).mono ?_
  rintro e w3 ⟨A3, c3', rfl, HS3⟩
  clear k0
  have k3 := HS3.up2.blk_at 3 rfl
  have HB := (HS3.lit #[.int .u8 n] 5 1 1 rfl (by decide)).up1
  have hrd : Rd _ _ 1 _ 1 (by8 [(n : Int)]) := HB.rd1
  go_upto_region 7 with (at_builtin; go_loud (refine wpList_append_sep rfl (.tmp 25) (.tmp 30) 25 rfl 5 i0 _ 1 1 Try.underlying25 hi0 hz0 hz1 hz2 rfl (by decide) rfl HB rfl hrd (kv_one _ _) (by simp only [maxLen]; omega) (by omega) rfl (by8_append _ _) ?_); intro A4 c4 w4 HC hsz)
  have HS4 := HC.sel 4 [0, 3]
  replace HS4 : Sep w0 w4 O (own 5 1 A4 25 c4 (by8 ([67, 73, 83, 65] ++ be 4 er ++ be 8 ck ++ be 8 id ++ [(n : Int)])) :: blk w.heap.size 43 #[.int .u64 ck, .int .u32 er, .int .u64 id, .slice A n c] :: L) := HS4
  rw [← HHD.out] at HS4
  clear HC HB hrd k3 HS1 HS2 HS3 HM hrm HSb HS
  go_wp2_with fail
  go_loopw [4, 5] (fun b i wr => ∃ (k c' : Nat) (B : Option Addr), k ≤ n ∧ i = .int .i64 k ∧ b = .slice B (25 + (vsbytes (vs.take k)).length) c' ∧ Aside (∀ v ∈ vs.take k, v.nm.size ≤ 16) ∧ (vsbytes (vs.take k)).length ≤ 42 * k ∧
    Sep w0 wr O (own 5 1 B (25 + (vsbytes (vs.take k)).length) c' (by8 (hd ++ vsbytes (vs.take k))) :: blk w.heap.size 43 #[.int .u64 ck, .int .u32 er, .int .u64 id, .slice A n c] :: L)) (fun _ i _ => n - (intOf i).toNat)
  case atStart => exact ⟨0, c4, A4, Nat.zero_le _, rfl, by simp [vsbytes], ⟨by simp⟩, by simp [vsbytes], by simpa [vsbytes] using HS4⟩
  case round =>
    obtain ⟨k, c', B, hk, rfl, rfl, hsm, hbd, HS3⟩ := hrel
    clear HS4
    have k3 := HS3.up1.blk_at 3 rfl
    by_cases hlt : k < n
    · obtain ⟨ad, v, rfl, hvk, x0, x1, x2, x3, x4, x5⟩ := hr.cons.cons.volAt HS3 hlt
      have hmem : v ∈ vs := List.mem_of_getElem? hvk
      obtain ⟨⟨v0, v0'⟩, ⟨v1, v1'⟩, ⟨v2, v2'⟩, ⟨v3, v3'⟩, v4⟩ := HV.out v hmem
      have hj : (k : Int) < n := by omega
      have j0 : (0 : Int) ≤ k := by omega
      have HSU := hid (vsbytes_succ hvk)
      have HBL := hid (vbytes_len v)
      have hb : 0 ≤ bitV v.fixed ∧ bitV v.fixed < 256 := by cases v.fixed <;> decide
      generalize hm : (vsbytes (vs.take k)).length = m at *
      have HM := hid hm
      clear hm
      have HS4 := HS3.alloc #[.int .u64 v.id, .string v.nm, .int .u64 v.size, .int .u64 v.root, .bool v.fixed, .int .u64 v.orig] 48
      by_cases h16 : 16 < v.nm.size
      · have h16' : 16 < (v.nm.size : Int) := by omega
        have HBAD : Aside (¬ ∀ v ∈ vs, v.nm.size ≤ 16) := ⟨fun h => by have := h v hmem; omega⟩
        clear h16
        go_wp2
        rw [HQ.out]
        exact ⟨fun h => absurd h HBAD.out, fun _ => ⟨rfl, HS4.drop.drop.drop⟩⟩
      · have h16' : ¬ 16 < (v.nm.size : Int) := by omega
        have h16n : v.nm.size ≤ 16 := by omega
        clear h16
        have HVB : Aside (vbytes v = be 8 v.id ++ be 8 v.size ++ be 8 v.orig ++ [bitV v.fixed] ++ [(v.nm.size : Int)] ++ strInts v.nm) := ⟨by
          have e1' : ∀ x : Int, 0 ≤ x → x < 256 → be 1 x = [x] := fun x h0 h1 => by
            show [x % 256] = [x]
            rw [Int.emod_eq_of_lt h0 h1]
          simp only [vbytes, nput, List.flatMap_cons, List.flatMap_nil, List.append_nil, e1' _ hb.1 hb.2, e1' (v.nm.size : Int) (by omega) (by omega), List.append_assoc]⟩
        obtain ⟨vid, hvid⟩ : ∃ x, x = v.id := ⟨_, rfl⟩
        obtain ⟨vnm, hvnm⟩ : ∃ x, x = v.nm := ⟨_, rfl⟩
        obtain ⟨vsz, hvsz⟩ : ∃ x, x = v.size := ⟨_, rfl⟩
        obtain ⟨vrt, hvrt⟩ : ∃ x, x = v.root := ⟨_, rfl⟩
        obtain ⟨vfx, hvfx⟩ : ∃ x, x = v.fixed := ⟨_, rfl⟩
        obtain ⟨vor, hvor⟩ : ∃ x, x = v.orig := ⟨_, rfl⟩
        have HNM := hid hvnm
        rw [← hvid] at x0 v0 v0' HS4 HVB
        rw [← hvnm] at x1 v4 HS4 h16' h16n HBL HVB
        rw [← hvsz] at x2 v1 v1' HS4 HVB
        rw [← hvrt] at x3 HS4
        rw [← hvfx] at x4 HS4 HVB hb
        rw [← hvor] at x5 v3 v3' HS4 HVB
        clear hvid hvnm hvsz hvrt hvfx hvor
        have s3 : IntKind.u8.wrap (vnm.size : Int) = vnm.size := by rw [IntKind.wrap_u8]; omega
        generalize hhb : hd ++ vsbytes (vs.take k) = hb0 at *
        have HHB := hid hhb
        clear hhb
        have hp1 : 25 + m ≤ 1000000 := by omega
        go_wp2_with fail
        refine (rnumapp_calls (s := 8) HS4.up1 hp1 (by decide) (by decide) v0 v0').mono ?_
        rintro e w5 ⟨B5, c5, rfl, HS5⟩
        have r2 := HS5.up1.blk_at 2 rfl
        clear HS4 x0 x1 x2 x3 x4 x5
        go_wp2_with fail
        refine (rnumapp_calls (s := 8) HS5 (by omega) (by decide) (by decide) v1 v1').mono ?_
        rintro e w6 ⟨B6, c6, rfl, HS6⟩
        clear r2 HS5
        have r5 := HS6.up1.blk_at 5 rfl
        go_wp2_with fail
        refine (rnumapp_calls (s := 8) HS6 (by omega) (by decide) (by decide) v3 v3').mono ?_
        rintro e w7 ⟨B7, c7, rfl, HS7⟩
        clear r5 HS6
        have r4 := HS7.up1.blk_at 4 rfl
        go_wp2_with fail
        refine (rflag_calls (b := vfx) HS7 (by omega)).mono ?_
        rintro e w8 ⟨B8, c8, rfl, HS8⟩
        clear r4 HS7
        have r1 := HS8.up1.blk_at 1 rfl
        have HB := (HS8.lit #[.int .u8 vnm.size] 5 1 1 rfl (by decide)).up1
        have hrd : Rd _ _ 1 _ 1 (by8 [(vnm.size : Int)]) := HB.rd1
        go_upto_region 18 with (at_builtin; go_loud (refine wpList_append_sep rfl (.tmp 64) (.tmp 69) 25 rfl 5 i0 _ 1 1 Try.underlying25 hi0 hz0 hz1 hz2 rfl (by decide) rfl HB rfl hrd (kv_one _ _) (by simp only [maxLen]; omega) (by omega) rfl (by8_append _ _) ?_); intro B9 c9 w9 HC hsz)
        have HS9 := HC.sel 4 [0, 2, 3]
        replace HS9 : Sep w0 w9 O (own 5 1 B9 (25 + m + 8 + 8 + 8 + 1 + 1) c9 (by8 (hb0 ++ be 8 vid ++ be 8 vsz ++ be 8 vor ++ [bitV vfx] ++ [(vnm.size : Int)])) :: blk wr.heap.size 48 #[.int .u64 vid, .string vnm, .int .u64 vsz, .int .u64 vrt, .bool vfx, .int .u64 vor] :: blk w.heap.size 43 #[.int .u64 ck, .int .u32 er, .int .u64 id, .slice (some ad) n c] :: L) := HS9
        clear HC HB hrd HS8 r1
        have r1 := HS9.up1.blk_at 1 rfl
        have q1 : 25 + m + 8 + 8 + 8 + 1 + 1 + vnm.size ≤ maxLen := by simp only [maxLen]; omega
        have q2 : 25 + m + 8 + 8 + 8 + 1 + 1 + vnm.size ≤ 140737488355328 := by omega
        go_wp2_with (at_builtin; go_loud (refine wpList_append_sep_str rfl (.tmp 71) (.tmp 73) 25 9 rfl 5 i0 Try.underlying25 Try.underlying9 hi0 hz0 hz1 hz2 rfl HS9 rfl q1 q2 rfl rfl ?_); intro B10 c10 w10 HS10 hsz10)
        go_roundw
        case rel =>
          have e8 : 25 + (vsbytes (vs.take (k + 1))).length = 25 + m + 8 + 8 + 8 + 1 + 1 + vnm.size := by rw [HSU.out, List.length_append, HM.out, HBL.out]; omega
          refine ⟨k + 1, c10, B10, by omega, by go_num, by rw [e8], ⟨?_⟩, by rw [HSU.out, List.length_append, HM.out, HBL.out]; omega, ?_⟩
          · intro u hu
            rw [List.take_add_one, hvk] at hu
            rcases List.mem_append.1 hu with hu | hu
            · exact hsm.out u hu
            · simp at hu; subst hu; rw [← HNM.out]; exact h16n
          · rw [e8, HSU.out, HVB.out]
            have e9 : by8 (hd ++ (vsbytes (vs.take k) ++ (be 8 vid ++ be 8 vsz ++ be 8 vor ++ [bitV vfx] ++ [(vnm.size : Int)] ++ strInts vnm))) = by8 (hb0 ++ be 8 vid ++ be 8 vsz ++ be 8 vor ++ [bitV vfx] ++ [(vnm.size : Int)]) ++ Lib.strCells vnm := by
              rw [strInts_cells, by8_append, ← HHB.out]
              simp only [List.append_assoc]
            rw [e9]
            exact HS10.up1.drop
        case measure => simp [intOf]; omega
    · obtain rfl : n = k := by omega
      have htk : vs.take n = vs := by rw [← HN.out, List.take_length]
      rw [htk] at hsm HS3 ⊢
      have hln : (ansBytes ck er id vs).length = 25 + (vsbytes vs).length := by rw [HP.out, List.length_append, HRL.out]
      have hj : ¬ (n : Int) < n := by omega
      have HLN := hid hln
      clear hln
      go_wp2
      rw [HQ.out]
      exact ⟨fun _ => ⟨B, c', by rw [HLN.out], by rw [HLN.out, HP.out]; exact HS3.up1.drop⟩, fun h => absurd hsm.out h⟩
end
end Go.Proofs.Ytankfmfenbhkgaa
