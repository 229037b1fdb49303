/-
  Contract of admin.PutAnswer.
-/
import Derived.Test.YtankfmfenbhkgaaVols
import Derived.Test.YtankfmfenbhkgaaAdmAns0
import Derived.Deep.DeepCutAuto
namespace Go.Proofs.Ytankfmfenbhkgaa
open Go.RowKit
set_option linter.unusedVariables false
set_option linter.unusedSimpArgs false
section
variable {w0 w : World} {O : Nat → Prop} {L : List Asr}

abbrev ansV (ck er id : Int) (A : Option Addr) (n c : Nat) : Value := .agg #[.int .u64 ck, .int .u32 er, .int .u64 id, .slice A n c]
def ansErr (vs : List Vol) : Int := if vs.length ≤ 16 ∧ ∀ v ∈ vs, v.nm.size ≤ 16 then 0 else 3
def ansBytes (ck er id : Int) (vs : List Vol) : List Int := nput (ansHead ck er id vs.length) ++ vsbytes vs

set_option maxHeartbeats 1000000 in
theorem putansA_long {ck er id : Int} {A : Option Addr} {n c : Nat} (HS : Sep w0 w O L) (h : 16 < n) :
    Calls Try.prog 16 #[ansV ck er id A n c] w fun e w' => e = .returned (.tuple #[.slice none 0 0, .int .i64 3]) ∧ Sep w0 w' O L := by
  have HSb := HS.alloc #[.int .u64 ck, .int .u32 er, .int .u64 id, .slice A n c] 45
  have i1 : (16 : Int) < n := by omega
  clear h
  go_enter Try.func16, Try.ntmps16
  go_wp2
  go_ret2
  exact ⟨rfl, HSb.drop⟩

set_option maxHeartbeats 4000000 in
set_option maxRecDepth 100000 in
theorem putansA_calls {ck er id : Int} {A : Option Addr} {n c : Nat} {vs : List Vol} (HS : Sep w0 w O L) (hr : Rb w0 O L 6 A n (vrow vs)) (hn : vs.length = n) (hv : ∀ v ∈ vs, v.Ok) (h16 : n ≤ 16) (c0 : 0 ≤ ck) (c1 : ck < 18446744073709551616) (e0 : 0 ≤ er) (e1 : er < 4294967296) (d0 : 0 ≤ id) (d1 : id < 18446744073709551616) :
    Calls Try.prog 16 #[ansV ck er id A n c] w fun e w' => ((∀ v ∈ vs, v.nm.size ≤ 16) → ∃ A' c', e = .returned (.tuple #[.slice A' (ansBytes ck er id vs).length c', .int .i64 0]) ∧ Sep w0 w' O (own 5 1 A' (ansBytes ck er id vs).length c' (by8 (ansBytes ck er id vs)) :: L)) ∧ ((¬ ∀ v ∈ vs, v.nm.size ≤ 16) → e = .returned (.tuple #[.slice none 0 0, .int .i64 3]) ∧ Sep w0 w' O L) := by
  obtain ⟨i0, hi0, hz0, hz1, hz2⟩ := info_parts info_u8
  have s1 : IntKind.u64.wrap er = er := by rw [IntKind.wrap_u64]; omega
  have s2 : IntKind.u64.wrap (n : Int) = n := by rw [IntKind.wrap_u64]; omega
  have HSb := HS.alloc #[.int .u64 ck, .int .u32 er, .int .u64 id, .slice A n c] 45
  have HA : Sep w0 ((w.alloc (.cells #[.int .u64 ck, .int .u32 er, .int .u64 id, .slice A n c] 45)).alloc (.cells #[.int .u64 1128878913, .int .i64 4, .int .u64 er, .int .i64 4, .int .u64 ck, .int .i64 8, .int .u64 id, .int .i64 8, .int .u64 n, .int .i64 1] 65)) O (own 5 1 none 0 0 (by8 []) :: own 65 2 (some ⟨w.heap.size + 1, 0, none⟩) 5 5 (nrow (ansHead ck er id n)) :: blk w.heap.size 45 #[.int .u64 ck, .int .u32 er, .int .u64 id, .slice A n c] :: L) := (HSb.litB #[.int .u64 1128878913, .int .i64 4, .int .u64 er, .int .i64 4, .int .u64 ck, .int .i64 8, .int .u64 id, .int .i64 8, .int .u64 n, .int .i64 1] 65 2 5 rfl (by decide) (by simp)).nil _ _
  have hrr : ∀ p ∈ ansHead ck er id n, 0 ≤ p.1 ∧ p.1 < 18446744073709551616 ∧ 1 ≤ p.2 ∧ p.2 ≤ 8 := by
    intro p hp
    simp only [ansHead, List.mem_cons, List.not_mem_nil, or_false] at hp
    rcases hp with rfl | rfl | rfl | rfl | rfl <;> dsimp only <;> omega
  have HR := hid hrr
  have hRl : (nput (ansHead ck er id n)).length = 25 := by simp [nput, ansHead, be_len]
  have HRL := hid hRl
  have HN := hid hn
  have HV := hid hv
  have HP : Aside (ansBytes ck er id vs = nput (ansHead ck er id n) ++ vsbytes vs) := ⟨by unfold ansBytes; rw [hn]⟩
  have i16 : ¬ 16 < (n : Int) := by omega
  generalize hhd : nput (ansHead ck er id n) = hd at *
  obtain ⟨Q, hQ⟩ : ∃ Q : Ending → World → Prop, Q = fun e w' => ((∀ v ∈ vs, v.nm.size ≤ 16) → ∃ A' c', e = .returned (.tuple #[.slice A' (ansBytes ck er id vs).length c', .int .i64 0]) ∧ Sep w0 w' O (own 5 1 A' (ansBytes ck er id vs).length c' (by8 (ansBytes ck er id vs)) :: L)) ∧ ((¬ ∀ v ∈ vs, v.nm.size ≤ 16) → e = .returned (.tuple #[.slice none 0 0, .int .i64 3]) ∧ Sep w0 w' O L) := ⟨_, rfl⟩
  have HQ := hid hQ
  rw [← hQ]
  have HHD := hid hhd
  clear hrr hRl hn hv hQ hhd h16
  go_enter Try.func16, Try.ntmps16
  go_wp2_with fail
  refine (adput_calls (r := ansHead ck er id n) HA HR.out (by decide) (by simp [ansHead])).mono ?_
  rintro e w2 ⟨B2, c2, rfl, HS2⟩
  rw [HHD.out, Nat.zero_add, HRL.out, List.nil_append] at HS2
  rw [HHD.out, HRL.out]
  have k3 := HS2.up1.blk_at 3 rfl
  go_wp2_with fail
  go_loopw [4, 32] (fun b i wr => ∃ (k c' : Nat) (B : Option Addr), k ≤ n ∧ i = .int .i64 k ∧ b = .slice B (25 + (vsbytes (vs.take k)).length) c' ∧ Aside (∀ v ∈ vs.take k, v.nm.size ≤ 16) ∧ (vsbytes (vs.take k)).length ≤ 42 * k ∧
    Sep w0 wr O (own 5 1 B (25 + (vsbytes (vs.take k)).length) c' (by8 (hd ++ vsbytes (vs.take k))) :: L)) (fun _ i _ => n - (intOf i).toNat)
  case atStart => exact ⟨0, c2, B2, Nat.zero_le _, rfl, by simp [vsbytes], ⟨by simp⟩, by simp [vsbytes], by simpa [vsbytes] using HS2.up1.drop⟩
  case round =>
    obtain ⟨k, c', B, hk, rfl, rfl, hsm, hbd, HS3⟩ := hrel
    clear HS2 k3 HA HSb HS
    by_cases hlt : k < n
    · obtain ⟨ad, v, rfl, hvk, x0, x1, x2, x3, x4, x5⟩ := hr.cons.volAt HS3 hlt
      have hmem : v ∈ vs := List.mem_of_getElem? hvk
      obtain ⟨⟨v0, v0'⟩, ⟨v1, v1'⟩, ⟨v2, v2'⟩, ⟨v3, v3'⟩, v4⟩ := HV.out v hmem
      have hj : (k : Int) < n := by omega
      have j0 : (0 : Int) ≤ k := by omega
      have HS4 := HS3.alloc #[.int .u64 v.id, .string v.nm, .int .u64 v.size, .int .u64 v.root, .bool v.fixed, .int .u64 v.orig] 48
      have HSU := hid (vsbytes_succ hvk)
      have HBL := hid (vbytes_len v)
      have HVB : Aside (vbytes v = nput [(v.id, 8), (v.size, 8), (v.orig, 8), (bitV v.fixed, 1), ((v.nm.size : Int), 1)] ++ strInts v.nm) := ⟨rfl⟩
      generalize hm : (vsbytes (vs.take k)).length = m at *
      have HM := hid hm
      clear hm
      by_cases h16 : 16 < v.nm.size
      · have h16' : 16 < (v.nm.size : Int) := by omega
        have HBAD : Aside (¬ ∀ v ∈ vs, v.nm.size ≤ 16) := ⟨fun h => by have := h v hmem; omega⟩
        clear h16
        go_wp2
        rw [HQ.out]
        exact ⟨fun h => absurd h HBAD.out, fun _ => ⟨rfl, HS4.drop.drop⟩⟩
      · have h16' : ¬ 16 < (v.nm.size : Int) := by omega
        have h16n : v.nm.size ≤ 16 := by omega
        clear h16
        obtain ⟨vid, hvid⟩ : ∃ x, x = v.id := ⟨_, rfl⟩
        obtain ⟨vnm, hvnm⟩ : ∃ x, x = v.nm := ⟨_, rfl⟩
        obtain ⟨vsz, hvsz⟩ : ∃ x, x = v.size := ⟨_, rfl⟩
        obtain ⟨vrt, hvrt⟩ : ∃ x, x = v.root := ⟨_, rfl⟩
        obtain ⟨vfx, hvfx⟩ : ∃ x, x = v.fixed := ⟨_, rfl⟩
        obtain ⟨vor, hvor⟩ : ∃ x, x = v.orig := ⟨_, rfl⟩
        have HNM := hid hvnm
        rw [← hvid] at x0 v0 v0' HS4 HVB
        rw [← hvnm] at x1 v4 HS4 h16' h16n HBL HVB
        rw [← hvsz] at x2 v1 v1' HS4 HVB
        rw [← hvrt] at x3 HS4
        rw [← hvfx] at x4 HS4 HVB
        rw [← hvor] at x5 v3 v3' HS4 HVB
        clear hvid hvnm hvsz hvrt hvfx hvor
        have hb : 0 ≤ bitV vfx ∧ bitV vfx < 256 := by cases vfx <;> decide
        have s3 : IntKind.u64.wrap (vnm.size : Int) = vnm.size := by rw [IntKind.wrap_u64]; omega
        have HA := (HS4.litB #[.int .u64 vid, .int .i64 8, .int .u64 vsz, .int .i64 8, .int .u64 vor, .int .i64 8, .int .u64 (bitV vfx), .int .i64 1, .int .u64 vnm.size, .int .i64 1] 65 2 5 rfl (by decide) (B := wr.heap.size + 1) (by simp)).up2
        have hr2 : ∀ p ∈ ([(vid, 8), (vsz, 8), (vor, 8), (bitV vfx, 1), ((vnm.size : Int), 1)] : List (Int × Nat)), 0 ≤ p.1 ∧ p.1 < 18446744073709551616 ∧ 1 ≤ p.2 ∧ p.2 ≤ 8 := by
          intro p hp
          simp only [List.mem_cons, List.not_mem_nil, or_false] at hp
          rcases hp with rfl | rfl | rfl | rfl | rfl <;> dsimp only <;> omega
        have hR2l : (nput [(vid, 8), (vsz, 8), (vor, 8), (bitV vfx, 1), ((vnm.size : Int), 1)]).length = 26 := by simp [nput, be_len]
        have HR2 := hid hr2
        have HR2L := hid hR2l
        have hp1 : 25 + m ≤ 1000000 := by omega
        have q1 : 25 + m + 26 + vnm.size ≤ maxLen := by simp only [maxLen]; omega
        have q2 : 25 + m + 26 + vnm.size ≤ 140737488355328 := by omega
        generalize hnp : nput [(vid, 8), (vsz, 8), (vor, 8), (bitV vfx, 1), ((vnm.size : Int), 1)] = np at *
        have HNP := hid hnp
        have HPUT : ∀ {w' : World} {L' : List Asr}, Sep w0 w' O (own 5 1 B (25 + m) c' (by8 (hd ++ vsbytes (vs.take k))) :: own 65 2 (some ⟨wr.heap.size + 1, 0, none⟩) 5 5 (nrow [(vid, 8), (vsz, 8), (vor, 8), (bitV vfx, 1), ((vnm.size : Int), 1)]) :: L') →
            Calls Try.prog 24 #[.slice B (25 + m) c', .slice (some ⟨wr.heap.size + 1, 0, none⟩) 5 5] w' fun e w2 => ∃ B' c2, e = .returned (.slice B' (25 + m + 26) c2) ∧ Sep w0 w2 O (own 5 1 B' (25 + m + 26) c2 (by8 (hd ++ vsbytes (vs.take k) ++ np)) :: L') := by
          intro w' L' H
          have := adput_calls H hr2 hp1 (by simp)
          rw [hnp, hR2l] at this
          exact this
        have HPT := hid @HPUT
        clear hr2 hR2l hnp HPUT
        go_upto_region 9 with (fail)
        go_region_held_law (fun w' => w'.cell? ⟨wr.heap.size, 0, none⟩ = some (.int .u64 vid) ∧ w'.cell? ⟨wr.heap.size, 1, none⟩ = some (.string vnm) ∧ w'.cell? ⟨wr.heap.size, 2, none⟩ = some (.int .u64 vsz) ∧ w'.cell? ⟨wr.heap.size, 4, none⟩ = some (.bool vfx) ∧ w'.cell? ⟨wr.heap.size, 5, none⟩ = some (.int .u64 vor))
          (first | (exact ⟨HS5.up1.blk_at 0 rfl, HS5.up1.blk_at 1 rfl, HS5.up1.blk_at 2 rfl, HS5.up1.blk_at 4 rfl, HS5.up1.blk_at 5 rfl⟩) | (exact ⟨HA.drew.up2.blk_at 0 rfl, HA.drew.up2.blk_at 1 rfl, HA.drew.up2.blk_at 2 rfl, HA.drew.up2.blk_at 4 rfl, HA.drew.up2.blk_at 5 rfl⟩) | (exact ⟨HS4.drew.blk_at 0 rfl, HS4.drew.blk_at 1 rfl, HS4.drew.blk_at 2 rfl, HS4.drew.blk_at 4 rfl, HS4.drew.blk_at 5 rfl⟩))
          (first
            | (go_at_call 25; refine (bit_calls vfx _).mono ?_; rintro e w1 ⟨rfl, rfl⟩)
            | (go_at_call 24; refine (HPT.out HA.drew).mono ?_; rintro e w5 ⟨B5, c5, rfl, HS5⟩))
        all_goals
          have r1 := HS5.up1.blk_at 1 rfl
          go_wp2_with (at_builtin; go_loud (refine wpList_append_sep_str rfl (.tmp 61) (.tmp 63) 25 9 rfl 5 i0 Try.underlying25 Try.underlying9 hi0 hz0 hz1 hz2 rfl HS5 rfl q1 q2 rfl rfl ?_); intro B6 c6 w6 HS6 hsz6)
          go_roundw
          case rel =>
            have e8 : 25 + (vsbytes (vs.take (k + 1))).length = 25 + m + 26 + vnm.size := by rw [HSU.out, List.length_append, HM.out, HBL.out]; omega
            refine ⟨k + 1, c6, B6, by omega, by go_num, by rw [e8], ⟨?_⟩, by rw [HSU.out, List.length_append, HM.out, HBL.out]; omega, ?_⟩
            · intro u hu
              rw [List.take_add_one, hvk] at hu
              rcases List.mem_append.1 hu with hu | hu
              · exact hsm.out u hu
              · simp at hu; subst hu; rw [← HNM.out]; exact h16n
            · rw [e8, HSU.out, HVB.out, ← List.append_assoc, ← List.append_assoc, ← by8_append, ← strInts_cells]
              exact HS6.up1.drop
          case measure => simp [intOf]; omega
    · obtain rfl : n = k := by omega
      have htk : vs.take n = vs := by rw [← HN.out, List.take_length]
      rw [htk] at hsm HS3 ⊢
      have hln : (ansBytes ck er id vs).length = 25 + (vsbytes vs).length := by rw [HP.out, List.length_append, HRL.out]
      have hj : ¬ (n : Int) < n := by omega
      have HLN := hid hln
      clear hln
      go_wp2
      rw [HQ.out]
      refine ⟨fun _ => ⟨B, c', by rw [HLN.out], by rw [HLN.out, HP.out]; exact HS3⟩, fun h => absurd hsm.out h⟩
end
end Go.Proofs.Ytankfmfenbhkgaa
