/-
  The walk of AdminKnown.
-/
import Derived.Test.YtankfmfenbhkgaaAdmKn
namespace Go.Proofs.Ytankfmfenbhkgaa
open Go.RowKit
set_option linter.unusedVariables false
set_option linter.unusedSimpArgs false

set_option maxHeartbeats 8000000 in
set_option maxRecDepth 100000 in
theorem adminKnown_walk (w : World) :
    Calls Try.prog 8 #[] w fun e w' => e = .returned (.bool true) ∧ Below w.heap.size w w' := by
  have HS := Sep.start w
  have hm16 := mk_vol16
  have hm17 := mk_vol17
  obtain ⟨vs, hvs⟩ : ∃ vs, vs = List.replicate 16 zV := ⟨_, rfl⟩
  obtain ⟨us, hus⟩ : ∃ us, us = vrow (List.replicate 17 zV) := ⟨_, rfl⟩
  have hvl : vs.length = 16 := by rw [hvs]; rfl
  have hvo : ∀ v ∈ vs, v.Ok := by rw [hvs]; exact zV_ok
  have hvn : ∀ v ∈ vs, v.nm.size ≤ 16 := by rw [hvs]; exact zV_nm
  have hvp : ansBytes 0 0 0 vs = kP := by rw [hvs]; rfl
  rw [← hvs] at hm16
  rw [← hus] at hm17
  have HVL := hid hvl
  have HVO := hid hvo
  have HVN := hid hvn
  have HVP := hid hvp
  clear hvs hus hvl hvo hvn hvp
  go_enter Try.func8, Try.ntmps8
  go_wp2_with fail
  refine (adminput_ok (kd := 255) (ck := 0) (nm := s16) (au := s16) (size := 18446744073709551615) (fixed := true) HS (by decide) (by decide) (by decide) (by decide) (by decide)).mono ?_
  rintro e w1 ⟨A1, c1, rfl, HS1⟩
  rw [kn1] at HS1
  replace HS1 : Sep w w1 (fun _ => False) [own 5 1 A1 56 c1 (by8 kB)] := HS1
  rw [show 24 + s16.size + s16.size = 56 from by decide]
  have hle := own_le HS1
  obtain ⟨g1, rfl⟩ := HS1.own_some (by decide)
  go_wp2_with fail
  refine (adminput_bad (kd := 256) (ck := 0) (nm := noStr) (au := noStr) (size := 0) (fixed := false) HS1 (by decide) (by decide) (by decide)).mono ?_
  rintro e w2 ⟨rfl, HS2⟩
  rw [show admErr 256 noStr noStr = 1 from by decide]
  go_wp2_with fail
  refine (adminput_bad (kd := 256) (ck := 0) (nm := s17) (au := noStr) (size := 0) (fixed := false) HS2 (by decide) (by decide) (by decide)).mono ?_
  rintro e w3 ⟨rfl, HS3⟩
  rw [show admErr 256 s17 noStr = 1 from by decide]
  go_wp2_with fail
  refine (adminput_bad (kd := 0) (ck := 0) (nm := noStr) (au := s17) (size := 0) (fixed := false) HS3 (by decide) (by decide) (by decide)).mono ?_
  rintro e w4 ⟨rfl, HS4⟩
  rw [show admErr 0 noStr s17 = 3 from by decide]
  have c5 : w4.cell? ⟨g1, 5, none⟩ = some (.int .u8 1) := HS4.kcell (j := 5) (by decide) rfl
  have f5 := HS4.own_frozen 5
  have HX := HS4.own_set 5 (.int .u8 2)
  rw [kv_set] at HX
  clear HS HS1 HS2 HS3
  go_wp2_with fail
  refine (ltape_calls (l := kB2) HX Rb.i0 (by decide)).mono ?_
  rintro e w5 ⟨g5, rfl, HS5⟩
  clear c5 f5 HX HS4
  go_wp2_with fail
  refine (admtake_calls HS5 (by decide) (by decide)).mono ?_
  rintro e w6 ⟨rfl, HS6⟩
  rw [kn2] at HS6 ⊢
  have c5 : w6.cell? ⟨g1, 5, none⟩ = some (.int .u8 2) := HS6.up1.kcell (j := 5) (by decide) rfl
  have f5 := HS6.up1.own_frozen 5
  have c23 : w6.cell? ⟨g1, 23, none⟩ = some (.int .u8 16) := HS6.up1.kcell (j := 23) (by decide) rfl
  have f23 := HS6.up1.own_frozen 23
  have HX := (HS6.up1.own_set 5 (.int .u8 1)).own_set 23 (.int .u8 17)
  rw [kv_set, kv_set] at HX
  go_wp2_with fail
  refine (ltape_calls (l := kB3) HX Rb.i0 (by decide)).mono ?_
  rintro e w7 ⟨g7, rfl, HS7⟩
  clear c5 f5 c23 f23 HX HS6 HS5
  go_wp2_with fail
  refine (admtake_calls HS7 (by decide) (by decide)).mono ?_
  rintro e w8 ⟨rfl, HS8⟩
  rw [kn3] at HS8 ⊢
  have c5 : w8.cell? ⟨g1, 0, none⟩ = some (.int .u8 67) := HS8.up1.kcell (j := 0) (by decide) rfl
  have f5 := HS8.up1.own_frozen 0
  have HX := HS8.up1.own_set 0 (.int .u8 0)
  rw [kv_set] at HX
  have i4 : (4 : Int) ≤ c1 := by omega
  go_wp2_with fail
  refine (ltape_calls (l := kB4.take 4) HX (Rb.i0.ktake (m := 4) (by decide)) (by decide)).mono ?_
  rintro e w9 ⟨g9, rfl, HS9⟩
  clear c5 f5 HX HS7 HS8
  go_wp2_with fail
  refine (admtake_calls HS9 (by decide) (by decide)).mono ?_
  rintro e w10 ⟨rfl, HS10⟩
  rw [kn4] at HS10 ⊢
  have HD : Sep w w10 (fun _ => False) [] := HS10.dropN 10
  go_wp2_with fail
  refine (admtake_nil HD).mono ?_
  rintro e w11 ⟨rfl, HS11⟩
  have HS12 := HS11.alloc_ (.cells zAdm 24)
  clear HS9 HS10 HD
  go_wp2_with fail
  refine (takeans_nil HS12).mono ?_
  rintro e w13 ⟨rfl, HS13⟩
  have HS14 := HS13.alloc_ (.cells zAns 45)
  have HV := HS14.litB (vrow vs).toArray 48 6 16 (by simp [vrow_len, HVL.out]) (by decide) (B := w13.heap.size + 1) (by simp)
  go_wp2_with fail
  refine (putansA_calls (ck := 0) (er := 0) (id := 0) (vs := vs) HV Rb.i0 HVL.out HVO.out (by decide) (by decide) (by decide) (by decide) (by decide) (by decide) (by decide)).mono ?_
  rintro e w15 ⟨H15, _⟩
  obtain ⟨A15, c15, rfl, HS15⟩ := H15 HVN.out
  rw [HVP.out, kp_len] at HS15
  rw [HVP.out, kp_len]
  have HS16 := HS15.up1.drop
  have HV2 := HS16.alloc_ (.cells us.toArray 48)
  clear HS15 HV HS14 HS13 HS12 HS11
  go_wp2_with fail
  refine (putansA_long (n := 17) HV2 (by decide)).mono ?_
  rintro e w17 ⟨rfl, HS17⟩
  have hle2 := own_le HS17
  obtain ⟨g2, rfl⟩ := HS17.own_some (by decide)
  have i25 : (25 : Int) ≤ c15 := by omega
  have i50 : (50 : Int) ≤ c15 := by omega
  obtain ⟨z24, c24⟩ : ∃ z : Int, w17.cell? ⟨g2, 24, none⟩ = some (.int .u8 z) := ⟨_, HS17.kcell (j := 24) (by rw [kp_len]; decide) kp_len⟩
  have f24 := HS17.own_frozen 24
  have HX := HS17.own_set 24 (.int .u8 17)
  rw [kv_set] at HX
  replace HX : Sep w (w17.setCell ⟨g2, 24, none⟩ (.int .u8 17)) (fun _ => False) [own 5 1 (some ⟨g2, 0, none⟩) 441 c15 (by8 kP1)] := HX
  clear HV2 HS16 hm16 hm17
  go_wp2_with fail
  refine (ltape_calls (l := kP1.take 25) HX (Rb.i0.ktake (m := 25) (by decide)) (by rw [kp1_len]; decide)).mono ?_
  rintro e w18 ⟨g18, rfl, HS18⟩
  clear c24 f24 HX HS17
  go_wp2_with fail
  refine (takeansA_long (l := kP1.take 25) (by rw [kp1_len]; exact Nat.le_refl _) kp1_m kp1_n (by decide) HS18 kp1_byt (by rw [kp1_len]; decide)).mono ?_
  rintro e w19 ⟨rfl, HS19⟩
  have kp1l : kP1.length = 441 := by unfold kP1; rw [List.length_set, kp_len]
  obtain ⟨y24, c24⟩ : ∃ z : Int, w19.cell? ⟨g2, 24, none⟩ = some (.int .u8 z) := ⟨_, HS19.up1.kcell (j := 24) (by rw [kp1l]; decide) kp1l⟩
  obtain ⟨y49, c49⟩ : ∃ z : Int, w19.cell? ⟨g2, 49, none⟩ = some (.int .u8 z) := ⟨_, HS19.up1.kcell (j := 49) (by rw [kp1l]; decide) kp1l⟩
  have f24 := HS19.up1.own_frozen 24
  have f49 := HS19.up1.own_frozen 49
  have HX := (HS19.up1.own_set 24 (.int .u8 1)).own_set 49 (.int .u8 2)
  rw [kv_set, kv_set] at HX
  replace HX : Sep w ((w19.setCell ⟨g2, 24, none⟩ (.int .u8 1)).setCell ⟨g2, 49, none⟩ (.int .u8 2)) (fun _ => False) [own 5 1 (some ⟨g2, 0, none⟩) 441 c15 (by8 kP2)] := HX.sel 2 [0]
  clear kp1l
  go_wp2_with fail
  refine (ltape_calls (l := kP2) HX Rb.i0 (by rw [kp2_len]; decide)).mono ?_
  rintro e w20 ⟨g20, rfl, HS20⟩
  clear c24 c49 f24 f49 HX HS18 HS19
  go_wp2_with fail
  refine (takeansA_bad (l := kP2) (by rw [kp2_len]; decide) kp2_m kp2_n (by decide) kp2_v HS20 kp2_byt (by rw [kp2_len]; decide)).mono ?_
  rintro e w21 ⟨rfl, HS21⟩
  go_wp2_with fail
  refine (ltape_calls (l := kP2.take 50) HS21 (Rb.i1.ktake (m := 50) (by decide)) (by rw [kp3_len]; decide)).mono ?_
  rintro e w22 ⟨g22, rfl, HS22⟩
  go_wp2_with fail
  refine (takeansA_bad (l := kP2.take 50) (by rw [kp3_len]; decide) kp3_m kp3_n (by decide) kp3_v HS22 kp3_byt (by rw [kp3_len]; decide)).mono ?_
  rintro e w23 ⟨rfl, HS23⟩
  have HE : Sep w w23 (fun _ => False) [] := HS23.dropN 10
  clear HS20 HS21 HS22 HS23
  go_wp2_with fail
  refine (adchk_calls HE).mono ?_
  rintro e w24 ⟨rfl, HS24⟩
  rw [kc1]
  go_wp2_with fail
  refine (adchk_calls HS24).mono ?_
  rintro e w25 ⟨rfl, HS25⟩
  rw [kc2]
  go_wp2_with fail
  refine (adchk_calls HS25).mono ?_
  rintro e w26 ⟨rfl, HS26⟩
  rw [kc3]
  go_wp2_with fail
  refine (wakes_calls HS26).mono ?_
  rintro e w27 ⟨rfl, HS27⟩
  go_wp2
  go_ret
  exact ⟨rfl, HS27.below⟩
end Go.Proofs.Ytankfmfenbhkgaa
