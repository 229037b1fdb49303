/-
  The walk of FreeLeast.
-/
import Derived.Test.YtdblokglldalnaaLaw06
import Derived.Test.YtdblokglldalnaaFreePl
import Derived.Deep.CutBlock
import Derived.Deep.RegionHeldLaw
import Derived.Deep.DeepCutAuto
namespace Go.Proofs.Ytdblokglldalnaa
open Go.RowKit
set_option linter.unusedVariables false
set_option linter.unusedSimpArgs false

set_option maxHeartbeats 8000000 in
set_option maxRecDepth 100000 in
theorem freeLeast_walk (a0 : Int) (A1 : Option Addr) (n1 c1 : Nat) (x0 : Sh.V (.int .i64)) (x1 : Sh.V (.slice (.agg (.pair (.int .i64) (.pair (.int .i64) .unit))) 16)) (w : World) (s0 : Sees w.heap (.int .i64) [.int .i64 a0] x0) (s1 : Sees w.heap (.slice (.agg (.pair (.int .i64) (.pair (.int .i64) .unit))) 16) [.slice A1 n1 c1] x1) (y0 : Light (.int .i64) x0) (y1 : Light (.slice (.agg (.pair (.int .i64) (.pair (.int .i64) .unit))) 16) x1) :
    Calls Try.prog 4 #[.int .i64 a0, .slice A1 n1 c1] w fun e w' => e = .returned (.bool true) ∧ Below w.heap.size w w' := by
  have hn1 : n1 ≤ 140737488351232 := by
    obtain ⟨A', c', hc, -⟩ := s1
    simp only [List.cons.injEq, and_true, Value.slice.injEq] at hc
    have := y1.1
    rw [← hc.2.1] at this
    omega
  obtain ⟨hc1, l, hl, hlb, hm⟩ := sees_acts s1
  have HR := hid (fun L => Rb.came (L := L) hm)
  clear s0 s1 y0 y1 hm hlb hl
  have HS := Sep.start w
  have hwl := within_lt (k := a0) (n := 200) (by decide)
  have hwc := within_calls (w := w) (k := a0) (n := 200) (by decide) (by decide)
  generalize within a0 200 = m at *
  go_enter Try.func4, Try.ntmps4
  go_wp2_with fail
  refine hwc.mono ?_
  rintro e w1 ⟨rfl, rfl⟩
  clear hwc
  go_wp2_with fail
  refine (newf_calls (m := m) HS (by omega)).mono ?_
  rintro e w2 ⟨gs, rfl, H2⟩
  go_wp2_with fail
  refine (awake_calls H2).mono ?_
  rintro e w3 ⟨rfl, H3⟩
  clear HS H2
  go_upto_block 0 with (fail)
  go_cut [28] (fun _ wx => ∃ is : List Bool, is.length = m ∧ Sep w1 wx (fun _ => False) (space gs is :: []))
  case first =>
    go_wp2_with fail
    go_loopw [28] (fun i wr => ∃ (k : Nat) (is : List Bool), k ≤ n1 ∧ i = .int .i64 k ∧ is.length = m ∧ Sep w1 wr (fun _ => False) (space gs is :: [])) (fun i _ => n1 - (intOf i).toNat)
    case atStart => exact ⟨0, List.replicate m true, Nat.zero_le _, rfl, by simp, H3⟩
    case round =>
      obtain ⟨k, is, hk, rfl, him, H4⟩ := hrel
      have HIM := hid him
      clear H3 him
      by_cases hlt : k < n1
      · obtain ⟨ad, ⟨wh, at_⟩, rfl, hp, p0, p1⟩ := (HR.out _).actAt H4 hlt
        have hk1 : (k : Int) < n1 := by omega
        have H5 := H4.alloc #[.int .i64 wh, .int .i64 at_] 40
        obtain ⟨ga, hga⟩ : ∃ ga, ga = wr.heap.size := ⟨_, rfl⟩
        have HGA := hid hga
        rw [← hga] at H5
        clear hga hp
        by_cases h200 : k = 200
        · have ht : ((k : Int) == 200) = true := by simp; omega
          clear h200
          go_wp2
          go_meet
          case rel => exact ⟨is, HIM.out, H5.drop⟩
        · have ht : ((k : Int) == 200) = false := by simp; omega
          go_upto_block 2 with (fail)
          rw [← HGA.out]
          generalize hW : wr.alloc (.cells #[.int .i64 wh, .int .i64 at_] 40) = w5 at *
          have H6 : Sep w1 w5 (fun _ => False) (space gs is :: blk ga 40 #[.int .i64 wh, .int .i64 at_] :: []) := H5.sel 2 [1, 0]
          clear hW H5 H4 p0 p1 ht
          have q1 := H6.up1.blkAt 1 rfl
          rcases (show wh = 0 ∨ wh = 1 ∨ wh = 2 ∨ (¬ wh = 0 ∧ ¬ wh = 1 ∧ ¬ wh = 2) by omega) with rfl | rfl | rfl | ⟨n0, n1', n2⟩
          · have hl : (takeIs is).length = m := by rw [takeIs_len]; exact HIM.out
            go_wp2_with fail
            refine (take_calls H6).mono ?_
            rintro e w6 ⟨rfl, H7⟩
            go_wp2
            go_roundw
            case rel => exact ⟨k + 1, takeIs is, by omega, by go_num, hl, H7.sel 2 [0]⟩
            case measure => simp [intOf]; omega
          · have hl : (clIs is at_).length = m := by rw [clIs_len]; exact HIM.out
            go_wp2_with fail
            refine (claim_calls (x := at_) H6).mono ?_
            rintro e w6 ⟨rfl, H7⟩
            go_wp2
            go_roundw
            case rel => exact ⟨k + 1, clIs is at_, by omega, by go_num, hl, H7.sel 2 [0]⟩
            case measure => simp [intOf]; omega
          · have hl : (gvIs is at_).length = m := by rw [gvIs_len]; exact HIM.out
            go_wp2_with fail
            refine (give_calls (x := at_) H6).mono ?_
            rintro e w6 ⟨rfl, H7⟩
            go_wp2
            go_roundw
            case rel => exact ⟨k + 1, gvIs is at_, by omega, by go_num, hl, H7.sel 2 [0]⟩
            case measure => simp [intOf]; omega
          · go_wp2
            go_roundw
            case rel => exact ⟨k + 1, is, by omega, by go_num, HIM.out, H6.sel 2 [0]⟩
            case measure => simp [intOf]; omega
      · obtain rfl : k = n1 := by omega
        have hk1 : ¬ (k : Int) < k := by omega
        go_wp2
        go_meet
        case rel => exact ⟨is, HIM.out, H4⟩
  case rest =>
    obtain ⟨is, him, H4⟩ := hcut
    have hpc := places_count is
    have hct : is.count true ≤ is.length := List.count_le_length
    have hpl : (places is).length ≤ 1024 := by omega
    have hlt' := places_lt is
    clear H3 him hct
    go_wp2_with fail
    refine (list_calls H4).mono ?_
    rintro e w5 ⟨A5, c5, rfl, H5⟩
    have hs := (places_lt is)
    have hge := H5.own_ge
    go_wp2_with fail
    refine (intsSorted_true (xs := places is) H5 Rb.i0 hlt' (by omega)).mono ?_
    rintro e w6 ⟨rfl, H6⟩
    go_wp2_with fail
    refine (free_calls H6.up1).mono ?_
    rintro e w7 ⟨rfl, rfl⟩
    rw [← hpc]
    have H8 := H6.up1
    obtain ⟨ps, hps⟩ : ∃ ps, ps = places is := ⟨_, rfl⟩
    clear hpc
    rw [← hps] at H8 hpl hge ⊢
    obtain ⟨pn, hpn⟩ : ∃ pn, pn = ps.length := ⟨_, rfl⟩
    rw [← hpn] at H8 hpl hge ⊢
    have HPS := hid hps
    have HPN := hid hpn
    clear H4 H5 H6 hlt' hs hps hpn
    go_wp2_with fail
    go_loopw [68] (fun i wr => ∃ (k : Nat) (js : List Bool), k ≤ pn ∧ i = .int .i64 k ∧ places js = ps.drop k ∧ Sep w1 wr (fun _ => False) (space gs js :: own 3 1 A5 pn c5 (kv .i64 ps) :: [])) (fun i _ => pn - (intOf i).toNat)
    case atStart => exact ⟨0, is, Nat.zero_le _, rfl, by rw [HPS.out]; rfl, H8⟩
    case round =>
      obtain ⟨k, js, hk, rfl, hpj, H9⟩ := hrel
      clear H8
      by_cases hlt : k < pn
      · have hlt2 : k < ps.length := by have := HPN.out; omega
        rw [List.drop_eq_getElem_cons hlt2] at hpj
        obtain ⟨t1, t2, t3⟩ := places_step hpj
        obtain ⟨b, rfl⟩ := H9.up1.own_some (by omega)
        have ck := H9.up1.kcell hlt2 HPN.out.symm
        have hk1 : (k : Int) < pn := by omega
        obtain ⟨j, hj⟩ : ∃ j, j = k + 1 := ⟨_, rfl⟩
        have hjI : (k : Int) + 1 = j := by omega
        have hjW : IntKind.i64.wrap (j : Int) = j := by rw [IntKind.wrap_i64]; omega
        have hk2 : (j : Int) ≤ pn := by omega
        have hk3 : (j : Int) ≤ c5 := by omega
        have hk4 : (0 : Int) ≤ j := by omega
        have hk5 : (pn : Int) ≤ c5 := by omega
        have hj0 : ¬ j = 0 := by omega
        have hTK := take_calls H9
        rw [t1, t2] at hTK
        have HT3 := hid t3
        generalize ps[k] = x at *
        have HTK := hid hTK
        clear hTK t1 t2 t3 hpj H9
        go_wp2_with fail
        refine HTK.out.mono ?_
        rintro e w10 ⟨rfl, H10⟩
        clear ck
        have hcut := (Rb.i1 (w0 := w1) (O := fun _ => False) (a := space gs (takeIs js)) (L := []) (e := 3) (size := 1) (A := some ⟨b, 0, none⟩) (n := pn) (k := c5) (xs := kv .i64 ps)).ktail HPN.out.symm (j := j) (cap := c5) (by omega) hge
        have HCC := hid hcut
        have HJ := hid hj
        have hpl2 : (places (takeIs js)).length = pn - j := by rw [HT3.out, List.length_drop, ← HPN.out, hj]
        have hLI : ∀ {W : World} {L : List Asr}, Sep w1 W (fun _ => False) (space gs (takeIs js) :: L) → Calls Try.prog 11 #[.pointer (some ⟨gs, 0, none⟩)] W fun e w' => ∃ A c, e = .returned (.slice A (pn - j) c) ∧ Sep w1 w' (fun _ => False) (own 3 1 A (pn - j) c (kv .i64 (ps.drop j)) :: space gs (takeIs js) :: L) := by
          intro W L H
          have := list_calls H
          rwa [hpl2, HT3.out, ← hj] at this
        have HLI := hid @hLI
        clear hcut hpl2 hLI
        generalize takeIs js = js2 at *
        clear hj
        obtain ⟨DA, hDA⟩ : ∃ DA : Option Addr, (if c5 = j then some (⟨b, 0, none⟩ : Addr) else some ⟨b, j, none⟩) = DA := ⟨_, rfl⟩
        have HC' := HCC.out
        rw [show (some (⟨b, 0, none⟩ : Addr)).map (fun a => a.add j) = some ⟨b, j, none⟩ by simp [Addr.add, hj0], hDA] at HC'
        have nn : pn - j ≤ 140737488355328 := by omega
        have HC2 := hid (fun (P : Asr) => HC'.cons (P := P))
        clear HC' HCC
        go_upto_region 23 with (fail)
        go_region_held_law (fun _ => True) (trivial) (first
          | (go_simp; go_at_call 11; refine (HLI.out H10.drew).mono ?_; rintro e w11 ⟨A11, c11, rfl, H11⟩)
          | (go_simp; go_at_call 14; refine (same_true (xs := ps.drop j) H11 Rb.i0 (HC2.out _) (by omega)).mono ?_; rintro e w12 ⟨rfl, H12⟩))
        all_goals
          go_wp2
          go_roundw
          case rel => exact ⟨k + 1, js2, by omega, by go_num, HT3.out, H12.drop⟩
          case measure => simp [intOf]; omega
      · obtain rfl : k = pn := by omega
        have hk1 : ¬ (k : Int) < k := by omega
        rw [List.drop_eq_nil_of_le (by rw [← HPN.out]; exact Nat.le_refl _)] at hpj
        obtain ⟨t1, t2⟩ := places_end hpj
        have hpc2 := places_count js
        rw [hpj] at hpc2
        have hTK := take_calls H9
        rw [t1, t2] at hTK
        have HTK := hid hTK
        clear hTK t1 t2 hpj H9
        go_wp2_with fail
        refine HTK.out.mono ?_
        rintro e w10 ⟨rfl, H10⟩
        go_wp2_with fail
        refine (free_calls H10).mono ?_
        rintro e w11 ⟨rfl, rfl⟩
        rw [← hpc2]
        go_wp2
        go_ret
        exact ⟨rfl, H10.below⟩
end Go.Proofs.Ytdblokglldalnaa
