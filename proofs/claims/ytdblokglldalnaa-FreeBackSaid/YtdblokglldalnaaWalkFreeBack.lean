/-
  The walk of FreeBack.
-/
import Derived.Test.YtdblokglldalnaaLaw06
import Derived.Test.YtdblokglldalnaaFreePl
import Derived.Deep.CutBlock
import Derived.Deep.RegionHeldLaw
import Derived.Deep.DeepCutAuto
namespace Go.Proofs.Ytdblokglldalnaa
open Go.RowKit
set_option linter.unusedVariables false
set_option linter.unusedSimpArgs false

/-- what was free is what is free and what was taken -/
structure Took (is0 is : List Bool) (T : List Int) : Prop where
  len : is.length = is0.length
  all : ∀ k : Nat, is0[k]? = some true ↔ (is[k]? = some true ∨ (k : Int) ∈ T)
  rng : ∀ t ∈ T, 0 ≤ t ∧ t < is0.length ∧ is[t.toNat]? ≠ some true
  once : T.Nodup
theorem Took.start (is : List Bool) : Took is is [] := ⟨rfl, fun k => by simp, fun t h => (by cases h), List.nodup_nil⟩
theorem Took.take {is0 is : List Bool} {T : List Int} {k : Nat} (h : Took is0 is T) (hl : leastOf is = some k) : Took is0 (is.set k false) (T ++ [(k : Int)]) := by
  obtain ⟨h1, h2, h3⟩ := leastOf_is hl
  refine ⟨by rw [List.length_set]; exact h.len, fun j => ?_, fun t ht => ?_, ?_⟩
  · rw [h.all j, set_get h2, List.mem_append, List.mem_singleton]
    by_cases hj : j = k
    · subst hj; simp [h1]
    · rw [if_neg hj]
      have : ¬ ((j : Int) = k) := by omega
      simp [this]
  · rcases List.mem_append.1 ht with ht | ht
    · obtain ⟨a, b, c⟩ := h.rng t ht
      refine ⟨a, b, ?_⟩
      rw [set_get h2]
      split
      · simp
      · exact c
    · rw [List.mem_singleton] at ht
      subst ht
      have := h.len
      refine ⟨by omega, by omega, ?_⟩
      rw [Int.toNat_natCast, set_get h2, if_pos rfl]; simp
  · rw [List.nodup_append]
    refine ⟨h.once, by simp, fun a ha b hb e => ?_⟩
    rw [List.mem_singleton] at hb
    obtain ⟨-, -, c⟩ := h.rng a ha
    rw [e, hb, Int.toNat_natCast] at c
    exact c h1
theorem Took.give {is0 is : List Bool} {T : List Int} {k : Nat} (h : Took is0 is T) (hk : k < T.length) :
    (0 ≤ gat T k ∧ gat T k < is.length) ∧ is[(gat T k).toNat]? ≠ some true ∧ Took is0 (is.set (gat T k).toNat true) (T.take k ++ T.drop (k + 1)) := by
  have hm := gat_mem hk
  obtain ⟨a, b, c⟩ := h.rng _ hm
  have hsp : T = T.take k ++ (gat T k :: T.drop (k + 1)) := by
    have := List.drop_eq_getElem_cons hk
    rw [gat_int hk] at this
    rw [← this, List.take_append_drop]
  have hl := h.len
  generalize gat T k = t at *
  have hnd := h.once
  rw [hsp, List.nodup_append] at hnd
  obtain ⟨n1, n2, n3⟩ := hnd
  rw [List.nodup_cons] at n2
  have hnt : t ∉ T.take k ++ T.drop (k + 1) := by
    rw [List.mem_append]
    rintro (h' | h')
    · exact n3 t h' t (List.mem_cons_self ..) rfl
    · exact n2.1 h'
  have hmm : ∀ x, x ∈ T ↔ x = t ∨ x ∈ T.take k ++ T.drop (k + 1) := fun x => by
    conv => lhs; rw [hsp]
    rw [List.mem_append, List.mem_cons, List.mem_append]
    constructor
    · rintro (h | h | h)
      · exact .inr (.inl h)
      · exact .inl h
      · exact .inr (.inr h)
    · rintro (h | h | h)
      · exact .inr (.inl h)
      · exact .inl h
      · exact .inr (.inr h)
  have htl : t.toNat < is.length := by omega
  refine ⟨⟨a, by omega⟩, c, ⟨by rw [List.length_set]; exact h.len, fun j => ?_, fun x hx => ?_, ?_⟩⟩
  · rw [h.all j, set_get htl, hmm]
    by_cases hj : j = t.toNat
    · rw [if_pos hj]
      have : (j : Int) = t := by omega
      simp [this]
    · rw [if_neg hj]
      have : ¬ (j : Int) = t := by omega
      simp [this]
  · obtain ⟨a', b', c'⟩ := h.rng x ((hmm x).2 (.inr hx))
    refine ⟨a', b', ?_⟩
    rw [set_get htl]
    have : x ≠ t := fun e => hnt (e ▸ hx)
    rw [if_neg (by omega)]
    exact c'
  · rw [List.nodup_append]
    exact ⟨n1, n2.2, fun x hx y hy e => n3 x hx y (List.mem_cons_of_mem _ hy) e⟩
theorem Took.end {is0 is : List Bool} (h : Took is0 is []) : is = is0 := places_ext h.len fun k => by rw [h.all k]; simp

set_option maxHeartbeats 8000000 in
set_option maxRecDepth 100000 in
theorem freeBack_walk (cs0 : Array Value) (x0 : Sh.V (.agg (.pair (.int .i64) (.pair (.slice (.int .i64) 8) (.pair (.int .i64) (.pair (.slice (.int .i64) 8) .unit)))))) (w : World) (s0 : Sees w.heap (.agg (.pair (.int .i64) (.pair (.slice (.int .i64) 8) (.pair (.int .i64) (.pair (.slice (.int .i64) 8) .unit))))) cs0.toList x0) (y0 : Light (.agg (.pair (.int .i64) (.pair (.slice (.int .i64) 8) (.pair (.int .i64) (.pair (.slice (.int .i64) 8) .unit))))) x0) :
    Calls Try.prog 3 #[.agg cs0] w fun e w' => e = .returned (.bool true) ∧ Below w.heap.size w w' := by
  obtain ⟨N, gone, tk, turn, _⟩ := x0
  obtain ⟨q1, r1, hcs, hl1, ⟨rfl, hb1⟩, q2, r2, rfl, hl2, hs2, q3, r3, rfl, hl3, ⟨rfl, hb3⟩, q4, r4, rfl, hl4, hs4, rfl⟩ := s0
  obtain ⟨A2, c2, hc2, _⟩ := id hs2
  subst hc2
  obtain ⟨A4, c4, hc4, _⟩ := id hs4
  subst hc4
  obtain ⟨hn2, hr2, hlc2, _, hw2⟩ := sees_ints hs2
  obtain ⟨hn4, hr4, hlc4, _, hw4⟩ := sees_ints hs4
  obtain rfl : cs0 = #[.int .i64 N, .slice A2 (List.length gone) c2, .int .i64 tk, .slice A4 (List.length turn) c4] := by apply Array.toList_inj.1; rw [hcs]; rfl
  have l2 : List.length gone ≤ 140737488351232 := by have h : List.length gone * 8 ≤ 140737488351232 := y0.2.1.1; omega
  have l4 : List.length turn ≤ 140737488351232 := by have h : List.length turn * 8 ≤ 140737488351232 := y0.2.2.2.1.1; omega
  obtain ⟨gl, hgl⟩ : ∃ gl : List Int, gl = gone := ⟨_, rfl⟩
  obtain ⟨tl, htl⟩ : ∃ tl : List Int, tl = turn := ⟨_, rfl⟩
  obtain ⟨n2, hn2'⟩ : ∃ n2, n2 = List.length gone := ⟨_, rfl⟩
  obtain ⟨n4, hn4'⟩ : ∃ n4, n4 = List.length turn := ⟨_, rfl⟩
  have HR2 : Aside (∀ L, Rb w (fun _ => False) L 1 A2 n2 (kv .i64 gl)) := ⟨fun L => by rw [hgl, hn2']; exact Rb.came (L := L) hr2⟩
  have HR4 : Aside (∀ L, Rb w (fun _ => False) L 1 A4 n4 (kv .i64 tl)) := ⟨fun L => by rw [htl, hn4']; exact Rb.came (L := L) hr4⟩
  rw [← hn2'] at l2 ⊢
  rw [← hn4'] at l4 ⊢
  clear hgl htl hn2' hn4' hn2 hn4 hr2 hr4 hlc2 hlc4 hw2 hw4 hs2 hs4 y0 hcs hb1 hb3 hl1 hl2 hl3 hl4
  have HS := (Sep.start w).alloc #[.int .i64 N, .slice A2 n2 c2, .int .i64 tk, .slice A4 n4 c4] 24
  have hwl := within_lt (k := N) (n := 200) (by decide)
  have hwc := fun w => within_calls (w := w) (k := N) (n := 200) (by decide) (by decide)
  have hwl2 := within_lt (k := tk) (n := 200) (by decide)
  have hwc2 := fun w => within_calls (w := w) (k := tk) (n := 200) (by decide) (by decide)
  generalize within N 200 = m at *
  generalize within tk 200 = mt at *
  have HWC := hid hwc
  have HWC2 := hid hwc2
  clear hwc hwc2
  have r0 := HS.drew.blkAt 0 rfl
  have r1 := HS.drew.blkAt 1 rfl
  have r2 := HS.drew.blkAt 2 rfl
  have r3 := HS.drew.blkAt 3 rfl
  obtain ⟨i0, hi0, hz0, hz1, hz2⟩ := info_parts info_int
  go_enter Try.func3, Try.ntmps3
  go_upto_region 1 with (fail)
  have q0 := HS.blkAt 0 rfl
  have q1 := HS.blkAt 1 rfl
  have q2 := HS.blkAt 2 rfl
  have q3 := HS.blkAt 3 rfl
  go_quiet (fail)
  have HS1 := (HS.drewN nq).drop
  clear r0 r1 r2 r3 q0 q1 q2 q3 HS
  go_wp2_with fail
  refine (HWC.out _).mono ?_
  rintro e w1 ⟨rfl, rfl⟩
  go_wp2_with fail
  refine (newf_calls (m := m) HS1 (by omega)).mono ?_
  rintro e w2 ⟨gs, rfl, H2⟩
  go_wp2_with fail
  refine (awake_calls H2).mono ?_
  rintro e w3 ⟨rfl, H3⟩
  clear HS1 H2
  go_upto_block 0 with (fail)
  go_cut [39] (fun _ wx => ∃ is : List Bool, is.length = m ∧ Sep w wx (fun _ => False) (space gs is :: []))
  case first =>
    go_wp2_with fail
    go_loopw [39] (fun i wr => ∃ (k : Nat) (is : List Bool), k ≤ n2 ∧ i = .int .i64 k ∧ is.length = m ∧ Sep w wr (fun _ => False) (space gs is :: [])) (fun i _ => n2 - (intOf i).toNat)
    case atStart => exact ⟨0, List.replicate m true, Nat.zero_le _, rfl, by simp, H3⟩
    case round =>
      obtain ⟨k, is, hk, rfl, him, H4⟩ := hrel
      have HIM := hid him
      clear H3 him
      by_cases hlt : k < n2
      · obtain ⟨ad, y, rfl, hy, _, ck⟩ := (HR2.out _).elemn H4 hlt
        have hk1 : (k : Int) < n2 := by omega
        clear hy
        by_cases h200 : k = 200
        · have ht : ((k : Int) == 200) = true := by simp; omega
          clear h200
          go_wp2
          go_meet
          case rel => exact ⟨is, HIM.out, H4⟩
        · have ht : ((k : Int) == 200) = false := by simp; omega
          have hl : (clIs is y).length = m := by rw [clIs_len]; exact HIM.out
          go_wp2_with fail
          refine (claim_calls (x := y) H4).mono ?_
          rintro e w6 ⟨rfl, H7⟩
          go_wp2
          go_roundw
          case rel => exact ⟨k + 1, clIs is y, by omega, by go_num, hl, H7⟩
          case measure => simp [intOf]; omega
      · obtain rfl : k = n2 := by omega
        have hk1 : ¬ (k : Int) < k := by omega
        go_wp2
        go_meet
        case rel => exact ⟨is, HIM.out, H4⟩
  case rest =>
    obtain ⟨is0, him, H4⟩ := hcut
    have hile : is0.length ≤ 200 := by omega
    clear H3 him
    go_wp2_with fail
    refine (list_calls H4).mono ?_
    rintro e w5 ⟨A5, c5, rfl, H5⟩
    obtain ⟨ps, hps⟩ : ∃ ps, ps = places is0 := ⟨_, rfl⟩
    have hpc := places_count is0
    have hct : is0.count true ≤ is0.length := List.count_le_length
    have hpl : (places is0).length ≤ 200 := by omega
    have HPC := hid hpc
    rw [← hps] at H5 hpl ⊢
    have HPS := hid hps
    clear H4 hps hpc hct
    go_wp2_with fail
    refine (HWC2.out _).mono ?_
    rintro e w6 ⟨rfl, rfl⟩
    have H6 := (H5.nil 3 1).sel 3 [0, 2, 1]
    go_wp2
    go_loopw [12, 54] (fun t i wr => ∃ (k ct : Nat) (is : List Bool) (T : List Int) (Q : Option Addr), k ≤ mt ∧ i = .int .i64 k ∧ t = .slice Q T.length ct ∧ T.length ≤ k ∧ Took is0 is T ∧ Sep w wr (fun _ => False) (own 3 1 Q T.length ct (kv .i64 T) :: space gs is :: own 3 1 A5 ps.length c5 (kv .i64 ps) :: [])) (fun _ i _ => mt - (intOf i).toNat)
    case atStart => exact ⟨0, 0, is0, [], none, Nat.zero_le _, rfl, rfl, Nat.le_refl _, Took.start is0, H6⟩
    case round =>
      obtain ⟨k, ct, is, T, Q, hk, rfl, rfl, hTk, htook, H7⟩ := hrel
      clear H6 H5
      by_cases hlt : k < mt
      · have hk1 : (k : Int) < mt := by omega
        have HTO := hid htook
        clear htook
        cases hl : leastOf is with
        | none =>
          have e1 : takeErr is = 8 := by unfold takeErr; rw [hl]; rfl
          have e2 : takeIs is = is := by unfold takeIs; rw [hl]
          have hTK := take_calls H7.up1
          rw [e1, e2] at hTK
          have HTK := hid hTK
          clear hTK e1 e2 hl
          go_wp2_with fail
          refine HTK.out.mono ?_
          rintro e w8 ⟨rfl, H8⟩
          go_wp2
          go_roundw
          case rel => exact ⟨k + 1, ct, is, T, Q, by omega, by go_num, rfl, by omega, HTO.out, H8.up1⟩
          case measure => simp [intOf]; omega
        | some x =>
          have e0 : takeAt is = x := by unfold takeAt; rw [hl]; rfl
          have e1 : takeErr is = 0 := by unfold takeErr; rw [hl]; rfl
          have e2 : takeIs is = is.set x false := by unfold takeIs; rw [hl]
          have hTK := take_calls H7.up1
          rw [e0, e1, e2] at hTK
          have HTN := hid (HTO.out.take hl)
          have HTK := hid hTK
          clear hTK e1 e2 e0 hl
          generalize is.set x false = js at *
          go_wp2_with fail
          refine HTK.out.mono ?_
          rintro e w8 ⟨rfl, H8⟩
          have H9 := (H8.up1.lit #[.int .i64 x] 3 1 1 rfl (by decide)).up1
          have hrd := H9.rd1
          have hb1 : T.length + 1 ≤ maxLen := by simp only [maxLen]; omega
          have hb2 : (T.length + 1) * 8 ≤ 140737488355328 := by omega
          have hTl : T.length + 1 = (T ++ [(x : Int)]).length := by simp
          generalize hT2 : T ++ [(x : Int)] = T2 at *
          have HT2 := hid hT2
          clear hT2
          go_wp2_with (at_builtin; go_loud (refine wpList_append_sep rfl (.tmp 63) (.tmp 65) 22 rfl 3 i0 _ 1 8 Try.underlying22 hi0 hz0 hz1 hz2 rfl (by decide) rfl H9 rfl hrd (kv_one .i64 [(x : Int)]) hb1 hb2 hTl ((kv_append .i64 T [(x : Int)]).trans (congrArg (kv .i64) HT2.out)) ?_); intro Q' cq' w9 HS7 hsz7)
          go_roundw
          case rel => exact ⟨k + 1, cq', js, T2, Q', by omega, by go_num, rfl, by rw [← hTl]; omega, HTN.out, HS7.sel 4 [0, 2, 3]⟩
          case measure => simp [intOf]; omega
      · obtain rfl : k = mt := by omega
        have hk1 : ¬ (k : Int) < k := by omega
        have H8 := H7
        clear H7 hlt
        go_wp2
        go_loopw [12, 15] (fun t i wr => ∃ (j ct : Nat) (is : List Bool) (T : List Int) (Q : Option Addr), j ≤ 200 ∧ j + T.length ≤ 200 ∧ i = .int .i64 j ∧ t = .slice Q T.length ct ∧ Took is0 is T ∧ Sep w wr (fun _ => False) (own 3 1 Q T.length ct (kv .i64 T) :: space gs is :: own 3 1 A5 ps.length c5 (kv .i64 ps) :: [])) (fun _ i _ => 200 - (intOf i).toNat)
        case atStart => exact ⟨0, ct, is, T, Q, by omega, by omega, rfl, rfl, htook, H8⟩
        case round =>
          obtain ⟨j, ct, is, T, Q, hj, hjT, rfl, rfl, htook, H9⟩ := hrel
          clear H8
          by_cases hT : T.length = 0
          · obtain rfl : T = [] := List.eq_nil_of_length_eq_zero hT
            obtain rfl := htook.end
            have hx : ¬ (0 : Int) < (([] : List Int).length : Nat) := by simp
            go_wp2_with fail
            refine (list_calls H9.up1).mono ?_
            rintro e w10 ⟨A10, c10, rfl, H10⟩
            rw [← HPS.out] at H10 ⊢
            go_wp2_with fail
            refine (same_true H10 Rb.i0 Rb.i3 (by omega)).mono ?_
            rintro e w11 ⟨rfl, H11⟩
            go_wp2_with fail
            refine (free_calls H11.up1).mono ?_
            rintro e w12 ⟨rfl, rfl⟩
            have hpc := HPC.out
            rw [← HPS.out] at hpc
            rw [← hpc]
            go_wp2
            go_ret
            exact ⟨rfl, H11.below⟩
          · have hx : (0 : Int) < (T.length : Nat) := by omega
            obtain ⟨b, rfl⟩ := H9.own_some (by omega)
            have hge := H9.own_ge
            have HTO := hid htook
            have hji : (j : Int) ≤ 200 := by omega
            have hTi : (T.length : Int) ≤ 200 := by omega
            clear htook
            go_upto_if 76 with (fail)
            go_cut [16] (fun v wx => ∃ q : Nat, v = .int .i64 q ∧ q < T.length ∧ wx = wr)
            case first =>
              by_cases hjn : j < n4
              · obtain ⟨ad, y, rfl, hy, _, ck⟩ := (HR4.out _).elemn H9 hjn
                have hj1 : (j : Int) < n4 := by omega
                have hwt := within_lt (k := y) (n := T.length) (by omega)
                have hwtc := fun w => within_calls (w := w) (k := y) (n := T.length) (by omega) (by omega)
                generalize within y T.length = q at *
                have HWT := hid hwtc
                clear hwtc hy
                go_wp2_with fail
                refine (HWT.out _).mono ?_
                rintro e w11 ⟨rfl, rfl⟩
                go_wp2
                go_meet
                case rel => exact ⟨q, rfl, hwt, rfl⟩
              · have hj1 : ¬ (j : Int) < n4 := by omega
                go_wp2
                go_meet
                case rel => exact ⟨0, rfl, by omega, rfl⟩
            case rest =>
              obtain ⟨q, rfl, hq, rfl⟩ := hcut
              obtain ⟨⟨g1, g2⟩, g3, g4⟩ := HTO.out.give hq
              have ck := H9.kcell hq rfl
              rw [gat_int hq] at ck
              have e1 : gvErr is (gat T q) = 0 := by unfold gvErr; rw [if_neg (by omega), if_neg g3]
              have e2 : gvIs is (gat T q) = is.set (gat T q).toNat true := by unfold gvIs; rw [e1, if_pos rfl]
              have e3 : gvErr (is.set (gat T q).toNat true) (gat T q) = 7 := by unfold gvErr; rw [List.length_set, if_neg (by omega), set_get (by omega), if_pos rfl, if_pos rfl]
              have e4 : gvIs (is.set (gat T q).toNat true) (gat T q) = is.set (gat T q).toNat true := by unfold gvIs; rw [e3, if_neg (by decide)]
              have hG1 := give_calls (x := gat T q) H9.up1
              rw [e1, e2] at hG1
              have hG2 := fun (W : World) (h : Sep w W (fun _ => False) (space gs (is.set (gat T q).toNat true) :: own 3 1 (some ⟨b, 0, none⟩) T.length ct (kv .i64 T) :: own 3 1 A5 ps.length c5 (kv .i64 ps) :: [])) => give_calls (x := gat T q) h
              rw [e3, e4] at hG2
              generalize is.set (gat T q).toNat true = js at *
              have hgx : T[q] = gat T q := gat_int hq
              generalize gat T q = x at *
              have HGX := hid hgx
              clear hgx
              have HG1 := hid hG1
              have HG2 := hid hG2
              have HTN := hid g4
              have hq1 : (q : Int) < T.length := by omega
              clear hG1 hG2 e1 e2 e3 e4 g1 g2 g3 g4 H9
              go_wp2_with fail
              refine HG1.out.mono ?_
              rintro e w11 ⟨rfl, H11⟩
              have ck2 : w11.cell? ⟨b, q, none⟩ = some (.int .i64 x) := by
                rw [H11.up1.kcell hq rfl, HGX.out]
              go_wp2_with fail
              refine (HG2.out _ H11).mono ?_
              rintro e w12 ⟨rfl, H12⟩
              clear ck ck2 HG1 HG2
              have H13 := H12.up1
              clear H11 H12
              obtain ⟨i, hi⟩ : ∃ i, i = q + 1 := ⟨_, rfl⟩
              obtain ⟨n, hn⟩ : ∃ n, n = T.length := ⟨_, rfl⟩
              obtain ⟨DA, hDA⟩ : ∃ DA : Option Addr, (if ct = i then some (⟨b, 0, none⟩ : Addr) else some ⟨b, i, none⟩) = DA := ⟨_, rfl⟩
              rw [← hn] at H13 hq hq1 hge hx hTi hT hjT ⊢
              have hi1 : (q : Int) + 1 = i := by omega
              have hi2 : IntKind.i64.wrap (i : Int) = i := by rw [IntKind.wrap_i64]; omega
              have hi3 : (i : Int) ≤ n := by omega
              have hi4 : (i : Int) ≤ ct := by omega
              have hi5 : (0 : Int) ≤ i := by omega
              have hi6 : (n : Int) ≤ ct := by omega
              have hi7 : ¬ i = 0 := by omega
              have hi8 : (0 : Int) ≤ q := by omega
              have hi9 : (q : Int) ≤ ct := by omega
              have hi10 : ¬ ct = 0 := by omega
              have H14 := H13.lit #[] 3 1 0 rfl (Nat.zero_le _)
              have hr1 := ((Rb.i1 (w0 := w) (O := fun _ => False) (a := own 3 1 (some ⟨w12.heap.size, 0, none⟩) 0 0 ((#[] : Array Value).toList)) (L := space gs js :: own 3 1 A5 ps.length c5 (kv .i64 ps) :: []) (e := 3) (size := 1) (A := some ⟨b, 0, none⟩) (n := n) (k := ct) (xs := kv .i64 T)).ktake (m := q) (by omega)).read H14
              have hr2 := fun (P : Asr) => (Rb.i1 (w0 := w) (O := fun _ => False) (a := P) (L := space gs js :: own 3 1 A5 ps.length c5 (kv .i64 ps) :: []) (e := 3) (size := 1) (A := some ⟨b, 0, none⟩) (n := n) (k := ct) (xs := kv .i64 T)).ktail hn.symm (j := i) (cap := ct) (by omega) (by omega)
              rw [show (some (⟨b, 0, none⟩ : Addr)).map (fun a => a.add i) = some ⟨b, i, none⟩ by simp [Addr.add, hi7], hDA] at hr2
              have HR2' := hid hr2
              have hp1 : 0 + q ≤ maxLen := by simp only [maxLen]; omega
              have hp2 : (0 + q) * 8 ≤ 140737488355328 := by omega
              have hp3 : q + (n - i) ≤ maxLen := by simp only [maxLen]; omega
              have hp4 : (q + (n - i)) * 8 ≤ 140737488355328 := by omega
              have hT2l : q + (n - i) = (T.take q ++ T.drop (q + 1)).length := by rw [List.length_append, List.length_take, List.length_drop, ← hn]; omega
              have hT2e : T.take q ++ T.drop i = T.take q ++ T.drop (q + 1) := by rw [hi]
              have HTL := hid hT2l
              have HTE := hid hT2e
              generalize T.take q ++ T.drop (q + 1) = T2 at *
              have hT2n : T2.length + 1 ≤ n := by omega
              clear hr2 hT2l hT2e hi hn
              go_upto_region 27 with (fail)
              go_region_held_law (fun _ => True) (trivial) (first
                | (refine step_append_sep rfl (.tmp 100) (.tmp 103) 22 rfl 3 i0 _ 1 8 Try.underlying22 hi0 hz0 hz1 hz2 rfl (by decide) rfl H14 rfl hr1 (kv_one .i64 _) hp1 hp2 (Nat.zero_add q) (List.nil_append _) ?_; intro A15 c15 w15 H15 hsz15; have hr3 := (HR2'.out _).read H15)
                | (refine step_append_sep rfl (.tmp 104) (.tmp 108) 22 rfl 3 i0 _ 1 8 Try.underlying22 hi0 hz0 hz1 hz2 rfl (by decide) rfl H15 rfl hr3 (kv_one .i64 _) hp3 hp4 HTL.out ((kv_append .i64 _ _).trans (congrArg (kv .i64) HTE.out)) ?_; intro A16 c16 w16 H16 hsz16))
              all_goals
                go_wp2
                go_roundw
                case rel => exact ⟨j + 1, c16, js, T2, A16, by omega, by omega, by go_num, rfl, HTN.out, H16.sel 4 [0, 2, 3]⟩
                case measure => simp [intOf]; omega
end Go.Proofs.Ytdblokglldalnaa
