/-
  The walk of TapePlays.
-/
import Derived.Test.YtkjlhifppjgieaaLaw01
import Derived.Test.YtkjlhifppjgieaaView
import Derived.Test.YtkjlhifppjgieaaSame
import Derived.Test.YtkjlhifppjgieaaRefAny
import Derived.Test.YtkjlhifppjgieaaPutAny
import Derived.Deep.DeepCutAuto
import Derived.Deep.CutBlock
namespace Go.Proofs.Ytkjlhifppjgieaa
open Go.RowKit
set_option linter.unusedVariables false
set_option linter.unusedSimpArgs false

theorem info_int : (Try.prog.info? 3).map (fun i => (i.zero, i.size, i.bytes)) = some (some (.int .i64 0), 1, 8) := by kernel_rfl

abbrev ActSh : Sh := .agg (.pair (.int .i64) (.pair (.int .i64) (.pair (.slice (.int .u8) 1) (.pair (.slice (.int .i64) 8) .unit))))

theorem sees_act {h : Array Obj} {cs : List Value} {x : Sh.V ActSh} (hs : Sees h ActSh cs x) :
    ∃ (B : Option Addr) (nb cb : Nat) (S : Option Addr) (ns cn : Nat), cs = [.int .i64 x.1, .int .i64 x.2.1, .slice B nb cb, .slice S ns cn] ∧
      Sees h (.slice (.int .u8) 1) [.slice B nb cb] x.2.2.1 ∧ Sees h (.slice (.int .i64) 8) [.slice S ns cn] x.2.2.2.1 ∧ (Lit.int .i64 x.1).wf = true ∧ (Lit.int .i64 x.2.1).wf = true := by
  obtain ⟨c1, c2, rfl, _, ⟨rfl, w1⟩, d1, d2, rfl, _, ⟨rfl, w2⟩, e1, e2, rfl, _, h3, f1, f2, rfl, _, h4, rfl⟩ := hs
  obtain ⟨B, cb, rfl, hB⟩ := h3
  obtain ⟨S, cn, rfl, hS⟩ := h4
  exact ⟨B, _, cb, S, _, cn, rfl, ⟨B, cb, rfl, hB⟩, ⟨S, cn, rfl, hS⟩, w1, w2⟩

/-- a row of calls, element by element -/
def Acts (h : Array Obj) (A : Option Addr) (n : Nat) (R : Nat → Nat) : Prop :=
  ∀ i, i < n → ∃ (ad : Addr) (B : Option Addr) (nb cb : Nat) (S : Option Addr) (ns cn : Nat) (what m : Int) (lb ls : List Int), A = some ad ∧
    cellH h (ad.add (i * 4)) = some (.int .i64 what) ∧ cellH h (ad.add (i * 4 + 1)) = some (.int .i64 m) ∧ cellH h (ad.add (i * 4 + 2)) = some (.slice B nb cb) ∧ cellH h (ad.add (i * 4 + 3)) = some (.slice S ns cn) ∧
    nb = lb.length ∧ ns = ls.length ∧ Rd h (fun b => b < h.size) 1 B nb (by8 lb) ∧ Rd h (fun b => b < h.size) 1 S ns (iv ls) ∧ nb ≤ cb ∧ ns ≤ cn ∧ Byt lb ∧ R i = lb.length + ls.length + R (i + 1)

theorem bulk_ints (k : IntKind) (l : List Int) : (List.map (bulk (.int k)) l).sum = l.length := by
  induction l with
  | nil => rfl
  | cons x l ih => rw [List.map_cons, List.sum_cons, ih, List.length_cons]; show 1 + _ = _; omega

theorem sees_acts {h : Array Obj} {A : Option Addr} {n c : Nat} {x : Sh.V (.slice ActSh 64)} (hs : Sees h (.slice ActSh 64) [.slice A n c] x) (hb : bulk (.slice ActSh 64) x ≤ 1048576) :
    n ≤ c ∧ c ≤ maxLen ∧ ∃ R, R 0 ≤ 1048576 ∧ Acts h A n R := by
  obtain ⟨A', c', hc, h1, h2, h3⟩ := hs
  simp only [List.cons.injEq, and_true, Value.slice.injEq] at hc
  obtain ⟨rfl, rfl, rfl⟩ := hc
  refine ⟨h1, h2, fun i => (List.map (bulk ActSh) (List.drop i x)).sum - 5 * (List.length x - i), ?_, fun i hi => ?_⟩
  · have : bulk (.slice ActSh 64) x = (List.map (bulk ActSh) x).sum + 1 := rfl
    simp only [List.drop_zero]; omega
  obtain ⟨ad, hA, hx⟩ := h3 (by omega)
  have hy : x[i]? = some x[i] := List.getElem?_eq_getElem hi
  have hd : List.drop i x = x[i] :: List.drop (i + 1) x := List.drop_eq_getElem_cons hi
  have hge : ∀ l : List (Sh.V ActSh), 5 * l.length ≤ (List.map (bulk ActSh) l).sum := by
    intro l
    induction l with
    | nil => exact Nat.le_refl _
    | cons z l ih =>
      obtain ⟨z1, z2, z3, z4, z5⟩ := z
      have e : bulk ActSh (z1, z2, z3, z4, z5) = 1 + (1 + ((List.map (bulk (.int .u8)) z3).sum + 1 + ((List.map (bulk (.int .i64)) z4).sum + 1 + 0))) + 1 := rfl
      rw [List.map_cons, List.sum_cons, List.length_cons, e]
      omega
  have hg := hge (List.drop (i + 1) x)
  rw [List.length_drop] at hg
  generalize x[i] = y at *
  obtain ⟨cs', _, hcell, hse⟩ := hx i y hy
  obtain ⟨B, nb, cb, S, ns, cn, rfl, s1, s2, _, _⟩ := sees_act hse
  obtain ⟨y1, y2, y3, y4, y5⟩ := y
  obtain ⟨a1, a2, a3, a4, a5⟩ := sees_ints s1
  obtain ⟨b1, b2, b3, b4, b5⟩ := sees_ints s2
  have e : bulk ActSh (y1, y2, y3, y4, y5) = 1 + (1 + ((List.map (bulk (.int .u8)) y3).sum + 1 + ((List.map (bulk (.int .i64)) y4).sum + 1 + 0))) + 1 := rfl
  rw [bulk_ints, bulk_ints] at e
  refine ⟨ad, B, nb, cb, S, ns, cn, y1, y2, y3, y4, hA, hcell 0 _ rfl, hcell 1 _ rfl, hcell 2 _ rfl, hcell 3 _ rfl, a1, b1, a2, b2, a3, b3, kv_byt a5, ?_⟩
  show (List.map (bulk ActSh) (List.drop i x)).sum - 5 * (List.length x - i) = List.length y3 + List.length y4 + ((List.map (bulk ActSh) (List.drop (i + 1) x)).sum - 5 * (List.length x - (i + 1)))
  rw [hd, List.map_cons, List.sum_cons, e]
  omega

theorem Sep.cell_old {w0 w : World} {L : List Asr} (HS : Sep w0 w (fun _ => False) L) {a : Addr} {v : Value} (h : cellH w0.heap a = some v) : w.cell? a = some v :=
  (cellH_same (HS.old _ (cellH_lt h) (fun e => e))).trans h

set_option maxHeartbeats 4000000 in
set_option maxRecDepth 100000 in
theorem tapePlays_walk (A0 : Option Addr) (n0 c0 : Nat) (x0 : Sh.V (.slice (.agg (.pair (.int .i64) (.pair (.int .i64) (.pair (.slice (.int .u8) 1) (.pair (.slice (.int .i64) 8) .unit))))) 64)) (w : World) (s0 : Sees w.heap (.slice (.agg (.pair (.int .i64) (.pair (.int .i64) (.pair (.slice (.int .u8) 1) (.pair (.slice (.int .i64) 8) .unit))))) 64) [.slice A0 n0 c0] x0) (hsum : bulk (.slice (.agg (.pair (.int .i64) (.pair (.int .i64) (.pair (.slice (.int .u8) 1) (.pair (.slice (.int .i64) 8) .unit))))) 64) x0 ≤ 1048576) :
    Calls Try.prog 7 #[.slice A0 n0 c0] w fun e w' => e = .returned (.bool true) ∧ Below w.heap.size w w' := by
  obtain ⟨i0, hi0, hz0, hz1, hz2⟩ := info_parts info_u8
  obtain ⟨hc0, hm0, R, hR, hel⟩ := sees_acts s0 hsum
  have HEL := hid hel
  simp only [maxLen] at hm0
  clear hel s0 hsum
  have HS := Sep.start w
  go_enter Try.func7, Try.ntmps7
  go_wp2_with fail
  refine (new_calls HS).mono ?_
  rintro e w1 ⟨g, rfl, HS1⟩
  have HSa : Sep w (w1.alloc (.cells #[.slice none 0 0] 50)) (fun _ => False) (rtape w1.heap.size [] :: tape g [] :: []) := (((HS1.alloc #[.slice none 0 0] 50).nil 5 1).up1).tape rfl rfl
  clear HS HS1
  go_wp2_with fail
  refine (awake_calls HSa).mono ?_
  rintro e w2 ⟨rfl, HS2⟩
  clear HSa
  generalize w1.heap.size = gr at *
  go_wp2
  go_loopw [31] (fun i wr => ∃ (k : Nat) (l : List Int), i = .int .i64 k ∧ k ≤ n0 ∧ l.length + R k ≤ 1048576 ∧ Aside (Byt l) ∧ Sep w wr (fun _ => False) (rtape gr l :: tape g l :: [])) (fun i _ => n0 - (intOf i).toNat)
  case atStart => exact ⟨0, [], rfl, Nat.zero_le _, by simpa using hR, ⟨fun x hx => by cases hx⟩, HS2⟩
  case round =>
    obtain ⟨k, l, rfl, hk, HB, HL, HS3⟩ := hrel
    by_cases hlt : k < n0
    · obtain ⟨ad, B, nb, cb, S, ns, cn, what, m, lb, ls, rfl, e0, e1, e2, e3, hnb, hns, hrb, hrs, hcb, hcn, hlb, hRk⟩ := HEL.out k hlt
      have f0 := HS3.cell_old e0
      rw [← add_add] at e1
      have f1 : wr.cell? ⟨(ad.add (k * 4)).block, (ad.add (k * 4)).off + 1, none⟩ = _ := HS3.cell_old e1
      rw [← add_add] at e2
      have f2 : wr.cell? ⟨(ad.add (k * 4)).block, (ad.add (k * 4)).off + 2, none⟩ = _ := HS3.cell_old e2
      rw [← add_add] at e3
      have f3 : wr.cell? ⟨(ad.add (k * 4)).block, (ad.add (k * 4)).off + 3, none⟩ = _ := HS3.cell_old e3
      have HRB := hid (fun L => Rb.came (L := L) hrb)
      have HRS := hid (fun L => Rb.came (L := L) hrs)
      have HNB := hid hnb; have HNS := hid hns; have HLB := hid hlb
      clear e0 e1 e2 e3 hrb hrs hnb hns hlb
      have hnb : nb ≤ 1048576 := by have := HNB.out; omega
      have hns : ns ≤ 1048576 := by have := HNS.out; omega
      by_cases h300t : ((k : Int) == 300) = true
      · have HA := hid (askL_all true l)
        have HLL := (HS3.alloc_ (.cells #[.int .i64 what, .int .i64 m, .slice B nb cb, .slice S ns cn] 52)).up1
        have hlb : l.length ≤ 1048576 := by omega
        clear HS3
        go_wp2_with fail
        refine (len_calls HLL).mono ?_
        rintro e w4 ⟨rfl, rfl⟩
        go_wp2_with fail
        refine (take_any HLL (by omega)).mono ?_
        rintro e w5 ⟨A5, c5, rfl, HS5⟩
        rw [HA.out.1]
        rw [HA.out.2] at HS5 ⊢
        obtain ⟨At, ct, HS6⟩ := HS5.up2.untape
        have hcr := HS6.blk_at 0 rfl
        go_wp2_with fail
        refine (equal_calls HS6 Rb.i2 Rb.i1 HL.out HL.out).mono ?_
        rintro e w6 ⟨rfl, rfl⟩
        rw [decide_eq_true (rfl : l = l)]
        go_wp2
        go_ret
        exact ⟨rfl, HS6.below⟩
      have h300' : ((k : Int) == 300) = false := by simpa using h300t
      clear h300t
      have HSb := HS3.alloc #[.int .i64 what, .int .i64 m, .slice B nb cb, .slice S ns cn] 52
      go_upto_block 2 with fail
      go_cut [7, 8, 9, 10] (fun x y ok is wx => ∃ (d l' : List Int) (b : Bool) (A A' : Option Addr) (c c' : Nat), x = .slice A d.length c ∧ y = .slice A' d.length c' ∧ ok = .bool b ∧ is = .bool b ∧ l'.length + R (k + 1) ≤ 1048576 ∧ Byt l' ∧ Byt d ∧ d.length ≤ 1048576 ∧
        Sep w wx (fun _ => False) (own 5 1 A d.length c (by8 d) :: own 5 1 A' d.length c' (by8 d) :: tape g l' :: rtape gr l' :: []))
      case first =>
        by_cases q0 : what = 0
        · subst q0
          have HL0 := HSb.litB #[] 5 1 0 rfl (Nat.zero_le _) (B := wr.heap.size + 1) (by simp)
          have hrd0 := (HRB.out _).read HL0
          have g2 := HL0.up1.blk_at 2 rfl
          go_wp2_with (at_builtin; go_loud (refine wpList_append_sep rfl (.tmp 42) (.tmp 44) 22 rfl 5 i0 _ 1 1 Try.underlying22 hi0 hz0 hz1 hz2 rfl (by decide) rfl HL0 rfl hrd0 (kv_one _ _) (by simp only [maxLen]; omega) (by omega) (Nat.zero_add _) rfl ?_); intro A1 c1 w4 HS4 hsz4)
          rw [show ([] ++ by8 lb : List Value) = by8 lb from rfl] at HS4
          clear HL0 hrd0 g2
          go_wp2_with fail
          refine (push_calls HS4.up3 Rb.i0 (by omega)).mono ?_
          rintro e w5 ⟨rfl, HS5⟩
          have k2 := HS5.up2.blk_at 2 rfl
          clear HS4
          go_wp2_with fail
          refine (rpush_calls (m := lb) HS5.up3 (HRB.out _) (by omega)).mono ?_
          rintro e w6 ⟨rfl, HS6⟩
          clear HS5 k2
          have HS7 := HS6.sel 4 [2, 1, 0]
          have HS8 : Sep w w6 (fun _ => False) (own 5 1 A1 nb c1 (by8 lb) :: tape g (l ++ lb) :: rtape gr (l ++ lb) :: []) := HS7
          clear HS6 HS7
          go_wp2
          go_loopw [55] (fun i wr' => ∃ (j : Nat) (l'' : List Int), j ≤ nb ∧ i = .int .i64 j ∧ l''.length = nb ∧ Sep w wr' (fun _ => False) (own 5 1 A1 nb c1 (by8 l'') :: tape g (l ++ lb) :: rtape gr (l ++ lb) :: [])) (fun i _ => nb - (intOf i).toNat)
          case atStart => exact ⟨0, lb, Nat.zero_le _, rfl, HNB.out.symm, HS8⟩
          case round =>
            obtain ⟨j, l'', hj, rfl, hl'', HS9⟩ := hrel
            by_cases hlt' : j < nb
            · obtain ⟨g3, rfl⟩ := HS9.own_some (by omega)
              have hcell := HS9.kcell (j := j) (by omega) hl''
              have hfr := HS9.own_frozen j
              generalize l''[j]'(by omega) = y at *
              have HL' := hid hl''
              clear hl''
              go_wp2
              go_roundw
              case rel => exact ⟨j + 1, l''.set j (bits .xor .u8 y 255), by omega, by go_num, by rw [List.length_set]; exact HL'.out, by have := HS9.own_set j (.int .u8 (bits .xor .u8 y 255)); rwa [kv_set] at this⟩
              case measure => simp [intOf]; omega
            · go_wp2
              go_meet
              case rel => exact ⟨[], l ++ lb, false, none, none, 0, 0, rfl, rfl, rfl, rfl, by rw [List.length_append]; omega, HL.out.append HLB.out, (by intro x hx; cases hx), Nat.zero_le _, (HS9.drop.nil _ _).nil _ _⟩
        by_cases q1 : what = 1
        · subst q1
          go_wp2_with fail
          refine (peek_any (m := m) HSb.up2 (by omega)).mono ?_
          rintro e w4 ⟨A4, c4, rfl, HS4⟩
          have k1 := HS4.up2.blk_at 1 rfl
          go_wp2_with fail
          refine (rpeek_any (m := m) HS4.up3 (by omega)).mono ?_
          rintro e w5 ⟨A5, c5, rfl, HS5⟩
          go_wp2
          go_meet
          case rel => exact ⟨_, _, _, A4, A5, c4, c5, rfl, rfl, rfl, rfl, by have := askL_len false l m; omega, (askL_byt false HL.out m).1, (askL_byt false HL.out m).2, by have := askL_dlen false l m; omega, HS5.sel 5 [2, 0, 3, 1]⟩
        by_cases q2 : what = 2
        · subst q2
          go_wp2_with fail
          refine (take_any (m := m) HSb.up2 (by omega)).mono ?_
          rintro e w4 ⟨A4, c4, rfl, HS4⟩
          have k1 := HS4.up2.blk_at 1 rfl
          go_wp2_with fail
          refine (rtake_any (m := m) HS4.up3 (by omega)).mono ?_
          rintro e w5 ⟨A5, c5, rfl, HS5⟩
          go_wp2
          go_meet
          case rel => exact ⟨_, _, _, A4, A5, c4, c5, rfl, rfl, rfl, rfl, by have := askL_len true l m; omega, (askL_byt true HL.out m).1, (askL_byt true HL.out m).2, by have := askL_dlen true l m; omega, HS5.sel 5 [2, 0, 3, 1]⟩
        by_cases q3 : what = 3 ∨ what = 4
        · obtain ⟨j0, hj0, gz0, gz1, gz2⟩ := info_parts info_int
          have HL0 := HSb.litB #[] 3 1 0 rfl (Nat.zero_le _) (B := wr.heap.size + 1) (by simp)
          have hrd0 := (HRS.out _).read HL0
          have g3 := HL0.up1.blk_at 3 rfl
          have g0 := HL0.up1.blk_at 0 rfl
          rcases q3 with rfl | rfl
          all_goals
            go_wp2_with (at_builtin; refine wpList_append_sep rfl (.tmp 100) (.tmp 102) 34 rfl 3 j0 _ 1 8 Try.underlying34 hj0 gz0 gz1 gz2 rfl (by decide) rfl HL0 rfl hrd0 (kv_one _ _) (by simp only [maxLen]; omega) (by omega) (Nat.zero_add _) rfl ?_; intro A1 c1 w4 HS4 hsz4; have k0 := HS4.up1.blk_at 0 rfl)
            rw [show ([] ++ iv ls : List Value) = iv ls from rfl] at HS4
            clear HL0 hrd0 g3 g0
            go_wp2_with fail
            refine (numbers_any HS4.up3 Rb.i0 (by omega) HL.out (by omega)).mono ?_
            rintro e w5 ⟨A5, c5, rfl, HS5⟩
            clear HS4 k0
            have k0 := HS5.up3.blk_at 0 rfl
            have k3 := HS5.up3.blk_at 3 rfl
            go_wp2_with fail
            refine (rnumbers_any HS5.up4 (HRS.out _) (by omega) HL.out (by omega)).mono ?_
            rintro e w6 ⟨A6, c6, rfl, HS6⟩
            clear HS5 k0
            have k3 := HS6.up5.blk_at 3 rfl
            have HSN := hid HS6
            go_wp2
            go_loopw [125] (fun i wr' => ∃ (j q : Nat), j ≤ ns ∧ i = .int .i64 j ∧ wr' = w6.drewN q) (fun i _ => ns - (intOf i).toNat)
            case atStart => exact ⟨0, 0, Nat.zero_le _, rfl, rfl⟩
            case round =>
              obtain ⟨j, q, hj, rfl, rfl⟩ := hrel
              by_cases hlt' : j < ns
              · obtain ⟨sd, x, rfl, hx, _, hcx⟩ := (HRS.out _).elemn HSN.out hlt'
                obtain ⟨g3, rfl⟩ := HSN.out.up4.own_some (by omega)
                have hcy := (HSN.out.up4.own_cell (j := j) hlt').trans (show (iv ls)[j]? = some (.int .i64 x) by simp [kv, hx])
                have hxx : (!(x == x)) = false := by simp
                clear hx
                go_wp2_with fail
                go_quiet (fail)
                go_wp2
                go_roundw
                case rel => exact ⟨j + 1, q + nq, by omega, by go_num, rfl⟩
                case measure => simp [intOf]; omega
              · obtain rfl : j = ns := by omega
                go_wp2_with fail
                refine (same_calls (HSN.out.drewN q) Rb.i2 Rb.i0 (by have h1 := numL_dlen true l ls; have h2 := numL_dlen false l ls; have := HNS.out; omega) (own_le HSN.out.up2) (own_le HSN.out)).mono ?_
                rintro e w7 ⟨rfl, q2, rfl⟩
                go_wp2
                go_meet
                case rel => exact ⟨[], _, _, none, none, 0, 0, rfl, rfl, rfl, rfl, by first | (have := numL_len true l ls; omega) | (have := numL_len false l ls; omega), by first | exact numL_byt true HL.out ls | exact numL_byt false HL.out ls, (by intro x hx; cases hx), Nat.zero_le _, (((HSN.out.sel 6 [3, 1]).drewN _).nil _ _).nil _ _⟩
        · have q3' : ¬ what = 3 := fun h => q3 (.inl h)
          have q4' : ¬ what = 4 := fun h => q3 (.inr h)
          have r0 : (what == 0) = false := beq_eq_false_iff_ne.2 q0
          have r1 : (what == 1) = false := beq_eq_false_iff_ne.2 q1
          have r2 : (what == 2) = false := beq_eq_false_iff_ne.2 q2
          have r3 : (what == 3) = false := beq_eq_false_iff_ne.2 q3'
          have r4 : (what == 4) = false := beq_eq_false_iff_ne.2 q4'
          clear q0 q1 q2 q3 q3' q4'
          go_wp2
          go_meet
          case rel => exact ⟨[], l, false, none, none, 0, 0, rfl, rfl, rfl, rfl, by omega, HL.out, (by intro x hx; cases hx), Nat.zero_le _, (((HSb.drop).up1.nil _ _).nil _ _)⟩
      case rest =>
        obtain ⟨d, l', b, A4, A5, c4, c5, rfl, rfl, rfl, rfl, hl', hbl', hbd, hld, HS4⟩ := hcut
        obtain ⟨At, ct, HS5⟩ := HS4.up3.untape
        have hcr := HS5.blk_at 0 rfl
        have hbb : (!(b == b)) = false := by cases b <;> rfl
        have hll : (!((l'.length : Int) == (l'.length : Int))) = false := by simp
        go_wp2_with fail
        go_quiet (first
          | (go_at_call 21; refine Calls.quiet_of_same ((equal_calls (HS4.drewN _) Rb.i0 Rb.i1 hbd hbd).mono fun _ _ ⟨he, hw⟩ => ⟨he, hw.symm⟩))
          | (go_at_call 18; refine Calls.quiet_of_same ((len_calls (HS4.drewN _).up2).mono fun _ _ ⟨he, hw⟩ => ⟨he, hw.symm⟩)))
        clear hcr hll HS5
        go_wp2
        go_loopw [164] (fun i wr' => ∃ (j : Nat) (l'' : List Int), j ≤ d.length ∧ i = .int .i64 j ∧ l''.length = d.length ∧ Sep w wr' (fun _ => False) (own 5 1 A4 d.length c4 (by8 l'') :: own 5 1 A5 d.length c5 (by8 d) :: tape g l' :: rtape gr l' :: [])) (fun i _ => d.length - (intOf i).toNat)
        case atStart => exact ⟨0, d, Nat.zero_le _, rfl, rfl, HS4⟩
        case round =>
          obtain ⟨j, l'', hj, rfl, hl'', HS9⟩ := hrel
          by_cases hlt' : j < d.length
          · obtain ⟨g3, rfl⟩ := HS9.own_some (by omega)
            have hcell := HS9.kcell (j := j) (by omega) hl''
            have hfr := HS9.own_frozen j
            generalize l''[j]'(by omega) = y at *
            have HL' := hid hl''
            clear hl''
            go_wp2
            go_roundw
            case rel => exact ⟨j + 1, l''.set j (bits .xor .u8 y 255), by omega, by go_num, by rw [List.length_set]; exact HL'.out, by have := HS9.own_set j (.int .u8 (bits .xor .u8 y 255)); rwa [kv_set] at this⟩
            case measure => simp [intOf]; omega
          · go_wp2
            go_roundw
            case rel => exact ⟨k + 1, l', by go_num, by omega, hl', ⟨hbl'⟩, (HS9.drop.drop).up1⟩
            case measure => simp [intOf]; omega
    · obtain rfl : k = n0 := by omega
      have HA := hid (askL_all true l)
      have HLL := HS3.up1
      have hlb : l.length ≤ 1048576 := by omega
      clear HS3
      go_wp2_with fail
      refine (len_calls HLL).mono ?_
      rintro e w4 ⟨rfl, rfl⟩
      go_wp2_with fail
      refine (take_any HLL (by omega)).mono ?_
      rintro e w5 ⟨A5, c5, rfl, HS5⟩
      rw [HA.out.1]
      rw [HA.out.2] at HS5 ⊢
      obtain ⟨At, ct, HS6⟩ := HS5.up2.untape
      have hcr := HS6.blk_at 0 rfl
      go_wp2_with fail
      refine (equal_calls HS6 Rb.i2 Rb.i1 HL.out HL.out).mono ?_
      rintro e w6 ⟨rfl, rfl⟩
      rw [decide_eq_true (rfl : l = l)]
      go_wp2
      go_ret
      exact ⟨rfl, HS6.below⟩
end Go.Proofs.Ytkjlhifppjgieaa
