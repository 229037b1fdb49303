/-
  The document's queue (cisternref26): what it holds; Of, Drop, TakeAt.
-/
import Derived.Test.YtkdoocgjagpcbaaQueueT
import Derived.Deep.WholeRow
namespace Go.Proofs.Ytkdoocgjagpcbaa
open Go.RowKit
set_option linter.unusedVariables false
set_option linter.unusedSimpArgs false
def dcs (h : Hd) : List Value := [.int .i64 h.flow, .int .i64 h.cost, .int .u64 h.id, .int .i64 h.tag]
def dv (l : List Hd) : List Value := l.flatMap dcs
theorem dv_get (l : List Hd) : ∀ (i j : Nat), j < 4 → (dv l)[i * 4 + j]? = (l[i]?).bind fun x => (dcs x)[j]? := by
  induction l with
  | nil => intro i j _; simp [dv]
  | cons x l ih =>
    intro i j hj
    rw [show dv (x :: l) = dcs x ++ dv l from rfl]
    cases i with
    | zero =>
      rw [Nat.zero_mul, Nat.zero_add, List.getElem?_append_left (by simpa [dcs] using hj)]
      simp
    | succ i =>
      rw [List.getElem?_append_right (by simp [dcs]; omega), show (i + 1) * 4 + j - (dcs x).length = i * 4 + j by simp [dcs]; omega, ih i j hj]
      simp
theorem dv_one (l : List Hd) : ∀ u ∈ dv l, u.oneCell' = true := by
  intro u hu
  obtain ⟨x, _, hx⟩ := List.mem_flatMap.1 hu
  simp only [dcs, List.mem_cons, List.not_mem_nil, or_false] at hx
  rcases hx with rfl | rfl | rfl | rfl <;> rfl
theorem info_ditem : (Try.prog.info? 52).map (fun i => (i.zero, i.size, i.bytes)) = some (some (.agg #[.int .i64 0, .int .i64 0, .int .u64 0, .int .i64 0]), 4, 32) := by kernel_rfl
theorem info_dit : (Try.prog.info? 52).map (·.size) = some 4 := by kernel_rfl
/-- the cells of the document's queue -/
def dq (v : Value) (t : Int) (l : List Int) : Array Value := (v :: .int .i64 t :: kv .i64 l).toArray
section
variable {t : Int} {l : List Int} {v : Value}
theorem dq_l (hl : l.length = 8) {f : Nat} (hf : f < 8) : (dq v t l)[2 + f]? = some (.int .i64 (gat l f)) := by
  obtain ⟨a0, a1, a2, a3, a4, a5, a6, a7, rfl⟩ := list8 hl
  rcases (show f = 0 ∨ f = 1 ∨ f = 2 ∨ f = 3 ∨ f = 4 ∨ f = 5 ∨ f = 6 ∨ f = 7 by omega) with rfl | rfl | rfl | rfl | rfl | rfl | rfl | rfl <;> rfl
theorem dq_sv (u : Value) : (dq v t l).setIfInBounds 0 u = dq u t l := by simp [dq]
theorem dq_st (x : Int) : (dq v t l).setIfInBounds 1 (.int .i64 x) = dq v x l := by simp [dq]
theorem dq_sl (hl : l.length = 8) {f : Nat} (hf : f < 8) (x : Int) : (dq v t l).setIfInBounds (2 + f) (.int .i64 x) = dq v t (l.set f x) := by
  obtain ⟨a0, a1, a2, a3, a4, a5, a6, a7, rfl⟩ := list8 hl
  rcases (show f = 0 ∨ f = 1 ∨ f = 2 ∨ f = 3 ∨ f = 4 ∨ f = 5 ∨ f = 6 ∨ f = 7 by omega) with rfl | rfl | rfl | rfl | rfl | rfl | rfl | rfl <;> rfl
end
def docQ (g : Nat) (q : Qu) : Asr := ex fun A => ex fun c => star (own 52 4 A q.S.length c (dv q.S)) (blk g 49 (dq (.slice A q.S.length c) q.time q.last))
section
variable {w0 w : World} {O : Nat → Prop} {L : List Asr} {g b : Nat} {q : Qu}
theorem Sep.undocQ (h : Sep w0 w O (docQ g q :: L)) : ∃ A c, Sep w0 w O (own 52 4 A q.S.length c (dv q.S) :: blk g 49 (dq (.slice A q.S.length c) q.time q.last) :: L) := by
  obtain ⟨A, h⟩ := h.unex
  obtain ⟨c, h⟩ := h.unex
  exact ⟨A, c, h.unstar⟩
theorem Sep.docedQ {A : Option Addr} {c n : Nat} {S : List Hd} (hS : S = q.S) (hn : n = q.S.length) (h : Sep w0 w O (own 52 4 A n c (dv S) :: blk g 49 (dq (.slice A n c) q.time q.last) :: L)) : Sep w0 w O (docQ g q :: L) := by
  subst hn; subst hS
  exact Sep.ex A (Sep.ex c h.star)
theorem Sep.dcell {e : TypeId} {g n c : Nat} {l : List Hd} (h : Sep w0 w O (own e 4 (some ⟨g, 0, none⟩) n c (dv l) :: L)) {i : Nat} (hi : i < l.length) (hn : l.length = n) (k : Nat) {v : Value} (hk : (dcs (gat l i))[k]? = some v) : w.cell? ⟨g, i * 4 + k, none⟩ = some v := by
  have hk5 : k < 4 := by
    rcases Nat.lt_or_ge k 4 with h | h
    · exact h
    · rw [List.getElem?_eq_none (by simpa [dcs] using h)] at hk; cases hk
  have := h.own_row.cellAt (i * 4 + k) (by omega)
  rw [this, dv_get _ _ _ hk5, gat_get hi]
  exact hk
theorem cnt_more {S : List Hd} {k : Nat} {f : Int} (hk : k < S.length) : cntF (S.take (k + 1)) f = cntF (S.take k) f + if (gat S k).flow = f then 1 else 0 := by
  rw [List.take_add_one, gat_get hk]
  unfold cntF
  rw [List.countP_append]
  by_cases h : (gat S k).flow = f
  · simp [h]
  · simp [h]

set_option maxHeartbeats 1000000 in
theorem dof_calls {f : Int} (HS : Sep w0 w O (docQ g q :: L)) (hn : q.S.length ≤ 1024) : Calls Try.prog 33 #[.pointer (some ⟨g, 0, none⟩), .int .i64 f] w fun e w' => e = .returned (.int .i64 (cntF q.S f)) ∧ w' = w := by
  obtain ⟨A, c, H⟩ := HS.undocQ
  have b0 := H.up1.blkAt (v := .slice A q.S.length c) 0 rfl
  obtain ⟨N, hN⟩ : ∃ N, N = q.S.length := ⟨_, rfl⟩
  have HN := hid hN
  rw [← hN] at H b0 hn
  clear hN HS
  go_enter Try.func33, Try.ntmps33
  go_wp2
  go_loopw [5, 6] (fun u v wr => ∃ k m : Nat, u = .int .i64 m ∧ v = .int .i64 k ∧ k ≤ N ∧ m ≤ k ∧ Aside (m = cntF (q.S.take k) f) ∧ wr = w) (fun _ v _ => N - (intOf v).toNat)
  case atStart => exact ⟨0, 0, rfl, rfl, Nat.zero_le _, Nat.le_refl _, ⟨by simp [cntF]⟩, rfl⟩
  case round =>
    obtain ⟨k, m, rfl, rfl, hk, hmk, hm, rfl⟩ := hrel
    by_cases hlt : k < N
    · have hk1 : (k : Int) < N := by omega
      have hkx : k < q.S.length := by have := HN.out; omega
      obtain ⟨a, rfl⟩ := H.own_some (by omega)
      obtain ⟨x, hx⟩ : ∃ x, x = gat q.S k := ⟨_, rfl⟩
      have c0 : wr.cell? ⟨a, k * 4, none⟩ = some (.int .i64 x.flow) := H.dcell hkx HN.out.symm 0 (by rw [← hx]; rfl)
      have hcm := cnt_more (f := f) hkx
      rw [← hx, ← hm.out] at hcm
      clear hx hkx
      by_cases hf : x.flow = f
      · rw [if_pos hf] at hcm
        rw [hf] at c0
        have HCM := hid hcm
        clear hcm hf
        go_wp2
        go_roundw
        case rel => exact ⟨k + 1, m + 1, by go_num, by go_num, by omega, by omega, ⟨HCM.out.symm⟩, by trivial⟩
        case measure => simp [intOf]; omega
      · rw [if_neg hf] at hcm
        have hb : (x.flow == f) = false := beq_eq_false_iff_ne.2 hf
        have HCM := hid hcm
        clear hcm hf
        go_wp2
        go_roundw
        case rel => exact ⟨k + 1, m, rfl, by go_num, by omega, by omega, ⟨HCM.out.symm⟩, by trivial⟩
        case measure => simp [intOf]; omega
    · obtain rfl : k = N := by omega
      have hk1 : ¬ (k : Int) < k := by omega
      go_wp2
      go_ret
      exact ⟨by rw [hm.out, List.take_of_length_le (by have := HN.out; omega)]; rfl, rfl⟩

set_option maxHeartbeats 2000000 in
set_option maxRecDepth 10000 in
theorem ddrop_calls {f : Int} (HS : Sep w0 w O (docQ g q :: L)) (hok : QuOk b q) : Calls Try.prog 22 #[.pointer (some ⟨g, 0, none⟩), .int .i64 f] w fun e w' => e = .returned (.int .i64 (ofQ q f)) ∧ Sep w0 w' O (docQ g (drQ q f) :: L) := by
  obtain ⟨i0, hi0, hz0, hz1, hz2⟩ := info_parts info_ditem
  by_cases hbad : f < 0 ∨ 8 ≤ f
  · have e1 : ofQ q f = 0 := by unfold ofQ; rw [if_pos hbad]
    have e2 : drQ q f = q := by unfold drQ; rw [if_pos hbad]
    rw [e1, e2]
    have HBD := hid hbad
    clear e1 e2 hbad hok
    by_cases h0 : f < 0
    · go_enter Try.func22, Try.ntmps22
      go_wp2
      go_ret
      exact ⟨rfl, HS⟩
    · have h1 : 7 < f := by have := HBD.out; omega
      go_enter Try.func22, Try.ntmps22
      go_wp2
      go_ret
      exact ⟨rfl, HS⟩
  · have e2 : drQ q f = ⟨q.time, q.n, q.last.set f.toNat 0, q.S.filter fun h => !(h.flow == f)⟩ := by unfold drQ; rw [if_neg hbad]
    have e1 : ofQ q f = cntF q.S f := by unfold ofQ; rw [if_neg hbad]
    rw [e1, e2]
    obtain ⟨k, rfl⟩ := Int.eq_ofNat_of_zero_le (show 0 ≤ f by omega)
    rw [Int.toNat_natCast]
    have hk : k < 8 := by omega
    have hk0 : ¬ (k : Int) < 0 := by omega
    have hk1 : (k : Int) < 8 := by omega
    have hk2 : ¬ 7 < (k : Int) := by omega
    have hsm := hok.small
    have HLL := hid hok.len
    have hO := dof_calls (f := (k : Int)) HS (by omega)
    generalize cntF q.S k = m at *
    obtain ⟨A, c, H⟩ := HS.undocQ
    obtain ⟨N, hN⟩ : ∃ N, N = q.S.length := ⟨_, rfl⟩
    have HN := hid hN
    rw [← hN] at H hsm
    have H0 := H.nil 52 4
    clear e1 e2 hbad hok hN HS
    go_enter Try.func22, Try.ntmps22
    go_wp2_with fail
    refine hO.mono ?_
    rintro e w' ⟨rfl, hw'⟩
    obtain rfl := hw'.symm
    clear hO hw' H
    go_wp2
    go_loopw [6, 7] (fun v i wr => ∃ (j n ck : Nat) (Q : Option Addr) (zs : List Hd), j ≤ N ∧ n ≤ j ∧ v = .slice Q n ck ∧ i = .int .i64 j ∧ Aside (zs = (q.S.take j).filter (fun h => !(h.flow == (k : Int))) ∧ zs.length = n) ∧ Sep w0 wr O (own 52 4 Q n ck (dv zs) :: own 52 4 A N c (dv q.S) :: blk g 49 (dq (.slice A N c) q.time q.last) :: L)) (fun _ i _ => N - (intOf i).toNat)
    case atStart => exact ⟨0, 0, 0, none, [], Nat.zero_le _, Nat.le_refl _, rfl, rfl, ⟨by simp, rfl⟩, H0⟩
    case round =>
      obtain ⟨j, n, ck, Q, zs, hj, hnj, rfl, rfl, HZ, H2⟩ := hrel
      clear H0
      have b0 := H2.up2.blkAt (v := .slice A N c) 0 rfl
      by_cases hlt : j < N
      · have hj1 : (j : Int) < N := by omega
        have hjx : j < q.S.length := by have := HN.out; omega
        obtain ⟨a, rfl⟩ := H2.up1.own_some (by omega)
        obtain ⟨x, hx⟩ : ∃ x, x = gat q.S j := ⟨_, rfl⟩
        have c0 : wr.cell? ⟨a, j * 4, none⟩ = some (.int .i64 x.flow) := H2.up1.dcell hjx HN.out.symm 0 (by rw [← hx]; rfl)
        have c1 : wr.cell? ⟨a, j * 4 + 1, none⟩ = some (.int .i64 x.cost) := H2.up1.dcell hjx HN.out.symm 1 (by rw [← hx]; rfl)
        have c2 : wr.cell? ⟨a, j * 4 + 2, none⟩ = some (.int .u64 x.id) := H2.up1.dcell hjx HN.out.symm 2 (by rw [← hx]; rfl)
        have c3 : wr.cell? ⟨a, j * 4 + 3, none⟩ = some (.int .i64 x.tag) := H2.up1.dcell hjx HN.out.symm 3 (by rw [← hx]; rfl)
        have hmr := take_more (P := fun h => !(h.flow == (k : Int))) hjx
        rw [← hx] at hmr
        clear hx hjx
        by_cases hf : x.flow = k
        · rw [if_neg (by simp [hf]), List.append_nil] at hmr
          have HM := hid hmr
          rw [hf] at c0
          clear hmr hf
          go_wp2
          go_roundw
          case rel => exact ⟨j + 1, n, ck, Q, zs, by omega, by omega, rfl, by go_num, ⟨by rw [HM.out]; exact HZ.out.1, HZ.out.2⟩, H2⟩
          case measure => simp [intOf]; omega
        · rw [if_pos (by simp [hf])] at hmr
          have HM := hid hmr
          have hb : (x.flow == (k : Int)) = false := beq_eq_false_iff_ne.2 hf
          have h1c : ∀ u ∈ (#[.int .i64 x.flow, .int .i64 x.cost, .int .u64 x.id, .int .i64 x.tag] : Array Value).toList, u.oneCell' = true := by
            intro u hu
            simp at hu
            rcases hu with rfl | rfl | rfl | rfl <;> rfl
          have hap : dv zs ++ (#[.int .i64 x.flow, .int .i64 x.cost, .int .u64 x.id, .int .i64 x.tag] : Array Value).toList = dv (zs ++ [x]) := by simp [dv, dcs]
          have HAP := hid hap
          have H1C := hid h1c
          have hb1 : n + 1 ≤ maxLen := by simp only [maxLen]; omega
          have hb2 : (n + 1) * 32 ≤ 140737488355328 := by omega
          have H3 := (H2.lit #[.int .i64 x.flow, .int .i64 x.cost, .int .u64 x.id, .int .i64 x.tag] 52 4 1 rfl (by decide)).up1
          have f0 := H3.up3.blkAt (v := .slice (some ⟨a, 0, none⟩) N c) 0 rfl
          clear hmr hf hap h1c
          go_wp2_with (at_builtin; go_loud (refine wpList_append_sep rfl (.tmp 36) (.tmp 44) 47 rfl 52 i0 _ 4 32 Try.underlying47 hi0 hz0 hz1 hz2 rfl (by decide) rfl H3 rfl H3.rd1 H1C.out hb1 hb2 rfl HAP.out ?_); intro Q' cq' w6 HS7 hsz7)
          go_roundw
          case rel => exact ⟨j + 1, n + 1, cq', Q', zs ++ [x], by omega, by omega, rfl, by go_num, ⟨by rw [HM.out, ← HZ.out.1], by rw [List.length_append, HZ.out.2]; rfl⟩, HS7.sel 4 [0, 2, 3]⟩
          case measure => simp [intOf]; omega
      · obtain rfl : j = N := by omega
        have hj1 : ¬ (j : Int) < j := by omega
        have hzs : zs = q.S.filter (fun h => !(h.flow == (k : Int))) := by rw [HZ.out.1, List.take_of_length_le (by have := HN.out; omega)]
        have HZS := hid hzs
        have z0 := H2.up2.blk_frozen 0
        have K1 := H2.up2.blk_set 0 (.slice Q n ck)
        rw [dq_sv] at K1
        have l0 := K1.blkAt (2 + k) (dq_l HLL.out hk)
        have zl := K1.blk_frozen (2 + k)
        have K2 := K1.blk_set (2 + k) (.int .i64 0)
        rw [dq_sl HLL.out hk] at K2
        clear hzs H2 K1
        go_wp2
        go_ret
        exact ⟨rfl, Sep.docedQ (q := ⟨q.time, q.n, q.last.set k 0, q.S.filter fun h => !(h.flow == (k : Int))⟩) HZS.out (by rw [← HZS.out, HZ.out.2]) (K2.sel 3 [1, 0])⟩
end
end Go.Proofs.Ytkdoocgjagpcbaa
