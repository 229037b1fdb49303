/-
  Refs: what they hold; bytes.Clone, copy, right, settle, New.
-/
import Derived.Test.YtepooiiaijbljaaRefsL
import Derived.Test.YtepooiiaijbljaaFreeV
import Derived.Laws.CopyRow
namespace Go.Proofs.Ytepooiiaijbljaa
open Go.RowKit
set_option linter.unusedVariables false
set_option linter.unusedSimpArgs false
theorem info_u8' : (Try.prog.info? 5).map (fun i => (i.zero, i.size, i.bytes)) = some (some (.int .u8 0), 1, 1) := by kernel_rfl
theorem mk_u8 (s : Nat) (hs : s ≤ 1048576) (w : World) : (Instr.makeSlice 22 (.int .i64 s) (.int .i64 s)).run Try.prog w = .ok (.slice (some ⟨w.heap.size, 0, none⟩) s s) (w.alloc (.cells (Array.replicate s (.int .u8 0)) 5)) := by
  obtain ⟨i0, hi0, hz0, hz1, hz2⟩ := info_parts info_u8'
  have h := run_makeSlice (P := Try.prog) w 22 5 i0 (.int .u8 0) Try.underlying22 hi0 hz0 .i64 .i64 s s (by omega) (by omega) (by rw [hz1]; simp; omega) (by rw [hz2]; omega) (by omega)
  rw [h, hz1]
  have e : madeCells (Value.int .u8 0).cells ((s : Int).toNat * 1) = Array.replicate s (Value.int .u8 0) := by
    apply Array.toList_inj.1
    rw [show (Value.int .u8 0).cells = #[Value.int .u8 0] from rfl, toList_madeCells_one]
    simp
  rw [e, Int.toNat_natCast]
section
variable {w0 w : World} {O : Nat → Prop} {L : List Asr}

set_option maxHeartbeats 400000 in
theorem cloneu_calls {A : Option Addr} {n c : Nat} {xs : List Int} (HS : Sep w0 w O L) (hr : Rb w0 O L 1 A n (kv .u8 xs)) (hn : n ≤ 140737488355328) :
    Calls Try.prog 30 #[.slice A n c] w fun e w' => ∃ A' c', e = .returned (.slice A' n c') ∧ Sep w0 w' O (own 5 1 A' n c' (kv .u8 xs) :: L) := by
  obtain ⟨i0, hi0, hz0, hz1, hz2⟩ := info_parts info_u8'
  have q := fun w a n c n' c' => Lib.run_eql_slice_nil (P := Try.prog) w 22 5 a n c n' c' Try.underlying22
  rcases A with _ | ad
  · obtain ⟨rfl, e⟩ := hr.noneNil HS
    rw [e]
    go_enter Try.func30, Try.ntmps30
    go_wp2
    go_ret
    exact ⟨_, _, rfl, HS.nil _ _⟩
  · have HL := HS.lit #[] 5 1 0 rfl (Nat.zero_le _)
    have hrd := (hr.cons (P := own 5 1 (some ⟨w.heap.size, 0, none⟩) 0 0 [])).read HL
    go_enter Try.func30, Try.ntmps30
    go_wp2_with (at_builtin; refine wpList_append_sep rfl (.tmp 5) (.tmp 6) 22 rfl 5 i0 _ 1 1 Try.underlying22 hi0 hz0 hz1 hz2 rfl (by decide) rfl HL rfl hrd (kv_one _ _) (by simp only [maxLen]; omega) (by omega) (Nat.zero_add n) rfl ?_; intro A' c' w1 HS1 hsz1)
    go_ret
    exact ⟨_, _, rfl, HS1⟩

/-- copy(dst, src), both of n elements, into a row of the call's own -/
theorem Sep.copied {g n c c2 : Nat} {A : Option Addr} {xs ys : List Int} (HS : Sep w0 w O (own 5 1 (some ⟨g, 0, none⟩) n c (kv .u8 xs) :: L)) (hr : Rb w0 O (own 5 1 (some ⟨g, 0, none⟩) n c (kv .u8 xs) :: L) 1 A n (kv .u8 ys)) (hn : 0 < n) :
    ∃ w', (∀ ty, (Builtin.copy_ #[22, 22] ty #[.slice (some ⟨g, 0, none⟩) n c, .slice A n c2]).run Try.prog w = .ok (goInt n) w') ∧ Sep w0 w' O (own 5 1 (some ⟨g, 0, none⟩) n c (kv .u8 ys) :: L) := by
  obtain ⟨i0, hi0, hz0, hz1, hz2⟩ := info_parts info_u8'
  obtain ⟨F, ⟨hF, hx, hgo⟩, hlt⟩ := HS.get
  rcases hgo with ⟨h, _⟩ | ⟨g', cur, h, hg, h3, h4, h5, h6⟩
  · cases h
  · injection h with h
    obtain rfl : g = g' := by injection h
    have hyl : ys.length = n := hr.klen HS
    obtain ⟨ad, rfl, _, hc⟩ := (hr.read HS).2 hn
    have hl : (kv .u8 ys).length = n := by rw [kv_len, hyl]
    refine ⟨w.setRow g ((cur.toList.take 0 ++ kv .u8 ys) ++ cur.toList.drop (0 + (kv .u8 ys).length)).toArray, fun ty => ?_, ?_⟩
    · have := run_copy_row (P := Try.prog) w 22 22 ty 5 g 0 n c ad n c2 cur 5 (kv .u8 ys) Try.underlying22 (by rw [hi0]; simp [hz1]) hg (by rw [hl]; simp) (fun j v hv => hc j v hv) (by rw [hl]; omega) (kv_one _ _)
      rw [this, hl]
    · have e : (cur.toList.take 0 ++ kv .u8 ys) ++ cur.toList.drop (0 + (kv .u8 ys).length) = kv .u8 ys ++ cur.toList.drop n := by rw [hl]; simp
      rw [e]
      refine HS.upd rfl rfl rfl (by simp [World.setRow]) fun F' ⟨hF', hx', _⟩ hlt' => ⟨⟨F', ⟨hF', by rw [hl]; omega, .inr ⟨g, _, rfl, setRow_heap w g _ _ 5 _ hg, h3, h4, ?_, ?_⟩⟩, fun b hb => ⟨.inl hb, by simpa [World.setRow] using hlt' b hb⟩⟩, fun b hb hnF => setRow_other w g b _ (fun e' => hnF ((hF' b).2 ⟨_, rfl, e'⟩))⟩
      · have : cur.toList.length = c * 1 := by simpa using h5
        simp [hl, hyl]; omega
      · simp [hl, hyl]

/-- Refs: counts now, at the commit -/
def refsA (g : Nat) (now was : List Int) : Asr :=
  ex fun x : (Option Addr × Nat) × (Option Addr × Nat) × (Option Addr × Nat) × Nat => with_ (RfOk now was) (star (blk g 61 #[.slice x.1.1 now.length x.1.2, .slice x.2.1.1 now.length x.2.1.2, .slice x.2.2.1.1 now.length x.2.2.1.2, .pointer (some ⟨x.2.2.2, 0, none⟩)])
    (star (own 5 1 x.1.1 now.length x.1.2 (kv .u8 now)) (star (own 5 1 x.2.1.1 now.length x.2.1.2 (kv .u8 was)) (star (own 4 1 x.2.2.1.1 now.length x.2.2.1.2 (bv (frOf now was))) (space x.2.2.2 (isOf now was))))))
theorem Sep.unrefs {g : Nat} {now was : List Int} (h : Sep w0 w O (refsA g now was :: L)) : RfOk now was ∧ ∃ (a0 a1 a2 c0 c1 c2 gs : Nat),
    Sep w0 w O (blk g 61 #[.slice (some ⟨a0, 0, none⟩) now.length c0, .slice (some ⟨a1, 0, none⟩) now.length c1, .slice (some ⟨a2, 0, none⟩) now.length c2, .pointer (some ⟨gs, 0, none⟩)] :: own 5 1 (some ⟨a0, 0, none⟩) now.length c0 (kv .u8 now) :: own 5 1 (some ⟨a1, 0, none⟩) now.length c1 (kv .u8 was) :: own 4 1 (some ⟨a2, 0, none⟩) now.length c2 (bv (frOf now was)) :: space gs (isOf now was) :: L) := by
  obtain ⟨⟨⟨A0, c0⟩, ⟨A1, c1⟩, ⟨A2, c2⟩, gs⟩, h⟩ := h.unex
  obtain ⟨hok, h⟩ := h.unwith
  have h1 := h.unstar
  have h2 := h1.up1.unstar
  have h3 := (h2.sel 3 [1, 0, 2]).unstar
  have h4 := (h3.sel 4 [1, 0, 2, 3]).unstar
  have h5 : Sep w0 w O (blk g 61 #[.slice A0 now.length c0, .slice A1 now.length c1, .slice A2 now.length c2, .pointer (some ⟨gs, 0, none⟩)] :: own 5 1 A0 now.length c0 (kv .u8 now) :: own 5 1 A1 now.length c1 (kv .u8 was) :: own 4 1 A2 now.length c2 (bv (frOf now was)) :: space gs (isOf now was) :: L) := h4.sel 5 [4, 3, 2, 0, 1]
  have hlo := hok.lo
  obtain ⟨a0, rfl⟩ := h5.up1.own_some (by omega)
  obtain ⟨a1, rfl⟩ := h5.up2.own_some (by omega)
  obtain ⟨a2, rfl⟩ := h5.up3.own_some (by omega)
  exact ⟨hok, a0, a1, a2, c0, c1, c2, gs, h5⟩
theorem Sep.refsd {g n0 n1 n2 : Nat} {now was : List Int} {A0 A1 A2 : Option Addr} {c0 c1 c2 gs : Nat} (hok : RfOk now was) (e0 : n0 = now.length) (e1 : n1 = now.length) (e2 : n2 = now.length)
    (h : Sep w0 w O (blk g 61 #[.slice A0 n0 c0, .slice A1 n1 c1, .slice A2 n2 c2, .pointer (some ⟨gs, 0, none⟩)] :: own 5 1 A0 n0 c0 (kv .u8 now) :: own 5 1 A1 n1 c1 (kv .u8 was) :: own 4 1 A2 n2 c2 (bv (frOf now was)) :: space gs (isOf now was) :: L)) : Sep w0 w O (refsA g now was :: L) := by
  subst e0
  subst e1
  subst e2
  refine Sep.ex ((A0, c0), (A1, c1), (A2, c2), gs) (Sep.with_ hok ?_)
  have h1 := (h.sel 5 [3, 4, 2, 1, 0]).star
  have h2 := (h1.sel 4 [1, 0, 2, 3]).star
  have h3 := (h2.sel 3 [1, 0, 2]).star
  exact (h3.sel 2 [1, 0]).star

theorem rright_calls {g : Nat} {A : Option Addr} {n c : Nat} {X Y Z : Value} (HS : Sep w0 w O (blk g 61 #[.slice A n c, X, Y, Z] :: L)) :
    Calls Try.prog 32 #[.pointer (some ⟨g, 0, none⟩)] w fun e w' => e = .returned (.bool (decide (0 < n))) ∧ w = w' := by
  have a0 := HS.blkAt 0 rfl
  by_cases h : 0 < n
  · have h1 : (0 : Int) < n := by omega
    go_enter Try.func32, Try.ntmps32
    go_wp2
    go_ret
    exact ⟨by simp [h], rfl⟩
  · have h1 : ¬ (0 : Int) < n := by omega
    go_enter Try.func32, Try.ntmps32
    go_wp2
    go_ret
    exact ⟨by simp [h], rfl⟩
theorem rright_refs {g : Nat} {now was : List Int} (HS : Sep w0 w O (refsA g now was :: L)) :
    Calls Try.prog 32 #[.pointer (some ⟨g, 0, none⟩)] w fun e w' => e = .returned (.bool true) ∧ w = w' := by
  obtain ⟨hok, a0, a1, a2, c0, c1, c2, gs, H⟩ := HS.unrefs
  have h := rright_calls H
  have hlo := hok.lo
  rwa [decide_eq_true (show 0 < now.length by omega)] at h
theorem rright_nil : Calls Try.prog 32 #[.pointer none] w fun e w' => e = .returned (.bool false) ∧ w = w' := by
  go_enter Try.func32, Try.ntmps32
  go_wp2
  go_ret
  exact ⟨rfl, rfl⟩

set_option maxHeartbeats 2000000 in
theorem settle_calls {g a0 a1 c0 c1 : Nat} {X Y : Value} {now was : List Int} (hok : RfOk now was) (HS : Sep w0 w O (blk g 61 #[.slice (some ⟨a0, 0, none⟩) now.length c0, .slice (some ⟨a1, 0, none⟩) now.length c1, X, Y] :: own 5 1 (some ⟨a0, 0, none⟩) now.length c0 (kv .u8 now) :: own 5 1 (some ⟨a1, 0, none⟩) now.length c1 (kv .u8 was) :: L)) :
    Calls Try.prog 31 #[.pointer (some ⟨g, 0, none⟩)] w fun e w' => e = .returned (.tuple #[]) ∧ Sep w0 w' O (refsA g now now :: L) := by
  obtain ⟨n, hn⟩ : ∃ n, n = now.length := ⟨_, rfl⟩
  have hlo := hok.lo
  have hhi := hok.hi
  rw [← hn] at HS hlo hhi
  have b0 := HS.drew.blkAt 0 rfl
  have b1 := HS.drew.blkAt 1 rfl
  have H1 : Sep w0 w.drew O (own 5 1 (some ⟨a1, 0, none⟩) n c1 (kv .u8 was) :: own 5 1 (some ⟨a0, 0, none⟩) n c0 (kv .u8 now) :: blk g 61 #[.slice (some ⟨a0, 0, none⟩) n c0, .slice (some ⟨a1, 0, none⟩) n c1, X, Y] :: L) := HS.drew.sel 3 [2, 1, 0]
  obtain ⟨w1, hcp, H2⟩ := H1.copied (c2 := c0) Rb.i1 hlo
  have hmk := mk_bool n (by omega)
  have HNN := hid hn
  have HOK := hid hok
  clear hn hok HS H1
  go_enter Try.func31, Try.ntmps31
  go_upto_region 0 with (fail)
  go_region_law (fail)
  all_goals
    have d0 := H2.up2.blkAt 0 rfl
    have H3 := H2.lit (Array.replicate n (.bool false)) 4 1 n (by simp) (by simp only [maxLen]; omega)
    have d2 := H3.up3.blkAt 2 rfl
    have z2 := H3.up3.blk_frozen 2
    have H4 := H3.up3.blk_set 2 (.slice (some ⟨w1.heap.size, 0, none⟩) n n)
    have H4' : Sep w0 ((w1.alloc (.cells (Array.replicate n (.bool false)) 4)).setCell ⟨g, 2, none⟩ (.slice (some ⟨w1.heap.size, 0, none⟩) n n)) O (blk g 61 #[.slice (some ⟨a0, 0, none⟩) n c0, .slice (some ⟨a1, 0, none⟩) n c1, .slice (some ⟨w1.heap.size, 0, none⟩) n n, Y] :: own 4 1 (some ⟨w1.heap.size, 0, none⟩) n n ((Array.replicate n (.bool false)).toList) :: own 5 1 (some ⟨a1, 0, none⟩) n c1 (kv .u8 now) :: own 5 1 (some ⟨a0, 0, none⟩) n c0 (kv .u8 now) :: L) := H4
    obtain ⟨a2, ha2⟩ : ∃ a2, a2 = w1.heap.size := ⟨_, rfl⟩
    obtain ⟨w4, hw4⟩ : ∃ w4, w4 = (w1.alloc (.cells (Array.replicate n (.bool false)) 4)).setCell ⟨g, 2, none⟩ (.slice (some ⟨w1.heap.size, 0, none⟩) n n) := ⟨_, rfl⟩
    have HA2 := hid ha2
    have HW4 := hid hw4
    rw [← hw4, ← ha2] at H4'
    have f0 := H4'.blkAt 0 rfl
    have hnw := newf_calls (m := n) H4' (by omega)
    clear hcp b0 b1 H4 H3 ha2 hw4
    go_upto_region 2 with (fail)
    rw [← HW4.out, ← HA2.out]
    clear d0 d2 z2 hmk H2
    go_wp2_with fail
    refine hnw.mono ?_
    rintro e w5 ⟨gs, rfl, H5⟩
    clear f0 hnw H4'
    have d3 := H5.up1.blkAt 3 rfl
    have z3 := H5.up1.blk_frozen 3
    have H6 := H5.up1.blk_set 3 (.pointer (some ⟨gs, 0, none⟩))
    have H7 : Sep w0 (w5.setCell ⟨g, 3, none⟩ (.pointer (some ⟨gs, 0, none⟩))) O (space gs (isTo now 0) :: blk g 61 #[.slice (some ⟨a0, 0, none⟩) n c0, .slice (some ⟨a1, 0, none⟩) n c1, .slice (some ⟨a2, 0, none⟩) n n, .pointer (some ⟨gs, 0, none⟩)] :: own 4 1 (some ⟨a2, 0, none⟩) n n ((Array.replicate n (.bool false)).toList) :: own 5 1 (some ⟨a1, 0, none⟩) n c1 (kv .u8 now) :: own 5 1 (some ⟨a0, 0, none⟩) n c0 (kv .u8 now) :: L) := by
      rw [isTo_zero, ← HNN.out]
      exact H6.up1
    have d0 := H7.up1.blkAt 0 rfl
    clear H5 H6
    go_wp2
    go_loopw [39] (fun v wr => ∃ k : Nat, k ≤ n ∧ v = .int .i64 k ∧ Sep w0 wr O (space gs (isTo now k) :: blk g 61 #[.slice (some ⟨a0, 0, none⟩) n c0, .slice (some ⟨a1, 0, none⟩) n c1, .slice (some ⟨a2, 0, none⟩) n n, .pointer (some ⟨gs, 0, none⟩)] :: own 4 1 (some ⟨a2, 0, none⟩) n n ((Array.replicate n (.bool false)).toList) :: own 5 1 (some ⟨a1, 0, none⟩) n c1 (kv .u8 now) :: own 5 1 (some ⟨a0, 0, none⟩) n c0 (kv .u8 now) :: L)) (fun v _ => n - (intOf v).toNat)
    case atStart => exact ⟨0, Nat.zero_le _, rfl, H7⟩
    case round =>
      obtain ⟨k, hk, rfl, H8⟩ := hrel
      clear H7 d0 d3 z3
      by_cases hlt : k < n
      · have hk1 : (k : Int) < n := by omega
        have hkl : k < now.length := by have := HNN.out; omega
        have ck := H8.up4.kcell hkl HNN.out.symm
        rw [gat_int hkl] at ck
        obtain ⟨g0, g1⟩ := gat_byt HOK.out.bn hkl
        have hsu := isTo_succ hkl
        have hgt := isTo_get hkl
        have d3 := H8.up1.blkAt 3 rfl
        by_cases hz : gat now k = 0
        · rw [if_pos hz] at hsu
          rw [hz] at ck
          have HSU := hid hsu
          clear hsu hgt hz g0 g1
          go_wp2
          go_roundw
          case rel => exact ⟨k + 1, by omega, by go_num, by rw [HSU.out]; exact H8⟩
          case measure => simp [intOf]; omega
        · rw [if_neg hz] at hsu
          have hpos : 0 < gat now k := by omega
          have hcl := claim_calls (x := (k : Int)) H8
          have e1 : clErr (isTo now k) k = 0 := by unfold clErr; rw [isTo_len (by omega), if_neg (by omega), Int.toNat_natCast, if_pos hgt]
          have e2 : clIs (isTo now k) k = isTo now (k + 1) := by unfold clIs; rw [e1, if_pos rfl, Int.toNat_natCast, hsu]
          rw [e1, e2] at hcl
          generalize gat now k = x at *
          have HCL := hid hcl
          clear hsu hgt hcl e1 e2 hz g0 g1
          go_wp2_with fail
          refine HCL.out.mono ?_
          rintro e w9 ⟨rfl, H9⟩
          go_wp2
          go_roundw
          case rel => exact ⟨k + 1, by omega, by go_num, H9⟩
          case measure => simp [intOf]; omega
      · obtain rfl : k = n := by omega
        have hk1 : ¬ (k : Int) < k := by omega
        go_wp2
        go_end0
        refine ⟨rfl, ?_⟩
        have hfr : bv (frOf now now) = ((Array.replicate k (.bool false)).toList : List Value) := by rw [frOf_self, ← HNN.out]; simp
        refine Sep.refsd (A0 := some ⟨a0, 0, none⟩) (A1 := some ⟨a1, 0, none⟩) (A2 := some ⟨a2, 0, none⟩) (c0 := c0) (c1 := c1) (c2 := k) (gs := gs) (commit_ok HOK.out) HNN.out HNN.out HNN.out ?_
        rw [hfr, ← isTo_all, ← HNN.out]
        exact H8.sel 5 [1, 4, 3, 2, 0]

theorem settle_n {g a0 a1 c0 c1 n m : Nat} {X Y : Value} {now was : List Int} (hok : RfOk now was) (hn : n = now.length) (hm : m = now.length) (HS : Sep w0 w O (blk g 61 #[.slice (some ⟨a0, 0, none⟩) n c0, .slice (some ⟨a1, 0, none⟩) m c1, X, Y] :: own 5 1 (some ⟨a0, 0, none⟩) n c0 (kv .u8 now) :: own 5 1 (some ⟨a1, 0, none⟩) m c1 (kv .u8 was) :: L)) :
    Calls Try.prog 31 #[.pointer (some ⟨g, 0, none⟩)] w fun e w' => e = .returned (.tuple #[]) ∧ Sep w0 w' O (refsA g now now :: L) := by
  subst hn
  subst hm
  exact settle_calls hok HS
theorem rnew_bad {A : Option Addr} {n c : Nat} (h : n < 1 ∨ 1024 < n) : Calls Try.prog 7 #[.slice A n c] w fun e w' => e = .returned (.tuple #[.pointer none, .int .i64 1]) ∧ w = w' := by
  by_cases h0 : n < 1
  · have h1 : (n : Int) < 1 := by omega
    clear h h0
    go_enter Try.func7, Try.ntmps7
    go_wp2
    go_ret2
    exact ⟨rfl, rfl⟩
  · have h1 : ¬ (n : Int) < 1 := by omega
    have h2 : (1024 : Int) < n := by omega
    clear h h0
    go_enter Try.func7, Try.ntmps7
    go_wp2
    go_ret2
    exact ⟨rfl, rfl⟩

set_option maxHeartbeats 2000000 in
theorem rnew_calls {A : Option Addr} {c : Nat} {l : List Int} (HS : Sep w0 w O L) (hr : Rb w0 O L 1 A l.length (kv .u8 l)) (hb : Byt l) (h1 : 1 ≤ l.length) (h2 : l.length ≤ 1024) :
    Calls Try.prog 7 #[.slice A l.length c] w fun e w' => ∃ g, e = .returned (.tuple #[.pointer (some ⟨g, 0, none⟩), .int .i64 0]) ∧ Sep w0 w' O (refsA g l l :: L) := by
  obtain ⟨n, hn⟩ : ∃ n, n = l.length := ⟨_, rfl⟩
  rw [← hn] at h1 h2 hr ⊢
  have hmk := mk_u8 n (by omega)
  have i1 : ¬ (n : Int) < 1 := by omega
  have i2 : ¬ (1024 : Int) < n := by omega
  have HNN := hid hn
  clear hn
  go_enter Try.func7, Try.ntmps7
  have hz : (Array.replicate n (Value.int .u8 0)).toList = kv .u8 (List.replicate n 0) := by simp [kv]
  have hok : RfOk l (List.replicate n 0) := ⟨by rw [List.length_replicate, HNN.out], by rw [← HNN.out]; exact h1, by rw [← HNN.out]; exact h2, hb, fun x hx => by
    have := List.eq_of_mem_replicate hx
    subst this; decide⟩
  have HA := HS.lit (Array.replicate n (.int .u8 0)) 5 1 n (by simp) (by simp only [maxLen]; omega)
  go_upto_region 3 with (fail)
  go_region_held_law (fun _ => True) (trivial) (first
    | (go_simp; go_at_call 30; refine (cloneu_calls HS.drew hr (by omega)).mono ?_; rintro e w1 ⟨A0, c0, rfl, H1⟩)
    | (go_simp; go_at_call 30; refine (cloneu_calls HA.drew hr.cons (by omega)).mono ?_; rintro e w1 ⟨A0, c0, rfl, K1⟩))
  all_goals
    first
    | (obtain ⟨a0, rfl⟩ := H1.own_some (by omega)
       have H2 := (H1.lit (Array.replicate n (.int .u8 0)) 5 1 n (by simp) (by simp only [maxLen]; omega)).allocAt #[.slice (some ⟨a0, 0, none⟩) n c0, .slice (some ⟨w1.heap.size, 0, none⟩) n n, .slice none 0 0, .pointer none] 61 (B := w1.heap.size + 1) (by simp)
       rw [hz] at H2
       have H3 := H2.sel 3 [0, 2, 1])
    | (obtain ⟨a0, rfl⟩ := K1.own_some (by omega)
       have H2 := K1.allocAt #[.slice (some ⟨a0, 0, none⟩) n c0, .slice (some ⟨w.heap.size, 0, none⟩) n n, .slice none 0 0, .pointer none] 61 (B := w1.heap.size) rfl
       rw [hz] at H2
       have H3 := H2.sel 3 [0, 1, 2])
    have hst := fun (a1 g : Nat) (W : World) (h : Sep w0 W O (blk g 61 #[.slice (some ⟨a0, 0, none⟩) n c0, .slice (some ⟨a1, 0, none⟩) n n, .slice none 0 0, .pointer none] :: own 5 1 (some ⟨a0, 0, none⟩) n c0 (kv .u8 l) :: own 5 1 (some ⟨a1, 0, none⟩) n n (kv .u8 (List.replicate n 0)) :: L)) => settle_n (X := .slice none 0 0) (Y := .pointer none) hok HNN.out HNN.out h
    have HST := hid (hst _ _ _ H3)
    clear hst H3 H2 HA HS hz hok hmk
    go_wp2_with fail
    refine HST.out.mono ?_
    rintro e w4 ⟨rfl, H4⟩
    go_wp2
    go_ret2
    exact ⟨_, rfl, H4⟩
end
end Go.Proofs.Ytepooiiaijbljaa
