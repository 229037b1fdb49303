/-
  Contract of request.TakeReply.
-/
import Derived.Test.YtbfcnbggkcaolaaReqTake
import Derived.Deep.RegionHeldLaw
namespace Go.Proofs.Ytbfcnbggkcaolaa
open Go.RowKit
set_option linter.unusedVariables false
set_option linter.unusedSimpArgs false

/-- what TakeReply answers, and what is left -/
structure Tr where
  ok : Bool
  err : Int
  er : Int
  ck : Int
  d : List Int
  left : List Int
def noTr (err : Int) (l : List Int) : Tr := ⟨false, err, 0, 0, [], l⟩
def rpSize (l : List Int) (n : Int) : Nat := 16 + if rqN l 4 4 = 0 then n.toNat else 0
def takeRep (l : List Int) (n : Int) : Tr :=
  if n < 0 ∨ 4096 < n then noTr 1 l
  else if otherB l 1732535960 then noTr 33 l
  else if l.length < 16 then noTr 0 l
  else if l.length < rpSize l n then noTr 0 l
  else ⟨true, 0, rqN l 4 4, rqN l 8 8, (l.take (rpSize l n)).drop 16, l.drop (rpSize l n)⟩
abbrev trV (t : Tr) (A : Option Addr) (c : Nat) : Value := .tuple #[repV t.er t.ck (.slice A t.d.length c), .bool t.ok, .int .i64 t.err]

theorem cut16 (l : List Int) : cut l [4, 4, 8] = [rqN l 0 4, rqN l 4 4, rqN l 8 8] := by
  simp [cut, rqN, List.drop_drop]
theorem bad16 (l : List Int) (h : l.length < 16) : l.length < tot [4, 4, 8] := h

section
variable {w0 w : World} {O : Nat → Prop} {L : List Asr}

theorem Sep.own_ne_blk {e t : TypeId} {s g n c b : Nat} {xs : List Value} {cs : Array Value} (h : Sep w0 w O (own e s (some ⟨g, 0, none⟩) n c xs :: blk b t cs :: L)) : g ≠ b := by
  obtain ⟨F, ⟨e1, _⟩, hF, F', ⟨e2, _⟩, hF', _⟩ := h.sep
  intro hgb
  have h1 : F g := (e1 g).2 ⟨_, rfl, rfl⟩
  have h2 : F' g := (e2 g).2 hgb
  exact (hF' g h2).1.2 h1

set_option maxHeartbeats 1000000 in
theorem reptake_n {p : Value} {l : List Int} {n : Int} (HS : Sep w0 w O L) (h : n < 0 ∨ 4096 < n) :
    Calls Try.prog 21 #[p, .int .i64 n] w fun e w' => e = .returned (trV (noTr 1 l) none 0) ∧ Sep w0 w' O L := by
  have HSa := HS.alloc #[.int .u32 0, .int .u64 0, .slice none 0 0] 51
  have key : n < 0 ∨ (¬ n < 0 ∧ 4096 < n) := by omega
  clear h
  rcases key with k | ⟨k, k'⟩
  all_goals
    go_enter Try.func21, Try.ntmps21
    go_wp2
    (try simp only [Exit.inBlock, Exit.then])
    refine bodyPost_ret (results_row2 rfl _ _ _ _ _ _ _ rfl HSa.blk_heap Try.underlying51 rfl info_rep) rfl ?_
    exact ⟨rfl, HSa.drop⟩

set_option maxHeartbeats 1000000 in
theorem reptake_no1 {g : Nat} {l : List Int} {n : Int} (HS : Sep w0 w O (tape g l :: L)) (hb : Byt l) (hl : l.length ≤ 140737488355328) (n0 : 0 ≤ n) (n1 : n ≤ 4096) (h : otherB l 1732535960 = true) :
    Calls Try.prog 21 #[.pointer (some ⟨g, 0, none⟩), .int .i64 n] w fun e w' => e = .returned (trV (noTr 33 l) none 0) ∧ Sep w0 w' O (tape g l :: L) := by
  have HSa := HS.alloc #[.int .u32 0, .int .u64 0, .slice none 0 0] 51
  have H := hid h
  have k0 : ¬ n < 0 := by omega
  have k1 : ¬ 4096 < n := by omega
  clear h
  go_enter Try.func21, Try.ntmps21
  go_wp2_with fail
  refine (other_calls HSa.up1 hb hl (by decide) (by decide)).mono ?_
  rintro e w1 ⟨rfl, HS1⟩
  rw [H.out]
  have c0 := HS1.up1.blk_at 0 rfl
  have c1 := HS1.up1.blk_at 1 rfl
  have c2' := HS1.up1.blk_at 2 rfl
  have f0 := HS1.up1.blk_frozen 0
  have f1 := HS1.up1.blk_frozen 1
  have f2 := HS1.up1.blk_frozen 2
  go_wp2
  have HR := HS1.up1.blk_set3 (.int .u32 0) (.int .u64 0) (.slice none 0 0)
  (try simp only [Exit.inBlock, Exit.then])
  refine bodyPost_ret (results_row2 rfl _ _ _ _ _ _ _ rfl HR.blk_heap Try.underlying51 rfl info_rep) rfl ?_
  exact ⟨rfl, HR.drop⟩

set_option maxHeartbeats 1000000 in
theorem reptake_no2 {g : Nat} {l : List Int} {n : Int} (HS : Sep w0 w O (tape g l :: L)) (hb : Byt l) (hl : l.length ≤ 140737488355328) (n0 : 0 ≤ n) (n1 : n ≤ 4096) (h : otherB l 1732535960 = false) (h16 : l.length < 16) :
    Calls Try.prog 21 #[.pointer (some ⟨g, 0, none⟩), .int .i64 n] w fun e w' => e = .returned (trV (noTr 0 l) none 0) ∧ Sep w0 w' O (tape g l :: L) := by
  have HSa := HS.alloc #[.int .u32 0, .int .u64 0, .slice none 0 0] 51
  have H := hid h
  have E1 := hid (numL_no (b := false) (bad16 l h16))
  have k0 : ¬ n < 0 := by omega
  have k1 : ¬ 4096 < n := by omega
  clear h h16
  go_enter Try.func21, Try.ntmps21
  go_wp2_with fail
  refine (other_calls HSa.up1 hb hl (by decide) (by decide)).mono ?_
  rintro e w1 ⟨rfl, HS1⟩
  rw [H.out]
  go_wp2_with fail
  refine (numbers_any (zs := [4, 4, 8]) (HS1.lit #[.int .i64 4, .int .i64 4, .int .i64 8] 3 1 3 rfl (by decide)).up1 Rb.i0 (by decide) hb hl).mono ?_
  rintro e w2 ⟨A2, c2, rfl, HS2⟩
  rw [show ([4, 4, 8] : List Int) = [4, 4, 8].map Int.ofNat from rfl, E1.out] at HS2 ⊢
  have c0 := HS2.up3.blk_at 0 rfl
  have c1 := HS2.up3.blk_at 1 rfl
  have c2' := HS2.up3.blk_at 2 rfl
  have f0 := HS2.up3.blk_frozen 0
  have f1 := HS2.up3.blk_frozen 1
  have f2 := HS2.up3.blk_frozen 2
  go_wp2
  have HR := HS2.up3.blk_set3 (.int .u32 0) (.int .u64 0) (.slice none 0 0)
  (try simp only [Exit.inBlock, Exit.then])
  refine bodyPost_ret (results_row2 rfl _ _ _ _ _ _ _ rfl HR.blk_heap Try.underlying51 rfl info_rep) rfl ?_
  exact ⟨rfl, HR.drop.drop.dn1.drop⟩
theorem cell_set_ne {w : World} {g b i j : Nat} {v : Value} (h : g ≠ b) : (w.setCell ⟨b, i, none⟩ v).cell? ⟨g, j, none⟩ = w.cell? ⟨g, j, none⟩ := cellH_same (heap_setCell_other w _ g v h)
theorem Sep.own_ne_blk_ {e t : TypeId} {s g n c b : Nat} {xs : List Value} {cs : Array Value} (h : Sep w0 w O (blk b t cs :: own e s (some ⟨g, 0, none⟩) n c xs :: L)) : g ≠ b := h.up1.own_ne_blk

set_option maxHeartbeats 1000000 in
theorem reptake_16 {g : Nat} {l : List Int} {m : Nat} (HS : Sep w0 w O (tape g l :: L)) (hb : Byt l) (hl : l.length ≤ 140737488355328) (hm : m ≤ 4096) (h : otherB l 1732535960 = false) (h16 : 16 ≤ l.length) :
    Calls Try.prog 21 #[.pointer (some ⟨g, 0, none⟩), .int .i64 m] w fun e w' => ∃ A' c', e = .returned (trV (takeRep l m) A' c') ∧ Sep w0 w' O (ro 1 A' (takeRep l m).d.length (by8 (takeRep l m).d) :: tape g (takeRep l m).left :: L) := by
  have HSa := HS.alloc #[.int .u32 0, .int .u64 0, .slice none 0 0] 51
  have H := hid h
  have k0 : ¬ (m : Int) < 0 := by omega
  have k1 : ¬ 4096 < (m : Int) := by omega
  have E1 := numL_ok (b := false) (l := l) (ss := [4, 4, 8]) (by decide) h16
  have hT : takeRep l m = if l.length < rpSize l m then noTr 0 l else ⟨true, 0, rqN l 4 4, rqN l 8 8, (l.take (rpSize l m)).drop 16, l.drop (rpSize l m)⟩ := by
    unfold takeRep; rw [h, if_neg (by omega), if_neg (by decide), if_neg (by omega)]
  have hsize : rpSize l m = 16 + if rqN l 4 4 = 0 then m else 0 := rfl
  rw [cut16] at E1
  have d1 := rqN_bd hb 4 4
  have d2 := rqN_bd hb 8 8
  generalize rqN l 0 4 = x0 at *
  generalize rqN l 4 4 = x1 at *
  generalize rqN l 8 8 = x2 at *
  generalize rpSize l m = sz at *
  have E2 := hid E1
  have HT := hid hT
  have HZ := hid hsize
  clear h h16 E1 hT hsize
  simp only [show (256 : Int) ^ 8 = 18446744073709551616 from rfl, show (256 : Int) ^ 4 = 4294967296 from rfl] at d1 d2
  go_enter Try.func21, Try.ntmps21
  go_wp2_with fail
  refine (other_calls HSa.up1 hb hl (by decide) (by decide)).mono ?_
  rintro e w1 ⟨rfl, HS1⟩
  rw [H.out]
  go_wp2_with fail
  refine (numbers_any (zs := [4, 4, 8]) (HS1.lit #[.int .i64 4, .int .i64 4, .int .i64 8] 3 1 3 rfl (by decide)).up1 Rb.i0 (by decide) hb hl).mono ?_
  rintro e w2 ⟨A2, cc, rfl, HS2⟩
  rw [show ([4, 4, 8] : List Int) = [4, 4, 8].map Int.ofNat from rfl, E2.out] at HS2 ⊢
  rw [show ([x0, x1, x2] : List Int).length = 3 from rfl] at HS2 ⊢
  obtain ⟨g2, rfl⟩ := HS2.own_some (by decide)
  replace HS2 : Sep w0 w2 O (own 22 1 (some ⟨g2, 0, none⟩) 3 cc (uv [x0, x1, x2]) :: tape g l :: blk w.heap.size 51 #[.int .u32 0, .int .u64 0, .slice none 0 0] :: L) := HS2.sel 4 [0, 1, 3]
  have n1' := HS2.kcell (j := 1) (by simp) rfl
  have n2' := HS2.kcell (j := 2) (by simp) rfl
  simp only [List.getElem_cons_succ, List.getElem_cons_zero] at n1' n2'
  clear HS HSa HS1
  by_cases h3 : x1 = 0
  · have r1 : (x1 == 0) = true := by simp [h3]
    have z1 : sz = 16 + m := by rw [HZ.out, if_pos h3]
    clear h3
    by_cases hm0 : m = 0
    · subst hm0
      obtain rfl : 16 = sz := by omega
      by_cases h5 : l.length < 16
      · have e3 : takeRep l ((0 : Nat) : Int) = noTr 0 l := by rw [HT.out, if_pos h5]
        have E3 := hid e3
        clear e3
        go_wp2_with fail
        refine (take_no (n := (16 : Int)) HS2.up1 (by omega)).mono ?_
        rintro e w5 ⟨rfl, rfl⟩
        have c0 := HS2.up2.blk_at 0 rfl
        have c1 := HS2.up2.blk_at 1 rfl
        have c2' := HS2.up2.blk_at 2 rfl
        have f0 := HS2.up2.blk_frozen 0
        have f1 := HS2.up2.blk_frozen 1
        have f2 := HS2.up2.blk_frozen 2
        go_wp2
        have HR := HS2.up2.blk_set3 (.int .u32 0) (.int .u64 0) (.slice none 0 0)
        (try simp only [Exit.inBlock, Exit.then])
        refine bodyPost_ret (results_row2 rfl _ _ _ _ _ _ _ rfl HR.blk_heap Try.underlying51 rfl info_rep) rfl ?_
        rw [E3.out]
        first | exact ⟨none, 0, rfl, HR.drop.drop.ro_nil⟩ | exact ⟨none, ⟨0, rfl⟩, HR.drop.drop.ro_nil⟩
      · have e3 : takeRep l ((0 : Nat) : Int) = ⟨true, 0, x1, x2, (l.take 16).drop 16, l.drop 16⟩ := by rw [HT.out, if_neg h5]
        have E3 := hid e3
        clear e3
        go_wp2_with fail
        rw [show (16 : Int) = ((16 : Nat) : Int) by omega]
        refine (take_yes (n := 16) HS2.up1 (by omega) hl).mono ?_
        rintro e w5 ⟨A5, k5, rfl, HS5⟩
        have hle := own_le HS5
        obtain ⟨g5, rfl⟩ := HS5.own_some (by omega)
        have HS6 := HS5.up2
        have q1 := HS6.kcell (j := 1) (by simp) rfl
        have q2 := HS6.kcell (j := 2) (by simp) rfl
        simp only [List.getElem_cons_succ, List.getElem_cons_zero] at q1 q2
        have hne := (HS6.up3).own_ne_blk_
        have i1 : (0 : Int) ≤ 16 := by decide
        have i2 : (16 : Int) ≤ ((16 : Nat) : Int) := by omega
        have i3 : ((16 : Nat) : Int) ≤ (k5 : Int) := by omega
        clear HS2 n1' n2'
        have c0 := HS6.up3.blk_at 0 rfl
        have c1 := HS6.up3.blk_at 1 rfl
        have c2' := HS6.up3.blk_at 2 rfl
        have f0 := HS6.up3.blk_frozen 0
        have f1 := HS6.up3.blk_frozen 1
        have f2 := HS6.up3.blk_frozen 2
        go_wp2_with fail
        go_region_held_law (fun w' => w'.cell? ⟨g2, 1, none⟩ = some (.int .u64 x1) ∧ w'.cell? ⟨g2, 2, none⟩ = some (.int .u64 x2)) (first | (exact ⟨q1, q2⟩) | (refine ⟨?_, ?_⟩ <;> (show World.cell? (World.setCell (World.setCell (World.setCell w5 _ _) _ _) _ _) _ = _; rw [cell_set_ne hne, cell_set_ne hne, cell_set_ne hne]; assumption))) (fail)
        have HR := (HS6.up3.blk_set3 (.int .u32 x1) (.int .u64 x2) (.slice (some ⟨g5, 0, none⟩) 0 0)).drew
        go_wp2
        (try simp only [Exit.inBlock, Exit.then])
        refine bodyPost_ret (results_row2 rfl _ _ _ _ _ _ _ rfl HR.blk_heap Try.underlying51 rfl info_rep) rfl ?_
        have HF := (HR.sel 3 [2]).own_cut (A' := some ⟨g5, 0, none⟩) (k := 16) (y := 0) (by omega) (by first | rfl | rw [if_neg (by omega)])
        have hdl : ((l.take 16).drop 16).length = 0 := by rw [List.length_drop, List.length_take]; omega
        rw [E3.out]
        first | refine ⟨some ⟨g5, 0, none⟩, 0, ?_, ?_⟩ | refine ⟨some ⟨g5, 0, none⟩, ⟨0, ?_⟩, ?_⟩
        · show _ = Ending.returned (.tuple #[repV x1 x2 (.slice (some ⟨g5, 0, none⟩) ((l.take 16).drop 16).length 0), .bool true, .int .i64 0])
          rw [hdl]
          rfl
        · show Sep w0 _ O (ro 1 (some ⟨g5, 0, none⟩) ((l.take 16).drop 16).length (by8 ((l.take 16).drop 16)) :: tape g (l.drop 16) :: L)
          rw [hdl]
          exact HF
    · subst z1
      by_cases h5 : l.length < (16 + m)
      · have e3 : takeRep l m = noTr 0 l := by rw [HT.out, if_pos h5]
        have E3 := hid e3
        clear e3
        go_wp2_with fail
        refine (take_no (n := (16 + (m : Int))) HS2.up1 (by omega)).mono ?_
        rintro e w5 ⟨rfl, rfl⟩
        have c0 := HS2.up2.blk_at 0 rfl
        have c1 := HS2.up2.blk_at 1 rfl
        have c2' := HS2.up2.blk_at 2 rfl
        have f0 := HS2.up2.blk_frozen 0
        have f1 := HS2.up2.blk_frozen 1
        have f2 := HS2.up2.blk_frozen 2
        go_wp2
        have HR := HS2.up2.blk_set3 (.int .u32 0) (.int .u64 0) (.slice none 0 0)
        (try simp only [Exit.inBlock, Exit.then])
        refine bodyPost_ret (results_row2 rfl _ _ _ _ _ _ _ rfl HR.blk_heap Try.underlying51 rfl info_rep) rfl ?_
        rw [E3.out]
        first | exact ⟨none, 0, rfl, HR.drop.drop.ro_nil⟩ | exact ⟨none, ⟨0, rfl⟩, HR.drop.drop.ro_nil⟩
      · have e3 : takeRep l m = ⟨true, 0, x1, x2, (l.take (16 + m)).drop 16, l.drop (16 + m)⟩ := by rw [HT.out, if_neg h5]
        have E3 := hid e3
        clear e3
        go_wp2_with fail
        rw [show (16 + (m : Int)) = (((16 + m) : Nat) : Int) by omega]
        refine (take_yes (n := (16 + m)) HS2.up1 (by omega) hl).mono ?_
        rintro e w5 ⟨A5, k5, rfl, HS5⟩
        have hle := own_le HS5
        obtain ⟨g5, rfl⟩ := HS5.own_some (by omega)
        have HS6 := HS5.up2
        have q1 := HS6.kcell (j := 1) (by simp) rfl
        have q2 := HS6.kcell (j := 2) (by simp) rfl
        simp only [List.getElem_cons_succ, List.getElem_cons_zero] at q1 q2
        have hne := (HS6.up3).own_ne_blk_
        have i1 : (0 : Int) ≤ 16 := by decide
        have i2 : (16 : Int) ≤ (((16 + m) : Nat) : Int) := by omega
        have i3 : (((16 + m) : Nat) : Int) ≤ (k5 : Int) := by omega
        clear HS2 n1' n2'
        have c0 := HS6.up3.blk_at 0 rfl
        have c1 := HS6.up3.blk_at 1 rfl
        have c2' := HS6.up3.blk_at 2 rfl
        have f0 := HS6.up3.blk_frozen 0
        have f1 := HS6.up3.blk_frozen 1
        have f2 := HS6.up3.blk_frozen 2
        go_wp2_with fail
        go_region_held_law (fun w' => w'.cell? ⟨g2, 1, none⟩ = some (.int .u64 x1) ∧ w'.cell? ⟨g2, 2, none⟩ = some (.int .u64 x2)) (first | (exact ⟨q1, q2⟩) | (refine ⟨?_, ?_⟩ <;> (show World.cell? (World.setCell (World.setCell (World.setCell w5 _ _) _ _) _ _) _ = _; rw [cell_set_ne hne, cell_set_ne hne, cell_set_ne hne]; assumption))) (fail)
        have HR := (HS6.up3.blk_set3 (.int .u32 x1) (.int .u64 x2) (.slice (some ⟨g5, 16, none⟩) m m)).drew
        go_wp2
        (try simp only [Exit.inBlock, Exit.then])
        refine bodyPost_ret (results_row2 rfl _ _ _ _ _ _ _ rfl HR.blk_heap Try.underlying51 rfl info_rep) rfl ?_
        have HF := (HR.sel 3 [2]).own_cut (A' := some ⟨g5, 16, none⟩) (k := 16) (y := m) (by omega) (by first | rfl | rw [if_neg (by omega)])
        have hdl : ((l.take (16 + m)).drop 16).length = m := by rw [List.length_drop, List.length_take]; omega
        rw [E3.out]
        first | refine ⟨some ⟨g5, 16, none⟩, m, ?_, ?_⟩ | refine ⟨some ⟨g5, 16, none⟩, ⟨m, ?_⟩, ?_⟩
        · show _ = Ending.returned (.tuple #[repV x1 x2 (.slice (some ⟨g5, 16, none⟩) ((l.take (16 + m)).drop 16).length m), .bool true, .int .i64 0])
          rw [hdl]
          rfl
        · show Sep w0 _ O (ro 1 (some ⟨g5, 16, none⟩) ((l.take (16 + m)).drop 16).length (by8 ((l.take (16 + m)).drop 16)) :: tape g (l.drop (16 + m)) :: L)
          rw [hdl]
          exact HF
  · have r1 : (x1 == 0) = false := beq_eq_false_iff_ne.2 h3
    obtain rfl : 16 = sz := by rw [HZ.out, if_neg h3]
    clear h3
    by_cases h5 : l.length < 16
    · have e3 : takeRep l m = noTr 0 l := by rw [HT.out, if_pos h5]
      have E3 := hid e3
      clear e3
      go_wp2_with fail
      refine (take_no (n := (16 : Int)) HS2.up1 (by omega)).mono ?_
      rintro e w5 ⟨rfl, rfl⟩
      have c0 := HS2.up2.blk_at 0 rfl
      have c1 := HS2.up2.blk_at 1 rfl
      have c2' := HS2.up2.blk_at 2 rfl
      have f0 := HS2.up2.blk_frozen 0
      have f1 := HS2.up2.blk_frozen 1
      have f2 := HS2.up2.blk_frozen 2
      go_wp2
      have HR := HS2.up2.blk_set3 (.int .u32 0) (.int .u64 0) (.slice none 0 0)
      (try simp only [Exit.inBlock, Exit.then])
      refine bodyPost_ret (results_row2 rfl _ _ _ _ _ _ _ rfl HR.blk_heap Try.underlying51 rfl info_rep) rfl ?_
      rw [E3.out]
      first | exact ⟨none, 0, rfl, HR.drop.drop.ro_nil⟩ | exact ⟨none, ⟨0, rfl⟩, HR.drop.drop.ro_nil⟩
    · have e3 : takeRep l m = ⟨true, 0, x1, x2, (l.take 16).drop 16, l.drop 16⟩ := by rw [HT.out, if_neg h5]
      have E3 := hid e3
      clear e3
      go_wp2_with fail
      rw [show (16 : Int) = ((16 : Nat) : Int) by omega]
      refine (take_yes (n := 16) HS2.up1 (by omega) hl).mono ?_
      rintro e w5 ⟨A5, k5, rfl, HS5⟩
      have hle := own_le HS5
      obtain ⟨g5, rfl⟩ := HS5.own_some (by omega)
      have HS6 := HS5.up2
      have q1 := HS6.kcell (j := 1) (by simp) rfl
      have q2 := HS6.kcell (j := 2) (by simp) rfl
      simp only [List.getElem_cons_succ, List.getElem_cons_zero] at q1 q2
      have hne := (HS6.up3).own_ne_blk_
      have i1 : (0 : Int) ≤ 16 := by decide
      have i2 : (16 : Int) ≤ ((16 : Nat) : Int) := by omega
      have i3 : ((16 : Nat) : Int) ≤ (k5 : Int) := by omega
      clear HS2 n1' n2'
      have c0 := HS6.up3.blk_at 0 rfl
      have c1 := HS6.up3.blk_at 1 rfl
      have c2' := HS6.up3.blk_at 2 rfl
      have f0 := HS6.up3.blk_frozen 0
      have f1 := HS6.up3.blk_frozen 1
      have f2 := HS6.up3.blk_frozen 2
      go_wp2_with fail
      go_region_held_law (fun w' => w'.cell? ⟨g2, 1, none⟩ = some (.int .u64 x1) ∧ w'.cell? ⟨g2, 2, none⟩ = some (.int .u64 x2)) (first | (exact ⟨q1, q2⟩) | (refine ⟨?_, ?_⟩ <;> (show World.cell? (World.setCell (World.setCell (World.setCell w5 _ _) _ _) _ _) _ = _; rw [cell_set_ne hne, cell_set_ne hne, cell_set_ne hne]; assumption))) (fail)
      have HR := (HS6.up3.blk_set3 (.int .u32 x1) (.int .u64 x2) (.slice (some ⟨g5, 0, none⟩) 0 0)).drew
      go_wp2
      (try simp only [Exit.inBlock, Exit.then])
      refine bodyPost_ret (results_row2 rfl _ _ _ _ _ _ _ rfl HR.blk_heap Try.underlying51 rfl info_rep) rfl ?_
      have HF := (HR.sel 3 [2]).own_cut (A' := some ⟨g5, 0, none⟩) (k := 16) (y := 0) (by omega) (by first | rfl | rw [if_neg (by omega)])
      have hdl : ((l.take 16).drop 16).length = 0 := by rw [List.length_drop, List.length_take]; omega
      rw [E3.out]
      first | refine ⟨some ⟨g5, 0, none⟩, 0, ?_, ?_⟩ | refine ⟨some ⟨g5, 0, none⟩, ⟨0, ?_⟩, ?_⟩
      · show _ = Ending.returned (.tuple #[repV x1 x2 (.slice (some ⟨g5, 0, none⟩) ((l.take 16).drop 16).length 0), .bool true, .int .i64 0])
        rw [hdl]
        rfl
      · show Sep w0 _ O (ro 1 (some ⟨g5, 0, none⟩) ((l.take 16).drop 16).length (by8 ((l.take 16).drop 16)) :: tape g (l.drop 16) :: L)
        rw [hdl]
        exact HF

/-- TakeReply, whatever is on the tape -/
theorem reptake_calls {g : Nat} {l : List Int} {n : Int} (HS : Sep w0 w O (tape g l :: L)) (hb : Byt l) (hl : l.length ≤ 140737488355328) :
    Calls Try.prog 21 #[.pointer (some ⟨g, 0, none⟩), .int .i64 n] w fun e w' => ∃ A' c', e = .returned (trV (takeRep l n) A' c') ∧ Sep w0 w' O (ro 1 A' (takeRep l n).d.length (by8 (takeRep l n).d) :: tape g (takeRep l n).left :: L) := by
  by_cases hn : n < 0 ∨ 4096 < n
  · have e : takeRep l n = noTr 1 l := by unfold takeRep; rw [if_pos hn]
    rw [e]
    refine (reptake_n (l := l) HS hn).mono ?_
    rintro e w' ⟨rfl, HS'⟩
    exact ⟨none, 0, rfl, HS'.ro_nil⟩
  · cases h : otherB l 1732535960
    · by_cases h16 : l.length < 16
      · have e : takeRep l n = noTr 0 l := by unfold takeRep; rw [if_neg hn, h, if_neg (by decide), if_pos h16]
        rw [e]
        refine (reptake_no2 HS hb hl (by omega) (by omega) h h16).mono ?_
        rintro e w' ⟨rfl, HS'⟩
        exact ⟨none, 0, rfl, HS'.ro_nil⟩
      · obtain ⟨m, rfl⟩ : ∃ m : Nat, n = m := ⟨n.toNat, by omega⟩
        exact reptake_16 HS hb hl (by omega) h (by omega)
    · have e : takeRep l n = noTr 33 l := by unfold takeRep; rw [if_neg hn, h, if_pos rfl]
      rw [e]
      refine (reptake_no1 HS hb hl (by omega) (by omega) h).mono ?_
      rintro e w' ⟨rfl, HS'⟩
      exact ⟨none, 0, rfl, HS'.ro_nil⟩
end
end Go.Proofs.Ytbfcnbggkcaolaa
