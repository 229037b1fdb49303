/-
  Contract of cisternref24.Take: where no command is told.
-/
import Derived.Test.YtankfmfenbhkgaaAdmTake3
import Derived.Test.YtankfmfenbhkgaaRef22
namespace Go.Proofs.Ytankfmfenbhkgaa
open Go.RowKit
set_option linter.unusedVariables false
set_option linter.unusedSimpArgs false
section
variable {w0 w : World} {O : Nat → Prop} {L : List Asr}

theorem Sep.allocB (h : Sep w0 w O L) (cs : Array Value) (t : TypeId) {B : Nat} (hB : w.heap.size = B) : Sep w0 (w.alloc (.cells cs t)) O (blk B t cs :: L) := by
  subst hB; exact h.alloc cs t
theorem num4_inj {l : List Int} {a : List Int} (hb : Byt l) (hl : l.length = 4) (ha : a.length = 4) (hab : Byt a) (h : num l = num a) : l = a := by
  have h1 := be_num l hb
  have h2 := be_num a hab
  rw [hl] at h1
  rw [ha] at h2
  rw [← h1, ← h2, h]
theorem Rb.byteAt {ad : Addr} {n o : Nat} {l : List Int} (hr : Rb w0 O L 1 (some ad) n (by8 l)) (HS : Sep w0 w O L) (ho : o < n) (h0 : 0 < o) : w.cell? ⟨ad.block, ad.off + o, none⟩ = some (.int .u8 (fN l o 1)) := by
  obtain ⟨ad', y, hA, hy, _, hc⟩ := hr.elemn HS ho
  injection hA with hA
  subst hA
  rw [fN_one hy]
  have e : ad.add o = ⟨ad.block, ad.off + o, none⟩ := by unfold Addr.add; rw [if_neg (by omega)]
  rwa [e] at hc

set_option maxHeartbeats 4000000 in
set_option maxRecDepth 100000 in
theorem ref24take_no {A : Option Addr} {n c : Nat} {l : List Int} {E : Int} (HS : Sep w0 w O L) (hr : Rb w0 O L 1 A n (by8 l)) (hb : Byt l) (hc : n ≤ c) (hl : n ≤ 140737488355328)
    (h : (4 ≤ n ∧ num (l.take 4) ≠ 1128878932 ∧ E = 33) ∨ (n < 24 ∧ (4 ≤ n → num (l.take 4) = 1128878932) ∧ E = 0) ∨ (24 ≤ n ∧ num (l.take 4) = 1128878932 ∧ ((1 < fN l 5 1 ∧ E = 5) ∨ (¬ 1 < fN l 5 1 ∧ (16 < fN l 22 1 ∨ 16 < fN l 23 1) ∧ E = 3) ∨ (¬ 1 < fN l 5 1 ∧ ¬ 16 < fN l 22 1 ∧ ¬ 16 < fN l 23 1 ∧ (n : Int) < 24 + fN l 22 1 + fN l 23 1 ∧ E = 0)))) :
    Calls Try.prog 13 #[.slice A n c] w fun e w' => e = .returned (.tuple #[admV 0 0 noStr noStr 0 false, .int .i64 0, .int .i64 E]) ∧ Sep w0 w' O L := by
  have hn := hr.klen HS
  have HSa := (HS.alloc zAdm 24).allocB zAdm 24 (B := w.heap.size + 1) (by simp)
  by_cases h4 : 4 ≤ n
  · have i1 : (4 : Int) ≤ n := by omega
    have i1' : ¬ (n : Int) < 4 := by omega
    have i2 : (n : Int) ≤ c := by omega
    have i3 : (0 : Int) ≤ 4 := by decide
    have i4 : (4 : Int) ≤ c := by omega
    obtain ⟨ad, rfl⟩ : ∃ ad, A = some ad := by
      obtain ⟨ad, y, e, _⟩ := hr.elemn HS (j := 0) (by omega)
      exact ⟨ad, e⟩
    have hs := run_str (P := Try.prog) (c := c) ((hr.ktake (m := 4) h4).cons.cons.read HSa) 25 9 5 Try.underlying25 Try.underlying5 Try.underlying9
    rcases h with ⟨_, hm, rfl⟩ | ⟨h24, hm, rfl⟩ | ⟨h24, hm, h⟩
    · have hne : ¬ (strOfNums (l.take 4)).toList = [67, 73, 83, 84] := fun e => hm (by
        rw [ByteArray.toList_eq] at e
        have : l.take 4 = [67, 73, 83, 84] := str_inj (hb.take 4) (by decide) (e.trans (by decide))
        rw [this]; decide)
      generalize strOfNums (l.take 4) = s4 at hs hne
      have hneB : (s4.toList == [67, 73, 83, 84]) = false := beq_eq_false_iff_ne.2 hne
      clear hm hr HS hne
      go_enter Try.func13, Try.ntmps13
      go_wp2
      (try simp only [Exit.inBlock, Exit.then])
      refine bodyPost_ret (results_row2 rfl _ _ _ _ _ _ _ rfl HSa.up1.blk_heap Try.underlying24 rfl info_adm) rfl ?_
      exact ⟨rfl, HSa.drop.drop⟩
    · have hs4 : l.take 4 = [67, 73, 83, 84] := num4_inj (hb.take 4) (by rw [List.length_take]; omega) rfl (by decide) ((hm h4).trans (by decide))
      rw [hs4, show strOfNums [67, 73, 83, 84] = ByteArray.mk #[67, 73, 83, 84] from by decide] at hs
      have j1 : (n : Int) < 24 := by omega
      clear hm hr HS hs4
      go_enter Try.func13, Try.ntmps13
      go_wp2
      (try simp only [Exit.inBlock, Exit.then])
      refine bodyPost_ret (results_row2 rfl _ _ _ _ _ _ _ rfl HSa.up1.blk_heap Try.underlying24 rfl info_adm) rfl ?_
      exact ⟨rfl, HSa.drop.drop⟩
    · have hs4 : l.take 4 = [67, 73, 83, 84] := num4_inj (hb.take 4) (by rw [List.length_take]; omega) rfl (by decide) (hm.trans (by decide))
      rw [hs4, show strOfNums [67, 73, 83, 84] = ByteArray.mk #[67, 73, 83, 84] from by decide] at hs
      have j1 : ¬ (n : Int) < 24 := by omega
      have k5 := Rb.byteAt hr.cons.cons HSa (o := 5) (by omega) (by decide)
      have k22 := Rb.byteAt hr.cons.cons HSa (o := 22) (by omega) (by decide)
      have k23 := Rb.byteAt hr.cons.cons HSa (o := 23) (by omega) (by decide)
      have b5 := fN_bd hb 5 1
      have b22 := fN_bd hb 22 1
      have b23 := fN_bd hb 23 1
      simp only [show (256 : Int) ^ 1 = 256 from rfl] at b5 b22 b23
      generalize fN l 5 1 = x1 at *
      generalize fN l 22 1 = p at *
      generalize fN l 23 1 = q at *
      clear hm hr HS hs4
      have key : (1 < x1 ∧ E = 5) ∨ (¬ 1 < x1 ∧ 16 < p ∧ E = 3) ∨ (¬ 1 < x1 ∧ ¬ 16 < p ∧ 16 < q ∧ E = 3) ∨ (¬ 1 < x1 ∧ ¬ 16 < p ∧ ¬ 16 < q ∧ (n : Int) < 24 + p + q ∧ E = 0) := by
        rcases h with h | ⟨h1, h2, h3⟩ | ⟨h1, h2, h3, h4, h5⟩
        · exact .inl h
        · by_cases hp : 16 < p
          · exact .inr (.inl ⟨h1, hp, h3⟩)
          · exact .inr (.inr (.inl ⟨h1, hp, by omega, h3⟩))
        · exact .inr (.inr (.inr ⟨h1, h2, h3, h4, h5⟩))
      clear h
      have m1 : IntKind.i64.wrap p = p := by rw [IntKind.wrap_i64]; omega
      have m2 : IntKind.i64.wrap q = q := by rw [IntKind.wrap_i64]; omega
      have m3 : ¬ 16 < p → IntKind.i64.wrap (24 + p) = 24 + p := fun _ => by rw [IntKind.wrap_i64]; omega
      have m4 : IntKind.i64.wrap (24 + p + q) = 24 + p + q := by rw [IntKind.wrap_i64]; omega
      have m5 : IntKind.i64.wrap (24 + p) = 24 + p := by rw [IntKind.wrap_i64]; omega
      clear m3
      have o5 : (5 : Int) < n := by omega
      have o22 : (22 : Int) < n := by omega
      have o23 : (23 : Int) < n := by omega
      rcases key with ⟨hx, rfl⟩ | ⟨hx, hp, rfl⟩ | ⟨hx, hp, hq, rfl⟩ | ⟨hx, hp, hq, hf, rfl⟩
      · go_enter Try.func13, Try.ntmps13
        go_wp2
        (try simp only [Exit.inBlock, Exit.then])
        refine bodyPost_ret (results_row2 rfl _ _ _ _ _ _ _ rfl HSa.up1.blk_heap Try.underlying24 rfl info_adm) rfl ?_
        exact ⟨rfl, HSa.drop.drop⟩
      all_goals
        go_enter Try.func13, Try.ntmps13
        go_wp2_with fail
        go_region_law (fail)
        all_goals
          go_wp2
          (try simp only [Exit.inBlock, Exit.then])
          refine bodyPost_ret (results_row2 rfl _ _ _ _ _ _ _ rfl HSa.drew.up1.blk_heap Try.underlying24 rfl info_adm) rfl ?_
          exact ⟨rfl, HSa.drop.drop⟩
  · have i1 : ¬ (4 : Int) ≤ n := by omega
    have j1 : (n : Int) < 24 := by omega
    have hE : E = 0 := by
      rcases h with h | h | h
      · omega
      · exact h.2.2
      · omega
    subst hE
    clear h hr HS
    go_enter Try.func13, Try.ntmps13
    go_wp2
    (try simp only [Exit.inBlock, Exit.then])
    refine bodyPost_ret (results_row2 rfl _ _ _ _ _ _ _ rfl HSa.up1.blk_heap Try.underlying24 rfl info_adm) rfl ?_
    exact ⟨rfl, HSa.drop.drop⟩
end
end Go.Proofs.Ytankfmfenbhkgaa
