/-
  Contract of cisternref24.TakeAnswer: where the head alone tells that there is none.
-/
import Derived.Test.YtankfmfenbhkgaaAdmTakeA
import Derived.Test.YtankfmfenbhkgaaRef24TkA
namespace Go.Proofs.Ytankfmfenbhkgaa
open Go.RowKit
set_option linter.unusedVariables false
set_option linter.unusedSimpArgs false
theorem info_rans : (Try.prog.info? 43).map (·.size) = some 4 := by kernel_rfl
section
variable {w0 w : World} {O : Nat → Prop} {L : List Asr}
set_option maxHeartbeats 2000000 in
theorem ref24takeA_head {A : Option Addr} {n c : Nat} {l : List Int} {E : Int} (HS : Sep w0 w O L) (hr : Rb w0 O L 1 A n (by8 l)) (hb : Byt l) (hc : n ≤ c) (hl : n ≤ 140737488355328)
    (h : (4 ≤ n ∧ num (l.take 4) ≠ 1128878913 ∧ E = 33) ∨ (n < 25 ∧ (4 ≤ n → num (l.take 4) = 1128878913) ∧ E = 0)) :
    Calls Try.prog 19 #[.slice A n c] w fun e w' => e = .returned (.tuple #[.agg zAns, .int .i64 0, .int .i64 E]) ∧ Sep w0 w' O L := by
  have hn := hr.klen HS
  have HSa := HS.alloc zAns 43
  by_cases h4 : 4 ≤ n
  · have i1 : (4 : Int) ≤ n := by omega
    have i1' : ¬ (n : Int) < 4 := by omega
    have i2 : (n : Int) ≤ c := by omega
    have i3 : (0 : Int) ≤ 4 := by decide
    have i4 : (4 : Int) ≤ c := by omega
    obtain ⟨ad, rfl⟩ : ∃ ad, A = some ad := by
      obtain ⟨ad, y, e, _⟩ := hr.elemn HS (j := 0) (by omega)
      exact ⟨ad, e⟩
    have hs := run_str (P := Try.prog) (c := c) ((hr.ktake (m := 4) h4).cons.read HSa) 25 9 5 Try.underlying25 Try.underlying5 Try.underlying9
    rcases h with ⟨_, hm, rfl⟩ | ⟨h24, hm, rfl⟩
    · have hne : ¬ (strOfNums (l.take 4)).toList = [67, 73, 83, 65] := fun e => hm (by
        rw [ByteArray.toList_eq] at e
        have : l.take 4 = [67, 73, 83, 65] := str_inj (hb.take 4) (by decide) (e.trans (by decide))
        rw [this]; decide)
      generalize strOfNums (l.take 4) = s4 at hs hne
      have hneB : (s4.toList == [67, 73, 83, 65]) = false := beq_eq_false_iff_ne.2 hne
      clear hm hr HS hne
      go_enter Try.func19, Try.ntmps19
      go_wp2
      (try simp only [Exit.inBlock, Exit.then])
      refine bodyPost_ret (results_row2 rfl _ _ _ _ _ _ _ rfl HSa.blk_heap Try.underlying43 rfl info_rans) rfl ?_
      exact ⟨rfl, HSa.drop⟩
    · have hs4 : l.take 4 = [67, 73, 83, 65] := num4_inj (hb.take 4) (by rw [List.length_take]; omega) rfl (by decide) ((hm h4).trans (by decide))
      rw [hs4, show strOfNums [67, 73, 83, 65] = ByteArray.mk #[67, 73, 83, 65] from by decide] at hs
      have j1 : (n : Int) < 25 := by omega
      clear hm hr HS hs4
      go_enter Try.func19, Try.ntmps19
      go_wp2
      (try simp only [Exit.inBlock, Exit.then])
      refine bodyPost_ret (results_row2 rfl _ _ _ _ _ _ _ rfl HSa.blk_heap Try.underlying43 rfl info_rans) rfl ?_
      exact ⟨rfl, HSa.drop⟩
  · have i1 : ¬ (4 : Int) ≤ n := by omega
    have j1 : (n : Int) < 25 := by omega
    have hE : E = 0 := by
      rcases h with h | h
      · omega
      · exact h.2.2
    subst hE
    clear h hr HS
    go_enter Try.func19, Try.ntmps19
    go_wp2
    (try simp only [Exit.inBlock, Exit.then])
    refine bodyPost_ret (results_row2 rfl _ _ _ _ _ _ _ rfl HSa.blk_heap Try.underlying43 rfl info_rans) rfl ?_
    exact ⟨rfl, HSa.drop⟩
end
end Go.Proofs.Ytankfmfenbhkgaa
