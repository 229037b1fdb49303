/-
  Plain laws: what is put is taken, what was taken is put.
-/
import Derived.Test.YtbfcnbggkcaolaaReqTakeR
namespace Go.Proofs.Ytbfcnbggkcaolaa
set_option linter.unusedVariables false
set_option linter.unusedSimpArgs false

theorem be_rqN {l : List Int} (hb : Byt l) (o s : Nat) (h : o + s ≤ l.length) : be s (rqN l o s) = (l.drop o).take s := by
  have h1 := be_num ((l.drop o).take s) ((hb.drop o).take s)
  have h2 : ((l.drop o).take s).length = s := by rw [List.length_take, List.length_drop]; omega
  rw [h2] at h1
  exact h1
theorem take_glue (l : List Int) (a k : Nat) : l.take a ++ (l.drop a).take k = l.take (a + k) := (List.take_add ..).symm
theorem head_of {l : List Int} {magic : Int} {k : Nat} (hb : Byt l) (h : otherB l magic = false) (hk : 4 ≤ l.length) : be 4 magic = l.take 4 := by
  unfold otherB at h
  have h1 := of_decide_eq_false h
  have h2 : num (l.take 4) = magic := by
    by_cases e : num (l.take 4) = magic
    · exact e
    · exact absurd ⟨hk, e⟩ h1
  have h3 := be_num (l.take 4) (hb.take 4)
  rw [show (l.take 4).length = 4 by rw [List.length_take]; omega, h2] at h3
  exact h3

theorem rest_glue (l : List Int) (a sz : Nat) (h : a ≤ sz) : l.take a ++ (l.take sz).drop a = l.take sz := by
  have h1 : (l.take sz).take a = l.take a := by rw [List.take_take, Nat.min_eq_left h]
  rw [← h1, List.take_append_drop]

/-- what was taken, put again, is the same bytes -/
theorem takeReq_back {l : List Int} (hb : Byt l) (h : (takeReq l).ok = true) :
    reqErr (takeReq l).fl (takeReq l).kd (takeReq l).len (takeReq l).d = 0 ∧ reqOut (takeReq l).fl (takeReq l).kd (takeReq l).ck (takeReq l).off (takeReq l).len (takeReq l).d = l.take (rqSize l) ∧ rqSize l ≤ l.length ∧ (takeReq l).left = l.drop (rqSize l) ∧ (takeReq l).err = 0 := by
  unfold takeReq at h ⊢
  by_cases h1 : otherB l 627086611 = true
  · rw [if_pos h1] at h; cases h
  · rw [if_neg h1] at h ⊢
    by_cases h2 : l.length < 28
    · rw [if_pos h2] at h; cases h
    · rw [if_neg h2] at h ⊢
      by_cases h3 : rqN l 6 2 = 1 ∧ 4096 < rqN l 24 4
      · rw [if_pos h3] at h; cases h
      · rw [if_neg h3] at h ⊢
        by_cases h4 : l.length < rqSize l
        · rw [if_pos h4] at h; cases h
        · rw [if_neg h4]
          have d1 := rqN_bd hb 4 2
          have d2 := rqN_bd hb 6 2
          have d5 := rqN_bd hb 24 4
          simp only [show (256 : Int) ^ 4 = 4294967296 from rfl, show (256 : Int) ^ 2 = 65536 from rfl] at d1 d2 d5
          have hdl : (((l.take (rqSize l)).drop 28).length : Int) = if rqN l 6 2 = 1 then rqN l 24 4 else 0 := by
            rw [List.length_drop, List.length_take]
            have hs : rqSize l = 28 + if rqN l 6 2 = 1 then (rqN l 24 4).toNat else 0 := rfl
            split at hs
            · rw [if_pos (by assumption)]; omega
            · rw [if_neg (by assumption)]; omega
          have he : reqErr (rqN l 4 2) (rqN l 6 2) (rqN l 24 4) ((l.take (rqSize l)).drop 28) = 0 := by
            unfold reqErr
            generalize ((l.take (rqSize l)).drop 28).length = k at hdl ⊢
            split at hdl
            · rw [if_neg (by omega), if_neg (by omega)]
            · rw [if_neg (by omega), if_neg (by omega)]
          refine ⟨he, ?_, by omega, rfl, rfl⟩
          unfold reqOut
          rw [if_pos he]
          have hs28 : 28 ≤ rqSize l := by unfold rqSize; omega
          unfold reqBytes
          rw [head_of (k := 0) hb (by simpa using h1) (by omega), be_rqN hb 4 2 (by omega), be_rqN hb 6 2 (by omega), be_rqN hb 8 8 (by omega), be_rqN hb 16 8 (by omega), be_rqN hb 24 4 (by omega)]
          rw [take_glue, take_glue, take_glue, take_glue, take_glue]
          exact rest_glue l 28 _ hs28
theorem takeReq_not {l : List Int} (h : (takeReq l).ok = false) : (takeReq l).left = l ∧ (takeReq l).len = 0 ∧ (takeReq l).d = [] := by
  unfold takeReq at h ⊢
  split
  · exact ⟨rfl, rfl, rfl⟩
  · rename_i h1; rw [if_neg h1] at h
    split
    · exact ⟨rfl, rfl, rfl⟩
    · rename_i h2; rw [if_neg h2] at h
      split
      · exact ⟨rfl, rfl, rfl⟩
      · rename_i h3; rw [if_neg h3] at h
        split
        · exact ⟨rfl, rfl, rfl⟩
        · rename_i h4; rw [if_neg h4] at h; cases h

theorem takeRep_back {l : List Int} {z : Int} (hb : Byt l) (h : (takeRep l z).ok = true) :
    repErr (takeRep l z).er (takeRep l z).d = 0 ∧ repOut (takeRep l z).er (takeRep l z).ck (takeRep l z).d = l.take (rpSize l z) ∧ rpSize l z ≤ l.length ∧ (takeRep l z).left = l.drop (rpSize l z) ∧ (takeRep l z).err = 0 := by
  unfold takeRep at h ⊢
  by_cases h0 : z < 0 ∨ 4096 < z
  · rw [if_pos h0] at h; cases h
  · rw [if_neg h0] at h ⊢
    by_cases h1 : otherB l 1732535960 = true
    · rw [if_pos h1] at h; cases h
    · rw [if_neg h1] at h ⊢
      by_cases h2 : l.length < 16
      · rw [if_pos h2] at h; cases h
      · rw [if_neg h2] at h ⊢
        by_cases h4 : l.length < rpSize l z
        · rw [if_pos h4] at h; cases h
        · rw [if_neg h4]
          have d1 := rqN_bd hb 4 4
          have hdl : (((l.take (rpSize l z)).drop 16).length : Int) = if rqN l 4 4 = 0 then z else 0 := by
            rw [List.length_drop, List.length_take]
            have hs : rpSize l z = 16 + if rqN l 4 4 = 0 then z.toNat else 0 := rfl
            split at hs
            · rw [if_pos (by assumption)]; omega
            · rw [if_neg (by assumption)]; omega
          have he : repErr (rqN l 4 4) ((l.take (rpSize l z)).drop 16) = 0 := by
            unfold repErr
            generalize ((l.take (rpSize l z)).drop 16).length = k at hdl ⊢
            split at hdl
            · rw [if_neg (by omega), if_neg (by omega)]
            · rw [if_neg (by omega), if_neg (by omega)]
          refine ⟨he, ?_, by omega, rfl, rfl⟩
          unfold repOut
          rw [if_pos he]
          have hs16 : 16 ≤ rpSize l z := by unfold rpSize; omega
          unfold repBytes
          rw [head_of (k := 0) hb (by simpa using h1) (by omega), be_rqN hb 4 4 (by omega), be_rqN hb 8 8 (by omega)]
          rw [take_glue, take_glue]
          exact rest_glue l 16 _ hs16
theorem takeRep_not {l : List Int} {z : Int} (h : (takeRep l z).ok = false) : (takeRep l z).left = l ∧ (takeRep l z).ck = 0 ∧ (takeRep l z).d = [] := by
  unfold takeRep at h ⊢
  split
  · exact ⟨rfl, rfl, rfl⟩
  · rename_i h0; rw [if_neg h0] at h
    split
    · exact ⟨rfl, rfl, rfl⟩
    · rename_i h1; rw [if_neg h1] at h
      split
      · exact ⟨rfl, rfl, rfl⟩
      · rename_i h2; rw [if_neg h2] at h
        split
        · exact ⟨rfl, rfl, rfl⟩
        · rename_i h4; rw [if_neg h4] at h; cases h
end Go.Proofs.Ytbfcnbggkcaolaa
