/-
  Contract of admin.Take, whatever is on the tape.
-/
import Derived.Test.YtankfmfenbhkgaaAdmTkA
import Derived.Test.YtankfmfenbhkgaaAdmTkB
namespace Go.Proofs.Ytankfmfenbhkgaa
open Go.RowKit
set_option linter.unusedVariables false
set_option linter.unusedSimpArgs false
/-- what Take answers, and how many bytes are gone -/
structure ATk where
  ok : Bool
  err : Int
  kd : Int
  ck : Int
  nm : ByteArray
  au : ByteArray
  size : Int
  fixed : Bool
  gone : Nat
def noATk (e : Int) : ATk := ⟨false, e, 0, 0, noStr, noStr, 0, false, 0⟩
def takeAdm (l : List Int) : ATk :=
  if 4 ≤ l.length ∧ num (l.take 4) ≠ 1128878932 then noATk 33
  else if l.length < 24 then noATk 0
  else if 1 < fN l 5 1 then noATk 5
  else if 16 < fN l 22 1 ∨ 16 < fN l 23 1 then noATk 3
  else if l.length < 24 + (fN l 22 1).toNat + (fN l 23 1).toNat then noATk 0
  else ⟨true, 0, fN l 4 1, fN l 6 8, strOfNums ((l.drop 24).take (fN l 22 1).toNat), strOfNums ((l.drop (24 + (fN l 22 1).toNat)).take (fN l 23 1).toNat), fN l 14 8, decide (fN l 5 1 = 1), 24 + ((fN l 22 1).toNat + (fN l 23 1).toNat)⟩
abbrev atkV (t : ATk) : Value := .tuple #[admV t.kd t.ck t.nm t.au t.size t.fixed, .bool t.ok, .int .i64 t.err]
section
variable {w0 w : World} {O : Nat → Prop} {L : List Asr}
theorem admtake_calls {gt : Nat} {l : List Int} (HS : Sep w0 w O (Go.Proofs.Ytankfmfenbhkgaa.tape gt l :: L)) (hb : Byt l) (hl : l.length ≤ 140737488355328) :
    Calls Try.prog 12 #[.pointer (some ⟨gt, 0, none⟩)] w fun e w' => e = .returned (atkV (takeAdm l)) ∧ Sep w0 w' O (Go.Proofs.Ytankfmfenbhkgaa.tape gt (l.drop (takeAdm l).gone) :: L) := by
  by_cases h4 : 4 ≤ l.length ∧ num (l.take 4) ≠ 1128878932
  · have e : takeAdm l = noATk 33 := by unfold takeAdm; rw [if_pos h4]
    rw [e]
    exact admtake_zero (l := l) HS hb hl (.inr (.inl ⟨h4.1, h4.2, rfl⟩))
  by_cases h24 : l.length < 24
  · have e : takeAdm l = noATk 0 := by unfold takeAdm; rw [if_neg h4, if_pos h24]
    rw [e]
    refine admtake_zero (l := l) HS hb hl ?_
    by_cases h : l.length < 4
    · exact .inl ⟨h, rfl⟩
    · refine .inr (.inr ⟨by omega, ?_, h24, rfl⟩)
      exact Classical.byContradiction fun h' => h4 ⟨by omega, h'⟩
  have hm : num (l.take 4) = 1128878932 := Classical.byContradiction fun h' => h4 ⟨by omega, h'⟩
  have b5 := fN_bd hb 5 1
  have b22 := fN_bd hb 22 1
  have b23 := fN_bd hb 23 1
  obtain ⟨p, hp⟩ : ∃ p : Nat, fN l 22 1 = p := ⟨_, (Int.toNat_of_nonneg b22.1).symm⟩
  obtain ⟨q, hq⟩ : ∃ q : Nat, fN l 23 1 = q := ⟨_, (Int.toNat_of_nonneg b23.1).symm⟩
  by_cases h5 : 1 < fN l 5 1
  · have e : takeAdm l = noATk 5 := by unfold takeAdm; rw [if_neg h4, if_neg h24, if_pos h5]
    rw [e]
    exact admtake_bad (l := l) HS hb hl (by omega) hm hp hq (.inl ⟨h5, rfl⟩)
  by_cases h16 : 16 < fN l 22 1 ∨ 16 < fN l 23 1
  · have e : takeAdm l = noATk 3 := by unfold takeAdm; rw [if_neg h4, if_neg h24, if_neg h5, if_pos h16]
    rw [e]
    exact admtake_bad (l := l) HS hb hl (by omega) hm hp hq (.inr (.inl ⟨h5, by omega, rfl⟩))
  by_cases hfew : l.length < 24 + p + q
  · have e : takeAdm l = noATk 0 := by
      unfold takeAdm
      rw [if_neg h4, if_neg h24, if_neg h5, if_neg h16, hp, hq, Int.toNat_natCast, Int.toNat_natCast, if_pos hfew]
    rw [e]
    exact admtake_bad (l := l) HS hb hl (by omega) hm hp hq (.inr (.inr ⟨h5, by omega, by omega, hfew, rfl⟩))
  have e : takeAdm l = ⟨true, 0, fN l 4 1, fN l 6 8, strOfNums ((l.drop 24).take p), strOfNums ((l.drop (24 + p)).take q), fN l 14 8, decide (fN l 5 1 = 1), 24 + (p + q)⟩ := by
    unfold takeAdm
    rw [if_neg h4, if_neg h24, if_neg h5, if_neg h16, hp, hq, Int.toNat_natCast, Int.toNat_natCast, if_neg hfew]
  rw [e]
  by_cases h1 : fN l 5 1 = 1
  · rw [decide_eq_true h1]
    exact admtake_ok1 HS hb hl hm hp hq h1 (by omega) (by omega) (by omega)
  · rw [decide_eq_false h1]
    exact admtake_ok0 HS hb hl hm hp hq (by omega) (by omega) (by omega) (by omega)
end
end Go.Proofs.Ytankfmfenbhkgaa
