/-
  Contract of cisternref24.Take, whatever the bytes are.
-/
import Derived.Test.YtankfmfenbhkgaaRef24TkA
namespace Go.Proofs.Ytankfmfenbhkgaa
open Go.RowKit
set_option linter.unusedVariables false
set_option linter.unusedSimpArgs false
section
variable {w0 w : World} {O : Nat → Prop} {L : List Asr}
theorem ref24take_calls {A : Option Addr} {n c : Nat} {l : List Int} (HS : Sep w0 w O L) (hr : Rb w0 O L 1 A n (by8 l)) (hb : Byt l) (hc : n ≤ c) (hl : n ≤ 140737488355328) :
    Calls Try.prog 13 #[.slice A n c] w fun e w' => e = .returned (.tuple #[admV (takeAdm l).kd (takeAdm l).ck (takeAdm l).nm (takeAdm l).au (takeAdm l).size (takeAdm l).fixed, .int .i64 ((takeAdm l).gone : Nat), .int .i64 (takeAdm l).err]) ∧ Sep w0 w' O L := by
  have hn := hr.klen HS
  subst hn
  by_cases h4 : 4 ≤ l.length ∧ num (l.take 4) ≠ 1128878932
  · have e : takeAdm l = noATk 33 := by unfold takeAdm; rw [if_pos h4]
    rw [e]
    exact ref24take_no (l := l) HS hr hb hc hl (.inl ⟨h4.1, h4.2, rfl⟩)
  have hm' : 4 ≤ l.length → num (l.take 4) = 1128878932 := fun h => Classical.byContradiction fun h' => h4 ⟨h, h'⟩
  by_cases h24 : l.length < 24
  · have e : takeAdm l = noATk 0 := by unfold takeAdm; rw [if_neg h4, if_pos h24]
    rw [e]
    exact ref24take_no (l := l) HS hr hb hc hl (.inr (.inl ⟨h24, hm', rfl⟩))
  have hm := hm' (by omega)
  have b22 := fN_bd hb 22 1
  have b23 := fN_bd hb 23 1
  obtain ⟨p, hp⟩ : ∃ p : Nat, fN l 22 1 = p := ⟨_, (Int.toNat_of_nonneg b22.1).symm⟩
  obtain ⟨q, hq⟩ : ∃ q : Nat, fN l 23 1 = q := ⟨_, (Int.toNat_of_nonneg b23.1).symm⟩
  by_cases h5 : 1 < fN l 5 1
  · have e : takeAdm l = noATk 5 := by unfold takeAdm; rw [if_neg h4, if_neg h24, if_pos h5]
    rw [e]
    exact ref24take_no (l := l) HS hr hb hc hl (.inr (.inr ⟨by omega, hm, .inl ⟨h5, rfl⟩⟩))
  by_cases h16 : 16 < fN l 22 1 ∨ 16 < fN l 23 1
  · have e : takeAdm l = noATk 3 := by unfold takeAdm; rw [if_neg h4, if_neg h24, if_neg h5, if_pos h16]
    rw [e]
    exact ref24take_no (l := l) HS hr hb hc hl (.inr (.inr ⟨by omega, hm, .inr (.inl ⟨h5, h16, rfl⟩)⟩))
  by_cases hfew : l.length < 24 + p + q
  · have e : takeAdm l = noATk 0 := by
      unfold takeAdm
      rw [if_neg h4, if_neg h24, if_neg h5, if_neg h16, hp, hq, Int.toNat_natCast, Int.toNat_natCast, if_pos hfew]
    rw [e]
    exact ref24take_no (l := l) HS hr hb hc hl (.inr (.inr ⟨by omega, hm, .inr (.inr ⟨h5, by omega, by omega, by omega, rfl⟩)⟩))
  have e : takeAdm l = ⟨true, 0, fN l 4 1, fN l 6 8, strOfNums ((l.drop 24).take p), strOfNums ((l.drop (24 + p)).take q), fN l 14 8, decide (fN l 5 1 = 1), 24 + (p + q)⟩ := by
    unfold takeAdm
    rw [if_neg h4, if_neg h24, if_neg h5, if_neg h16, hp, hq, Int.toNat_natCast, Int.toNat_natCast, if_neg hfew]
  rw [e]
  obtain ⟨ad, rfl⟩ : ∃ ad, A = some ad := by
    obtain ⟨ad, y, e, _⟩ := hr.elemn HS (j := 0) (by omega)
    exact ⟨ad, e⟩
  have e2 : ((24 + (p + q) : Nat) : Int) = 24 + (p : Int) + q := by omega
  show Calls _ _ _ _ fun e w' => e = .returned (.tuple #[admV (fN l 4 1) (fN l 6 8) _ _ (fN l 14 8) _, .int .i64 ((24 + (p + q) : Nat) : Int), .int .i64 0]) ∧ Sep w0 w' O L
  rw [e2]
  exact ref24take_ok (n := l.length) rfl rfl HS hr hb hc hl hm hp hq rfl h5 (by omega) (by omega) (by omega)
end
end Go.Proofs.Ytankfmfenbhkgaa
