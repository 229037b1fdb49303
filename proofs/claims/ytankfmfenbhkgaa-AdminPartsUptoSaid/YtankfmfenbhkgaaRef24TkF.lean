/-
  Contract of cisternref24.TakeAnswer, whole.
-/
import Derived.Test.YtankfmfenbhkgaaRef24TkR
namespace Go.Proofs.Ytankfmfenbhkgaa
open Go.RowKit
set_option linter.unusedVariables false
set_option linter.unusedSimpArgs false
section
variable {w0 w : World} {O : Nat → Prop} {L : List Asr}
theorem ref24takeA_calls {A : Option Addr} {n c : Nat} {l : List Int} (HS : Sep w0 w O L) (hr : Rb w0 O L 1 A n (by8 l)) (hb : Byt l) (hc : n ≤ c) (hl : n ≤ 140737488355328) :
    Calls Try.prog 19 #[.slice A n c] w fun e w' => (∀ E, takeAns l = .error E → e = .returned (.tuple #[.agg zAns, .int .i64 0, .int .i64 E]) ∧ Sep w0 w' O L) ∧
      (∀ ck er id us a, takeAns l = .ok ((ck, er, id), us, a) → ∃ A' c', e = .returned (.tuple #[ransV ck er id A' (fN l 24 1).toNat c', .int .i64 (a : Nat), .int .i64 0]) ∧ Sep w0 w' O (own 48 6 A' (fN l 24 1).toNat c' (vrow us) :: L)) := by
  have hn := hr.klen HS
  by_cases h1 : 4 ≤ l.length ∧ num (l.take 4) ≠ 1128878913
  · refine (ref24takeA_head (E := 33) HS hr hb hc hl (.inl ⟨by omega, h1.2, rfl⟩)).mono ?_
    rintro e w' ⟨rfl, H⟩
    have ht : takeAns l = .error 33 := by unfold takeAns; rw [if_pos h1]
    refine ⟨fun E hE => ?_, fun ck er id us a hE => ?_⟩
    · rw [ht] at hE; cases hE; exact ⟨rfl, H⟩
    · rw [ht] at hE; cases hE
  by_cases h2 : l.length < 25
  · refine (ref24takeA_head (E := 0) HS hr hb hc hl (.inr ⟨by omega, fun h4 => Decidable.byContradiction fun hne => h1 ⟨by omega, hne⟩, rfl⟩)).mono ?_
    rintro e w' ⟨rfl, H⟩
    have ht : takeAns l = .error 0 := by unfold takeAns; rw [if_neg h1, if_pos h2]
    refine ⟨fun E hE => ?_, fun ck er id us a hE => ?_⟩
    · rw [ht] at hE; cases hE; exact ⟨rfl, H⟩
    · rw [ht] at hE; cases hE
  have hm : num (l.take 4) = 1128878913 := Decidable.byContradiction fun hne => h1 ⟨by omega, hne⟩
  have hbd := fN_bd hb 24 1
  obtain ⟨N, hN⟩ : ∃ N : Nat, fN l 24 1 = N := ⟨_, (Int.toNat_of_nonneg hbd.1).symm⟩
  obtain ⟨ad, rfl⟩ : ∃ ad, A = some ad := by
    obtain ⟨ad, y, e, _⟩ := hr.elemn HS (j := 0) (by omega)
    exact ⟨ad, e⟩
  by_cases h3 : 16 < fN l 24 1
  · refine (ref24takeA_long HS hr hb hc hl (by omega) hm hN (by omega)).mono ?_
    rintro e w' ⟨rfl, H⟩
    have ht : takeAns l = .error 3 := by unfold takeAns; rw [if_neg h1, if_neg h2, if_pos h3]
    refine ⟨fun E hE => ?_, fun ck er id us a hE => ?_⟩
    · rw [ht] at hE; cases hE; exact ⟨rfl, H⟩
    · rw [ht] at hE; cases hE
  · refine (ref24takeA_rest HS hr hb hc hl (by omega) hm hN (by omega)).mono ?_
    rintro e w' ⟨H1, H2⟩
    have ht : takeAns l = match volsFrom l 25 N with
      | .error e => .error e
      | .ok (vs, a) => .ok ((fN l 8 8, fN l 4 4, fN l 16 8), vs, a) := by unfold takeAns; rw [if_neg h1, if_neg h2, if_neg h3, hN, Int.toNat_natCast]; rfl
    rw [hN, Int.toNat_natCast]
    refine ⟨fun E hE => ?_, fun ck er id us a hE => ?_⟩
    · rw [ht] at hE
      split at hE
      · rename_i e' he; cases hE; exact H1 _ he
      · cases hE
    · rw [ht] at hE
      split at hE
      · cases hE
      · rename_i vs a' he
        cases hE
        exact H2 _ _ he
end
end Go.Proofs.Ytankfmfenbhkgaa
