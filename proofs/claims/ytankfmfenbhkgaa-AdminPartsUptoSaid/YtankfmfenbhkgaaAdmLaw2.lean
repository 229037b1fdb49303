/-
  Take and TakeAnswer of any tape, in two cases: none is told; what was told, put again, is the same bytes.
-/
import Derived.Test.YtankfmfenbhkgaaAdmLaw
import Derived.Test.YtankfmfenbhkgaaAdmPut2
namespace Go.Proofs.Ytankfmfenbhkgaa
open Go.RowKit
set_option linter.unusedVariables false
set_option linter.unusedSimpArgs false
section
variable {w0 : World} {O : Nat → Prop}

theorem adm_cases {l : List Int} (hb : Byt l) (hl : l.length ≤ 140737488355328) :
    (∃ E : Int, ∀ {w : World} {L : List Asr} {g : Nat}, Sep w0 w O (Go.Proofs.Ytankfmfenbhkgaa.tape g l :: L) → Calls Try.prog 12 #[.pointer (some ⟨g, 0, none⟩)] w fun e w' => e = .returned (.tuple #[.agg zAdm, .bool false, .int .i64 E]) ∧ Sep w0 w' O (Go.Proofs.Ytankfmfenbhkgaa.tape g l :: L)) ∨
    (∃ (kd ck : Int) (nm au : ByteArray) (size : Int) (fixed : Bool) (gn : Nat), gn ≤ l.length ∧
      (∀ {w : World} {L : List Asr} {g : Nat}, Sep w0 w O (Go.Proofs.Ytankfmfenbhkgaa.tape g l :: L) → Calls Try.prog 12 #[.pointer (some ⟨g, 0, none⟩)] w fun e w' => e = .returned (.tuple #[.agg #[.int .i64 kd, .int .u64 ck, .string nm, .string au, .int .u64 size, .bool fixed], .bool true, .int .i64 0]) ∧ Sep w0 w' O (Go.Proofs.Ytankfmfenbhkgaa.tape g (l.drop gn) :: L)) ∧
      (∀ {w : World} {L : List Asr}, Sep w0 w O L → Calls Try.prog 9 #[.agg #[.int .i64 kd, .int .u64 ck, .string nm, .string au, .int .u64 size, .bool fixed]] w fun e w' => ∃ A' c', e = .returned (.tuple #[.slice A' gn c', .int .i64 0]) ∧ Sep w0 w' O (own 5 1 A' gn c' (by8 (l.take gn)) :: L))) := by
  cases h : (takeAdm l).ok
  · refine .inl ⟨(takeAdm l).err, fun HS => ?_⟩
    have h1 := admtake_calls HS hb hl
    rw [takeAdm_not l h] at h1
    exact h1
  · obtain ⟨h1, h2, h3, h4, ⟨h5, h6⟩, ⟨h7, h8⟩, h9, h10⟩ := takeAdm_back hb h
    refine .inr ⟨(takeAdm l).kd, (takeAdm l).ck, (takeAdm l).nm, (takeAdm l).au, (takeAdm l).size, (takeAdm l).fixed, (takeAdm l).gone, h4, fun HS => ?_, fun HS => ?_⟩
    · have := admtake_calls HS hb hl
      unfold atkV at this
      rw [h, h1] at this
      exact this
    · have := adminput_calls (fixed := (takeAdm l).fixed) (nm := (takeAdm l).nm) (au := (takeAdm l).au) HS (by omega) (by omega) h5 h6 h7 h8 (kd := (takeAdm l).kd)
      have e1 : (l.take (takeAdm l).gone).length = (takeAdm l).gone := by rw [List.length_take]; omega
      rw [if_pos h2, h3, e1, h2] at this
      exact this

theorem ans_cases {l : List Int} (hb : Byt l) (hl : l.length ≤ 140737488355328) :
    (∃ E : Int, ∀ {w : World} {L : List Asr} {g : Nat}, Sep w0 w O (Go.Proofs.Ytankfmfenbhkgaa.tape g l :: L) → Calls Try.prog 18 #[.pointer (some ⟨g, 0, none⟩)] w fun e w' => e = .returned (.tuple #[.agg zAns, .bool false, .int .i64 E]) ∧ Sep w0 w' O (Go.Proofs.Ytankfmfenbhkgaa.tape g l :: L)) ∨
    (∃ (ck er id : Int) (N gn : Nat) (vs : List Vol), gn ≤ l.length ∧ vs.length = N ∧
      (∀ {w : World} {L : List Asr} {g : Nat}, Sep w0 w O (Go.Proofs.Ytankfmfenbhkgaa.tape g l :: L) → Calls Try.prog 18 #[.pointer (some ⟨g, 0, none⟩)] w fun e w' => ∃ A' c', e = .returned (.tuple #[.agg #[.int .u64 ck, .int .u32 er, .int .u64 id, .slice A' N c'], .bool true, .int .i64 0]) ∧ Sep w0 w' O (own 48 6 A' N c' (vrow vs) :: Go.Proofs.Ytankfmfenbhkgaa.tape g (l.drop gn) :: L)) ∧
      (∀ {w : World} {L : List Asr} {A : Option Addr} {c : Nat}, Sep w0 w O L → Rb w0 O L 6 A N (vrow vs) → Calls Try.prog 16 #[.agg #[.int .u64 ck, .int .u32 er, .int .u64 id, .slice A N c]] w fun e w' => ∃ A' c', e = .returned (.tuple #[.slice A' gn c', .int .i64 0]) ∧ Sep w0 w' O (own 5 1 A' gn c' (by8 (l.take gn)) :: L))) := by
  by_cases h4 : 4 ≤ l.length ∧ num (l.take 4) ≠ 1128878913
  · exact .inl ⟨33, fun HS => takeansA_zero (.inr (.inl ⟨h4.1, h4.2, rfl⟩)) HS hb hl⟩
  have hm' : 4 ≤ l.length → num (l.take 4) = 1128878913 := fun h => Classical.byContradiction fun h' => h4 ⟨h, h'⟩
  by_cases h25 : l.length < 25
  · refine .inl ⟨0, fun HS => takeansA_zero ?_ HS hb hl⟩
    by_cases h : l.length < 4
    · exact .inl ⟨h, rfl⟩
    · exact .inr (.inr ⟨by omega, hm' (by omega), h25, rfl⟩)
  have hm := hm' (by omega)
  have bN := fN_bd hb 24 1
  obtain ⟨N, hN⟩ : ∃ N : Nat, fN l 24 1 = N := ⟨_, (Int.toNat_of_nonneg bN.1).symm⟩
  by_cases h16 : 16 < N
  · exact .inl ⟨3, fun HS => takeansA_long (by omega) hm hN h16 HS hb hl⟩
  cases hv : volsFrom l 25 N with
  | error E => exact .inl ⟨E, fun HS => takeansA_bad (by omega) hm hN (by omega) hv HS hb hl⟩
  | ok x =>
    obtain ⟨vs, a⟩ := x
    obtain ⟨h1, h2, h3, h5⟩ := ans_back hb (by omega) hm hN hv
    have b4 := fN_bd hb 4 4
    have b8 := fN_bd hb 8 8
    have b16 := fN_bd hb 16 8
    simp only [show (256 : Int) ^ 8 = 18446744073709551616 from rfl, show (256 : Int) ^ 4 = 4294967296 from rfl] at b4 b8 b16
    refine .inr ⟨fN l 8 8, fN l 4 4, fN l 16 8, N, a, vs, h2, h3, fun HS => ?_, fun HS hr => ?_⟩
    · refine (takeansA_ok (by omega) hm hN (by omega) hv HS hb hl).mono ?_
      rintro e w' ⟨A', c', rfl, _, _, H⟩
      exact ⟨A', c', rfl, H⟩
    · refine (putansA_calls HS hr h3 (fun v hv => (h5 v hv).2.2) (by omega) b8.1 b8.2 b4.1 b4.2 b16.1 b16.2).mono ?_
      rintro e w' ⟨H, _⟩
      have H' := H fun v hv => (h5 v hv).1
      have e1 : (l.take a).length = a := by rw [List.length_take]; omega
      rw [h1, e1] at H'
      exact H'
end
end Go.Proofs.Ytankfmfenbhkgaa
