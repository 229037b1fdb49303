/-
  Volumes one behind the other: the plain law, and the contracts of volume (any state) and times.
-/
import Derived.Test.YtankfmfenbhkgaaAdmVol
namespace Go.Proofs.Ytankfmfenbhkgaa
open Go.RowKit
set_option linter.unusedVariables false
set_option linter.unusedSimpArgs false
theorem info_vol6 : (Try.prog.info? 48).map (fun i => (i.zero, i.size, i.bytes)) = some (some (.agg #[.int .u64 0, .string noStr, .int .u64 0, .int .u64 0, .bool false, .int .u64 0]), 6, 56) := by kernel_rfl
/-- the volume that stands at a place, and where it ends; an error (0: more is to come) -/
def volAt (l : List Int) (a : Nat) : Except Int (Vol × Nat) :=
  if l.length < a + 26 then .error 0 else if 1 < fN l (a + 24) 1 then .error 5 else if 16 < fN l (a + 25) 1 then .error 3
  else if l.length < a + 26 + (fN l (a + 25) 1).toNat then .error 0
  else .ok (⟨fN l a 8, strOfNums ((l.drop (a + 26)).take (fN l (a + 25) 1).toNat), fN l (a + 8) 8, 0, fN l (a + 24) 1 == 1, fN l (a + 16) 8⟩, a + 26 + (fN l (a + 25) 1).toNat)
def volsFrom (l : List Int) (a : Nat) : Nat → Except Int (List Vol × Nat)
  | 0 => .ok ([], a)
  | k + 1 => match volsFrom l a k with
    | .error e => .error e
    | .ok (vs, b) => match volAt l b with
      | .error e => .error e
      | .ok (v, b') => .ok (vs ++ [v], b')
/-- where a reader stands behind k volumes -/
def VInv (l : List Int) (a0 : Nat) (s0 : Bool) (e0 : Int) (k : Nat) (vs : List Vol) (a : Nat) (s : Bool) (e : Int) : Prop :=
  (s0 = true ∧ s = true ∧ e = e0) ∨ (s0 = false ∧ ((s = true ∧ volsFrom l a0 k = .error e) ∨ (s = false ∧ e = 0 ∧ volsFrom l a0 k = .ok (vs, a))))
section
variable {w0 w : World} {O : Nat → Prop} {L : List Asr}

theorem rvol_any {g a n c : Nat} {A : Option Addr} {l : List Int} {stop : Bool} {e : Int} (HS : Sep w0 w O (rdB g A n c a stop e :: L)) (hr : Rb w0 O L 1 A n (by8 l)) (hb : Byt l) (hA : (A = none ∧ n = 0 ∧ c = 0) ∨ ∃ ad, A = some ad) (hc : n ≤ c) (hn : n ≤ 140737488355328) (ha : a ≤ n) (he : stop = false → e = 0) :
    Calls Try.prog 37 #[.pointer (some ⟨g, 0, none⟩)] w fun e' w' => ∃ (v : Vol) (a' : Nat) (s' : Bool) (f : Int), e' = .returned (.agg #[.int .u64 v.id, .string v.nm, .int .u64 v.size, .int .u64 v.root, .bool v.fixed, .int .u64 v.orig]) ∧ a' ≤ n ∧ (s' = false → f = 0) ∧ Sep w0 w' O (rdB g A n c a' s' f :: L) ∧
      (stop = true → s' = true ∧ f = e) ∧ (stop = false → (s' = true ∧ volAt l a = .error f) ∨ (s' = false ∧ volAt l a = .ok (v, a'))) := by
  have hl := hr.cons.klen HS
  subst hl
  cases stop
  · have he0 := he rfl
    subst he0
    by_cases h26 : l.length < a + 26
    · refine (rvol_zero (E := 0) rfl HS hr hb hA hc hn ha (.inr h26)).mono ?_
      rintro e' w' ⟨rfl, H⟩
      exact ⟨⟨0, noStr, 0, 0, false, 0⟩, a, true, 0, rfl, ha, by simp, H, by simp, fun _ => .inl ⟨rfl, by unfold volAt; rw [if_pos h26]⟩⟩
    have h26' : a + 26 ≤ l.length := by omega
    by_cases h1 : 1 < fN l (a + 24) 1
    · refine (rvol_form HS hr hb hA hc hn ha h26' h1).mono ?_
      rintro e' w' ⟨v, rfl, H⟩
      exact ⟨v, a + 26, true, 5, rfl, h26', by simp, H, by simp, fun _ => .inl ⟨rfl, by unfold volAt; rw [if_neg h26, if_pos h1]⟩⟩
    have hy := fN_bd hb (a + 25) 1
    obtain ⟨k, hk⟩ : ∃ k : Nat, fN l (a + 25) 1 = k := ⟨_, (Int.toNat_of_nonneg hy.1).symm⟩
    by_cases h16 : 16 < fN l (a + 25) 1
    · refine (rvol_long HS hr hb hA hc hn ha h26' h1 h16).mono ?_
      rintro e' w' ⟨v, rfl, H⟩
      exact ⟨v, a + 26, true, 3, rfl, h26', by simp, H, by simp, fun _ => .inl ⟨rfl, by unfold volAt; rw [if_neg h26, if_neg h1, if_pos h16]⟩⟩
    by_cases hf : l.length < a + 26 + k
    · refine (rvol_few HS hr hb hA hc hn ha h26' h1 h16 (by omega)).mono ?_
      rintro e' w' ⟨v, rfl, H⟩
      exact ⟨v, a + 26, true, 0, rfl, h26', by simp, H, by simp, fun _ => .inl ⟨rfl, by unfold volAt; rw [if_neg h26, if_neg h1, if_neg h16, hk, Int.toNat_natCast, if_pos hf]⟩⟩
    · refine (rvol_ok HS hr hb hA hc hn ha h26' h1 hk (by omega) (by omega)).mono ?_
      rintro e' w' ⟨rfl, H⟩
      exact ⟨_, a + 26 + k, false, 0, rfl, by omega, fun _ => rfl, H, by simp, fun _ => .inr ⟨rfl, by unfold volAt; rw [if_neg h26, if_neg h1, if_neg h16, hk, Int.toNat_natCast, if_neg hf]⟩⟩
  · refine (rvol_zero (E := e) rfl HS hr hb hA hc hn ha (.inl rfl)).mono ?_
    rintro e' w' ⟨rfl, H⟩
    exact ⟨⟨0, noStr, 0, 0, false, 0⟩, a, true, e, rfl, ha, by simp, H, fun _ => ⟨rfl, rfl⟩, by simp⟩

theorem VInv.step {l : List Int} {a0 k a a' : Nat} {s0 s s' : Bool} {e0 e f : Int} {vs : List Vol} {v : Vol} (h : VInv l a0 s0 e0 k vs a s e)
    (h1 : s = true → s' = true ∧ f = e) (h2 : s = false → (s' = true ∧ volAt l a = .error f) ∨ (s' = false ∧ volAt l a = .ok (v, a'))) (h3 : s' = false → f = 0) : VInv l a0 s0 e0 (k + 1) (vs ++ [v]) a' s' f := by
  rcases h with ⟨x1, x2, x3⟩ | ⟨x1, ⟨x2, x3⟩ | ⟨x2, x3, x4⟩⟩
  · obtain ⟨y1, y2⟩ := h1 x2
    exact .inl ⟨x1, y1, y2.trans x3⟩
  · obtain ⟨y1, y2⟩ := h1 x2
    refine .inr ⟨x1, .inl ⟨y1, ?_⟩⟩
    rw [volsFrom, x3, y2]
  · refine .inr ⟨x1, ?_⟩
    rcases h2 x2 with ⟨y1, y2⟩ | ⟨y1, y2⟩
    · exact .inl ⟨y1, by rw [volsFrom, x4]; simp only [y2]⟩
    · exact .inr ⟨y1, h3 y1, by rw [volsFrom, x4]; simp only [y2]⟩

set_option maxHeartbeats 2000000 in
theorem times_calls {g a0 n c N : Nat} {A : Option Addr} {l : List Int} {s0 : Bool} {e0 : Int} (HS : Sep w0 w O (rdB g A n c a0 s0 e0 :: L)) (hr : Rb w0 O L 1 A n (by8 l)) (hb : Byt l) (hA : (A = none ∧ n = 0 ∧ c = 0) ∨ ∃ ad, A = some ad) (hc : n ≤ c) (hn : n ≤ 140737488355328) (ha : a0 ≤ n) (he : s0 = false → e0 = 0) (hN : N ≤ 256) :
    Calls Try.prog 36 #[.int .u64 N, .func (.func 37) #[.pointer (some ⟨g, 0, none⟩)] #[]] w fun e' w' => ∃ (A' : Option Addr) (c' : Nat) (vs : List Vol) (a : Nat) (s : Bool) (e : Int), e' = .returned (.slice A' N c') ∧ vs.length = N ∧ a ≤ n ∧ (s = false → e = 0) ∧ VInv l a0 s0 e0 N vs a s e ∧ Sep w0 w' O (own 48 6 A' N c' (vrow vs) :: rdB g A n c a s e :: L) := by
  obtain ⟨i0, hi0, hz0, hz1, hz2⟩ := info_parts info_vol6
  have HH := hid (And.intro hA (And.intro he hb))
  have hN2 : N * 56 ≤ 140737488355328 := by omega
  clear hA he hb
  obtain ⟨Q, hQ⟩ : ∃ Q : Ending → World → Prop, Q = fun e' w' => ∃ (A' : Option Addr) (c' : Nat) (vs : List Vol) (a : Nat) (s : Bool) (e : Int), e' = .returned (.slice A' N c') ∧ vs.length = N ∧ a ≤ n ∧ (s = false → e = 0) ∧ VInv l a0 s0 e0 N vs a s e ∧ Sep w0 w' O (own 48 6 A' N c' (vrow vs) :: rdB g A n c a s e :: L) := ⟨_, rfl⟩
  have HQ := hid hQ
  rw [← hQ]
  clear hQ
  go_enter Try.func36, Try.ntmps36
  go_wp2_with fail
  go_loopw [5, 7] (fun b i wr => ∃ (k c' : Nat) (B : Option Addr) (vs : List Vol) (a : Nat) (s : Bool) (e : Int), k ≤ N ∧ i = .int .u64 k ∧ b = .slice B k c' ∧ vs.length = k ∧ a ≤ n ∧ Aside (s = false → e = 0) ∧ Aside (VInv l a0 s0 e0 k vs a s e) ∧ Sep w0 wr O (own 48 6 B k c' (vrow vs) :: rdB g A n c a s e :: L)) (fun _ i _ => N - (intOf i).toNat)
  case atStart =>
    refine ⟨0, 0, none, [], a0, s0, e0, Nat.zero_le _, rfl, rfl, rfl, ha, ⟨HH.out.2.1⟩, ⟨?_⟩, HS.nil _ _⟩
    cases s0
    · exact .inr ⟨rfl, .inr ⟨rfl, HH.out.2.1 rfl, rfl⟩⟩
    · exact .inl ⟨rfl, rfl, rfl⟩
  case round =>
    obtain ⟨k, c', B, vs, a, s, e, hk, rfl, rfl, hvl, haa, hse, hinv, HS1⟩ := hrel
    by_cases hlt : k < N
    · have hj : (k : Int) < N := by omega
      have hw : IntKind.u64.wrap ((k : Int) + 1) = k + 1 := by rw [IntKind.wrap_u64]; omega
      have HVL := hid hvl
      clear hvl
      go_wp2_with fail
      refine (rvol_any HS1.up1 hr.cons HH.out.2.2 HH.out.1 hc hn haa hse.out).mono ?_
      rintro e' w2 ⟨v, a2, s2, f2, rfl, ha2, hf2, HS2, hs1, hs2⟩
      have HI := hid (hinv.out.step hs1 hs2 hf2)
      have HF2 := hid hf2
      clear hs1 hs2 hf2 HS1
      have HL := (HS2.litB #[.int .u64 v.id, .string v.nm, .int .u64 v.size, .int .u64 v.root, .bool v.fixed, .int .u64 v.orig] 48 6 1 rfl (by decide) rfl).up2
      have h1c : ∀ u ∈ (#[.int .u64 v.id, .string v.nm, .int .u64 v.size, .int .u64 v.root, .bool v.fixed, .int .u64 v.orig] : Array Value).toList, u.oneCell' = true := by
        intro u hu
        simp at hu
        rcases hu with rfl | rfl | rfl | rfl | rfl | rfl <;> rfl
      have hb3 : k + 1 ≤ maxLen := by simp only [maxLen]; omega
      have hb4 : (k + 1) * 56 ≤ 140737488355328 := by omega
      have hvr : vrow vs ++ (#[.int .u64 v.id, .string v.nm, .int .u64 v.size, .int .u64 v.root, .bool v.fixed, .int .u64 v.orig] : Array Value).toList = vrow (vs ++ [v]) := by simp [vrow, Vol.cells]
      have HVR := hid hvr
      clear hvr
      go_wp2_with (at_builtin; go_loud (refine wpList_append_sep rfl (.tmp 9) (.tmp 12) 41 rfl 48 i0 _ 6 56 Try.underlying41 hi0 hz0 hz1 hz2 rfl (by decide) rfl HL rfl HL.rd1 h1c hb3 hb4 rfl rfl ?_); intro B3 c3 w3 HS3 hsz3)
      go_roundw
      case rel =>
        refine ⟨k + 1, c3, B3, vs ++ [v], a2, s2, f2, by omega, by go_num, rfl, by rw [List.length_append, HVL.out]; rfl, ha2, HF2, HI, ?_⟩
        rw [← HVR.out]
        exact HS3.sel 3 [0, 2]
      case measure => simp [intOf]; omega
    · obtain rfl : N = k := by omega
      have hj : ¬ (N : Int) < N := by omega
      go_wp2
      rw [HQ.out]
      exact ⟨B, c', vs, a, s, e, rfl, hvl, haa, hse.out, hinv.out, HS1⟩
end
end Go.Proofs.Ytankfmfenbhkgaa
