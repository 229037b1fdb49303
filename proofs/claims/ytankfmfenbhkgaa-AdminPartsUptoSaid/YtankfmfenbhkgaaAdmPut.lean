/-
  Contracts of admin.bit and admin.put.
-/
import Derived.Test.YtankfmfenbhkgaaOrdC
import Derived.Test.YtankfmfenbhkgaaTapePT
import Derived.Test.YtankfmfenbhkgaaMark
namespace Go.Proofs.Ytankfmfenbhkgaa
open Go.RowKit
set_option linter.unusedVariables false
set_option linter.unusedSimpArgs false

/-- numbers and their sizes, as cells; as bytes -/
def ncells (p : Int × Nat) : List Value := [.int .u64 p.1, .int .i64 p.2]
def nrow (l : List (Int × Nat)) : List Value := l.flatMap ncells
def nput (l : List (Int × Nat)) : List Int := l.flatMap fun p => be p.2 p.1
theorem nrow_get (l : List (Int × Nat)) : ∀ (i j : Nat), j < 2 → (nrow l)[i * 2 + j]? = (l[i]?).bind fun x => (ncells x)[j]? := by
  induction l with
  | nil => intro i j _; simp [nrow]
  | cons x l ih =>
    intro i j hj
    have e : nrow (x :: l) = ncells x ++ nrow l := by simp [nrow]
    rw [e]
    cases i with
    | zero =>
      rw [Nat.zero_mul, Nat.zero_add, List.getElem?_append_left (by simpa [ncells] using hj)]
      simp
    | succ i =>
      rw [List.getElem?_append_right (by simp [ncells]; omega), show (i + 1) * 2 + j - (ncells x).length = i * 2 + j by simp [ncells]; omega, ih i j hj]
      simp
theorem nput_succ {l : List (Int × Nat)} {k : Nat} {p : Int × Nat} (h : l[k]? = some p) : nput (l.take (k + 1)) = nput (l.take k) ++ be p.2 p.1 := by
  unfold nput
  rw [List.take_add_one, h]
  simp

section
variable {w0 w : World} {O : Nat → Prop} {L : List Asr}

def bitV (b : Bool) : Int := if b then 1 else 0
theorem bit_calls (b : Bool) (w : World) : Calls Try.prog 25 #[.bool b] w fun e w' => e = .returned (.int .u64 (bitV b)) ∧ w = w' := by
  cases b
  all_goals
    go_enter Try.func25, Try.ntmps25
    go_wp2
    go_ret
    exact ⟨rfl, rfl⟩

set_option maxHeartbeats 1000000 in
theorem adput_calls {B : Option Addr} {n c g kc : Nat} {l : List Int} {r : List (Int × Nat)} (HS : Sep w0 w O (own 5 1 B n c (by8 l) :: own 65 2 (some ⟨g, 0, none⟩) r.length kc (nrow r) :: L))
    (hr : ∀ p ∈ r, 0 ≤ p.1 ∧ p.1 < 18446744073709551616 ∧ 1 ≤ p.2 ∧ p.2 ≤ 8) (hn : n ≤ 1000000) (hrl : r.length ≤ 16) :
    Calls Try.prog 24 #[.slice B n c, .slice (some ⟨g, 0, none⟩) r.length kc] w fun e w' => ∃ B' c', e = .returned (.slice B' (n + (nput r).length) c') ∧ Sep w0 w' O (own 5 1 B' (n + (nput r).length) c' (by8 (l ++ nput r)) :: L) := by
  have HR := hid hr
  clear hr
  go_enter Try.func24, Try.ntmps24
  go_wp2_with fail
  go_loopw [0, 9] (fun b i wr => ∃ (k c' : Nat) (B' : Option Addr), k ≤ r.length ∧ i = .int .i64 k ∧ b = .slice B' (n + (nput (r.take k)).length) c' ∧ (nput (r.take k)).length ≤ 8 * k ∧
    Sep w0 wr O (own 5 1 B' (n + (nput (r.take k)).length) c' (by8 (l ++ nput (r.take k))) :: own 65 2 (some ⟨g, 0, none⟩) r.length kc (nrow r) :: L)) (fun _ i _ => r.length - (intOf i).toNat)
  case atStart => exact ⟨0, c, B, Nat.zero_le _, rfl, rfl, Nat.le_refl _, by simpa [nput] using HS⟩
  case round =>
    obtain ⟨k, c', B', hk, rfl, rfl, hb, HS1⟩ := hrel
    by_cases hlt : k < r.length
    · have hr0 : r[k]? = some r[k] := List.getElem?_eq_getElem hlt
      have hmem := List.getElem_mem hlt
      generalize r[k] = p at hr0 hmem
      obtain ⟨h1, h2, h3, h4⟩ := HR.out p hmem
      obtain ⟨x, s⟩ := p
      dsimp only at h1 h2 h3 h4
      have HN := hid (nput_succ hr0)
      have hc0 : wr.cell? ⟨g, k * 2, none⟩ = some (.int .u64 x) := by
        obtain ⟨ad, hA, _, hcc⟩ := (Rb.i1.read HS1).2 (by omega)
        injection hA with hA; subst hA
        have := hcc (k * 2 + 0) (.int .u64 x) (by rw [nrow_get _ _ _ (by decide), hr0]; rfl)
        rwa [add_at] at this
      have hc1 : wr.cell? ⟨g, k * 2 + 1, none⟩ = some (.int .i64 s) := by
        obtain ⟨ad, hA, _, hcc⟩ := (Rb.i1.read HS1).2 (by omega)
        injection hA with hA; subst hA
        have := hcc (k * 2 + 1) (.int .i64 s) (by rw [nrow_get _ _ _ (by decide), hr0]; rfl)
        rwa [add_at] at this
      have hj : (k : Int) < r.length := by omega
      have HS2 := HS1.alloc #[.int .u64 x, .int .i64 s] 65
      clear hr0 hmem
      generalize hm : n + (nput (r.take k)).length = m at *
      have HM := hid hm
      clear hm
      go_wp2_with fail
      refine (put_ok (s := s) (x := x) HS2 Rb.i1 (by have := HM.out; omega) h3 h4 h1 (by omega)).mono ?_
      rintro e w3 ⟨B3, c3, rfl, HS3⟩
      go_wp2
      go_roundw
      case rel =>
        have e1 : n + (nput (r.take (k + 1))).length = m + s := by rw [HN.out, List.length_append, be_len, ← HM.out]; omega
        refine ⟨k + 1, c3, B3, by omega, by go_num, by rw [e1], by rw [HN.out, List.length_append, be_len]; omega, ?_⟩
        rw [e1, HN.out, ← List.append_assoc]
        exact HS3.sel 4 [0, 3]
      case measure => simp [intOf]; omega
    · obtain rfl : r.length = k := by omega
      rw [List.take_length] at HS1 ⊢
      go_wp2
      go_ret
      exact ⟨B', c', rfl, HS1.up1.drop⟩
end
end Go.Proofs.Ytankfmfenbhkgaa
