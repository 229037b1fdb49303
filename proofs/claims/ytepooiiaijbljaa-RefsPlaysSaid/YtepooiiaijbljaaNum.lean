/-
  Numbers as bytes, greatest first: plain facts, no program.
-/
import Derived.WalkKit
import Derived.Lib.EndianBits
namespace Go.Proofs.Ytepooiiaijbljaa
set_option linter.unusedVariables false
set_option linter.unusedSimpArgs false

theorem snoc_ind {α : Type} {P : List α → Prop} (h0 : P []) (h1 : ∀ l x, P l → P (l ++ [x])) (l : List α) : P l := by
  rw [← l.reverse_reverse]
  induction l.reverse with
  | nil => exact h0
  | cons x m ih => rw [List.reverse_cons]; exact h1 _ _ ih
/-- the last k bytes of a number, the greatest first -/
def be : Nat → Int → List Int
  | 0, _ => []
  | k + 1, n => be k (n / 256) ++ [n % 256]
/-- the number that bytes tell -/
def num (l : List Int) : Int := l.foldl (fun a x => 256 * a + x) 0
def Byt (l : List Int) : Prop := ∀ x ∈ l, 0 ≤ x ∧ x < 256
instance (l : List Int) : Decidable (Byt l) := inferInstanceAs (Decidable (∀ x ∈ l, 0 ≤ x ∧ x < 256))

theorem be_len (k : Nat) : ∀ n, (be k n).length = k := by
  induction k with
  | zero => intro n; rfl
  | succ k ih => intro n; simp [be, ih]
theorem be_byt (k : Nat) : ∀ n, Byt (be k n) := by
  induction k with
  | zero => intro n x hx; simp [be] at hx
  | succ k ih =>
    intro n x hx
    rcases List.mem_append.1 hx with hx | hx
    · exact ih _ x hx
    · simp at hx; subst hx; omega
theorem Byt.append {a b : List Int} (ha : Byt a) (hb : Byt b) : Byt (a ++ b) := fun x hx => (List.mem_append.1 hx).elim (ha x) (hb x)
theorem Byt.take {a : List Int} (ha : Byt a) (n : Nat) : Byt (a.take n) := fun x hx => ha x (List.mem_of_mem_take hx)
theorem Byt.drop {a : List Int} (ha : Byt a) (n : Nat) : Byt (a.drop n) := fun x hx => ha x (List.mem_of_mem_drop hx)
theorem Byt.nil : Byt [] := fun x hx => by cases hx
theorem num_nil : num [] = 0 := rfl
theorem num_snoc (l : List Int) (x : Int) : num (l ++ [x]) = 256 * num l + x := by simp [num, List.foldl_append]
theorem num_bd : ∀ l : List Int, Byt l → 0 ≤ num l ∧ num l < 256 ^ l.length := by
  intro l
  induction l using snoc_ind with
  | h0 => intro _; simp [num]
  | h1 l x ih =>
    intro h
    have h1 := ih fun y hy => h y (List.mem_append_left _ hy)
    have h2 := h x (by simp)
    rw [num_snoc, List.length_append, List.length_singleton, Int.pow_succ]
    omega
theorem num_be (k : Nat) : ∀ n : Int, num (be k n) = n % 256 ^ k := by
  induction k with
  | zero => intro n; simp [be, num, Int.emod_one]
  | succ k ih =>
    intro n
    rw [be, num_snoc, ih, Int.pow_succ]
    generalize hp : (256 : Int) ^ k = p
    have hp0 : 0 < p := by rw [← hp]; exact Int.pow_pos (by decide)
    have h := Int.mul_ediv_add_emod (n / 256) p
    have hb1 := Int.emod_nonneg (n / 256) (show p ≠ 0 by omega)
    have hb2 := Int.emod_lt_of_pos (n / 256) hp0
    have e : (p * 256) * (n / 256 / p) = 256 * (p * (n / 256 / p)) := by rw [Int.mul_comm p 256, Int.mul_assoc]
    generalize hq : p * (n / 256 / p) = m at *
    have hn : n = (256 * (n / 256 % p) + n % 256) + (p * 256) * (n / 256 / p) := by rw [e]; omega
    have h2 : n % (p * 256) = 256 * (n / 256 % p) + n % 256 := by
      rw [hn, Int.add_mul_emod_self_left]
      refine (Int.emod_eq_of_lt (by omega) (by omega)).trans ?_
      rw [← hn]
    omega
theorem be_num : ∀ l : List Int, Byt l → be l.length (num l) = l := by
  intro l
  induction l using snoc_ind with
  | h0 => intro _; rfl
  | h1 l x ih =>
    intro h
    have h1 := ih fun y hy => h y (List.mem_append_left _ hy)
    have h2 := h x (by simp)
    rw [num_snoc, List.length_append, List.length_singleton, be]
    have e1 : (256 * num l + x) / 256 = num l := by omega
    have e2 : (256 * num l + x) % 256 = x := by omega
    rw [e1, e2, h1]
theorem pow28 (m : Nat) : (2 : Int) ^ (8 * m) = 256 ^ m := by rw [Int.pow_mul]; rfl
theorem be_next (j : Nat) (x : Int) (m : Nat) : be (j + 1) (x / 256 ^ m) = be j (x / 256 ^ (m + 1)) ++ [x / 2 ^ (8 * m) % 256] := by
  rw [be, pow28, Int.pow_succ, Int.ediv_ediv_of_nonneg (Int.pow_nonneg (by decide))]
/-- one more byte, by '<<' and '|' -/
theorem or_byte (n x : Int) (h0 : 0 ≤ n) (h1 : n < 72057594037927936) (h2 : 0 ≤ x) (h3 : x < 256) : bits .or .u64 (n * 256) x = 256 * n + x := by
  rw [Int.mul_comm n 256]
  exact bits_join .u64 64 (by decide) wraps_u64 8 (256 * n) x (by omega) (by omega) (by omega) h2 h3 (by omega)
end Go.Proofs.Ytepooiiaijbljaa
