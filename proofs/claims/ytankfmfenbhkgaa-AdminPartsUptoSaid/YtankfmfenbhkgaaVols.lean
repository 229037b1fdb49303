/-
  Rows of volumes.
-/
import Derived.Test.YtankfmfenbhkgaaAdmPut2
import Derived.Test.YtankfmfenbhkgaaRow2
namespace Go.Proofs.Ytankfmfenbhkgaa
open Go.RowKit
set_option linter.unusedVariables false
set_option linter.unusedSimpArgs false
structure Vol where
  id : Int
  nm : ByteArray
  size : Int
  root : Int
  fixed : Bool
  orig : Int
def Vol.cells (v : Vol) : List Value := [.int .u64 v.id, .string v.nm, .int .u64 v.size, .int .u64 v.root, .bool v.fixed, .int .u64 v.orig]
/-- the numbers of a volume are in their bounds -/
def Vol.Ok (v : Vol) : Prop := (0 ≤ v.id ∧ v.id < 18446744073709551616) ∧ (0 ≤ v.size ∧ v.size < 18446744073709551616) ∧ (0 ≤ v.root ∧ v.root < 18446744073709551616) ∧ (0 ≤ v.orig ∧ v.orig < 18446744073709551616) ∧ v.nm.size ≤ 140737488351232
def vrow (l : List Vol) : List Value := l.flatMap Vol.cells
theorem vcells_len (v : Vol) : v.cells.length = 6 := rfl
theorem vrow_len (l : List Vol) : (vrow l).length = l.length * 6 := by
  induction l with
  | nil => rfl
  | cons v l ih =>
    have : vrow (v :: l) = v.cells ++ vrow l := by simp [vrow]
    rw [this, List.length_append, ih, vcells_len, List.length_cons]; omega
theorem vrow_get (l : List Vol) : ∀ (i j : Nat), j < 6 → (vrow l)[i * 6 + j]? = (l[i]?).bind fun x => x.cells[j]? := by
  induction l with
  | nil => intro i j _; simp [vrow]
  | cons x l ih =>
    intro i j hj
    have e : vrow (x :: l) = x.cells ++ vrow l := by simp [vrow]
    rw [e]
    cases i with
    | zero =>
      rw [Nat.zero_mul, Nat.zero_add, List.getElem?_append_left (by simpa [Vol.cells] using hj)]
      simp
    | succ i =>
      rw [List.getElem?_append_right (by simp [Vol.cells]; omega), show (i + 1) * 6 + j - x.cells.length = i * 6 + j by rw [vcells_len]; omega, ih i j hj]
      simp
/-- a volume, as it goes over the wire -/
def vbytes (v : Vol) : List Int := nput [(v.id, 8), (v.size, 8), (v.orig, 8), (bitV v.fixed, 1), ((v.nm.size : Int), 1)] ++ strInts v.nm
theorem vbytes_len (v : Vol) : (vbytes v).length = 26 + v.nm.size := by simp [vbytes, nput, be_len, strInts_len]; omega
def vsbytes (l : List Vol) : List Int := l.flatMap vbytes
theorem vsbytes_succ {l : List Vol} {k : Nat} {v : Vol} (h : l[k]? = some v) : vsbytes (l.take (k + 1)) = vsbytes (l.take k) ++ vbytes v := by
  unfold vsbytes
  rw [List.take_add_one, h]
  simp
section
variable {w0 w : World} {O : Nat → Prop} {L : List Asr}
/-- the cells of the volume k of a row that is read -/
theorem Rb.volAt {A : Option Addr} {n k : Nat} {l : List Vol} (hr : Rb w0 O L 6 A n (vrow l)) (HS : Sep w0 w O L) (hk : k < n) :
    ∃ ad v, A = some ad ∧ l[k]? = some v ∧ w.cell? (ad.add (k * 6)) = some (.int .u64 v.id) ∧ w.cell? ⟨(ad.add (k * 6)).block, (ad.add (k * 6)).off + 1, none⟩ = some (.string v.nm) ∧ w.cell? ⟨(ad.add (k * 6)).block, (ad.add (k * 6)).off + 2, none⟩ = some (.int .u64 v.size) ∧
      w.cell? ⟨(ad.add (k * 6)).block, (ad.add (k * 6)).off + 3, none⟩ = some (.int .u64 v.root) ∧ w.cell? ⟨(ad.add (k * 6)).block, (ad.add (k * 6)).off + 4, none⟩ = some (.bool v.fixed) ∧ w.cell? ⟨(ad.add (k * 6)).block, (ad.add (k * 6)).off + 5, none⟩ = some (.int .u64 v.orig) := by
  have hl : (vrow l).length = n * 6 := hr.len HS
  rw [vrow_len] at hl
  have hlt : k < l.length := by omega
  obtain ⟨ad, hA, _, hc⟩ := (hr.read HS).2 (by omega)
  have hv : l[k]? = some l[k] := List.getElem?_eq_getElem hlt
  have hh : ∀ i v, (l[k]).cells[i]? = some v → i < 6 → w.cell? ((ad.add (k * 6)).add i) = some v := by
    intro i v hi h6
    rw [add_add]
    exact hc (k * 6 + i) v (by rw [vrow_get l k i h6, hv]; exact hi)
  have hh' : ∀ i v, (l[k]).cells[i]? = some v → i < 6 → 0 < i → w.cell? ⟨(ad.add (k * 6)).block, (ad.add (k * 6)).off + i, none⟩ = some v := by
    intro i v hi h6 h0
    have := hh i v hi h6
    rwa [show (ad.add (k * 6)).add i = ⟨(ad.add (k * 6)).block, (ad.add (k * 6)).off + i, none⟩ by unfold Addr.add; rw [if_neg (show ¬ i = 0 by omega)]] at this
  have h0 := hh 0 _ rfl (by decide)
  rw [show (ad.add (k * 6)).add 0 = ad.add (k * 6) by simp [Addr.add]] at h0
  exact ⟨ad, l[k], hA, hv, h0, hh' 1 _ rfl (by decide) (by decide), hh' 2 _ rfl (by decide) (by decide), hh' 3 _ rfl (by decide) (by decide), hh' 4 _ rfl (by decide) (by decide), hh' 5 _ rfl (by decide) (by decide)⟩
end
end Go.Proofs.Ytankfmfenbhkgaa
