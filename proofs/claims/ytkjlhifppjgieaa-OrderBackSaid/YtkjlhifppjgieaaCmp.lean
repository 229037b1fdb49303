/-
  bytes.Compare: the order of rows of bytes.
-/
import Derived.Test.YtkjlhifppjgieaaByt
import Derived.Test.YtkjlhifppjgieaaOrdC
import Derived.Laws.Externs
namespace Go.Proofs.Ytkjlhifppjgieaa
open Go.RowKit
set_option linter.unusedVariables false
set_option linter.unusedSimpArgs false

theorem loadBytes_run {P : Program} {w : World} : ∀ (l : List Int) (ad : Addr) (acc : ByteArray), (∀ (j : Nat) x, l[j]? = some x → w.cell? (ad.add j) = some (.int .u8 x)) →
    (Extern.Bytes.loadBytes ad l.length acc).run P w = .ok (l.foldl (fun r n => r.push (UInt8.ofNat n.toNat)) acc) w
  | [], ad, acc, _ => by simp [Extern.Bytes.loadBytes, Sem.run_pure]
  | x :: l, ad, acc, h => by
    have h0 := h 0 x rfl
    have e0 : ad.add 0 = ad := by simp [Addr.add]
    rw [e0] at h0
    have ih := loadBytes_run (P := P) (w := w) l (ad.add 1) (acc.push x.toNat.toUInt8) (fun j y hy => by
      rw [add_add, Nat.add_comm]; exact h (j + 1) y (by simpa using hy))
    simp only [List.length_cons, Extern.Bytes.loadBytes, Sem.run_bind, run_load, h0, Result.andThen, List.foldl_cons]
    exact ih
theorem bytesOf_run {P : Program} {w : World} {F : Nat → Prop} {A : Option Addr} {n c : Nat} {l : List Int} (hr : Rd w.heap F 1 A n (by8 l)) :
    (Extern.Bytes.bytesOf (.slice A n c)).run P w = .ok (strOfNums l) w := by
  have hl : l.length = n := by have := hr.1; simpa [kv] using this
  subst hl
  rcases A with _ | ad
  · have h0 : l.length = 0 := by
      rcases Nat.eq_zero_or_pos l.length with h0 | h0
      · exact h0
      · obtain ⟨ad, h, _⟩ := hr.2 h0
        cases h
    have : l = [] := List.eq_nil_of_length_eq_zero h0
    subst this
    rfl
  · show (Extern.Bytes.loadBytes ad l.length .empty).run P w = _
    rw [loadBytes_run l ad .empty (fun j x hx => by
      have hj : 0 < l.length := List.length_pos_of_mem (List.mem_of_getElem? hx)
      obtain ⟨ad', h, _, hc⟩ := hr.2 hj
      injection h with h; subst h
      exact hc j _ (by simp [kv, hx])), foldl_push_bytes]
    simp [strOfNums, ByteArray.empty, ByteArray.emptyWithCapacity]
    rfl

theorem num_app (p : List Int) : ∀ q : List Int, num (p ++ q) = num p * 256 ^ q.length + num q := by
  intro q
  induction q using snoc_ind with
  | h0 => simp [num]
  | h1 q x ih =>
    rw [← List.append_assoc, num_snoc, ih, num_snoc, List.length_append, List.length_singleton, Int.pow_succ, ← Int.mul_assoc]
    generalize num p * 256 ^ q.length = K
    omega
theorem num_less {p r t : List Int} {x y : Int} (hr : Byt r) (ht : Byt t) (hl : r.length = t.length) (hxy : x < y) : num (p ++ x :: r) < num (p ++ y :: t) := by
  have e : ∀ (z : Int) (q : List Int), num (p ++ z :: q) = num p * 256 ^ (q.length + 1) + (z * 256 ^ q.length + num q) := fun z q => by
    rw [num_app, List.length_cons]
    have : num (z :: q) = num ([z] ++ q) := rfl
    rw [this, num_app]; simp [num]
  rw [e, e, hl]
  have h1 := num_bd r hr
  have h2 := num_bd t ht
  rw [hl] at h1
  have h3 : (x + 1) * 256 ^ t.length ≤ y * 256 ^ t.length := Int.mul_le_mul_of_nonneg_right (by omega) (Int.pow_nonneg (by decide))
  rw [Int.add_mul, Int.one_mul] at h3
  omega
theorem str_at (l : List Int) (i : Nat) (hi : i < l.length) : (strOfNums l)[i]! = UInt8.ofNat l[i].toNat := by
  have hs : i < (strOfNums l).size := by rw [strOfNums_size]; exact hi
  rw [getElem!_pos _ i hs]
  show (strOfNums l).data[i] = _
  simp [strOfNums]
/-- rows of one length are ordered as their numbers -/
theorem cmp_num {a b : List Int} (ha : Byt a) (hb : Byt b) (hl : a.length = b.length) : (Extern.BytealgCompare.cmp (strOfNums a) (strOfNums b) < 0 ↔ num a < num b) := by
  unfold Extern.BytealgCompare.cmp
  rw [strOfNums_size, strOfNums_size, hl, Nat.min_self]
  split
  · rename_i i hi
    rw [List.find?_range_eq_some] at hi
    obtain ⟨h1, h2, h3⟩ := hi
    have hib : i < b.length := by simpa using h2
    have hia : i < a.length := by omega
    rw [str_at a i hia, str_at b i hib] at h1 ⊢
    have hx := ha a[i] (List.getElem_mem _)
    have hy := hb b[i] (List.getElem_mem _)
    have hpre : a.take i = b.take i := by
      apply List.ext_getElem?
      intro j
      by_cases hj : j < i
      · rw [List.getElem?_take, List.getElem?_take, if_pos hj, if_pos hj]
        have h4 := h3 j hj
        rw [str_at a j (by omega), str_at b j (by omega)] at h4
        simp only [Bool.not_eq_true', bne_eq_false_iff_eq, Bool.not_not, Bool.not_eq_eq_eq_not, Bool.not_true] at h4
        rw [List.getElem?_eq_getElem (by omega), List.getElem?_eq_getElem (by omega)]
        exact congrArg some (u8_inj (ha _ (List.getElem_mem _)) (hb _ (List.getElem_mem _)) h4)
      · rw [List.getElem?_take, List.getElem?_take, if_neg hj, if_neg hj]
    have ea : a = a.take i ++ a[i] :: a.drop (i + 1) := by rw [List.getElem_cons_drop]; exact (List.take_append_drop i a).symm
    have eb : b = a.take i ++ b[i] :: b.drop (i + 1) := by rw [hpre, List.getElem_cons_drop]; exact (List.take_append_drop i b).symm
    have hne : a[i] ≠ b[i] := fun e => by rw [e] at h1; simp at h1
    have hdl : (a.drop (i + 1)).length = (b.drop (i + 1)).length := by simp [hl]
    have hlt : (UInt8.ofNat a[i].toNat < UInt8.ofNat b[i].toNat) ↔ a[i] < b[i] := by
      rw [UInt8.lt_iff_toNat_lt]; simp; omega
    by_cases hc : a[i] < b[i]
    · rw [if_pos (hlt.2 hc)]
      refine ⟨fun _ => ?_, fun _ => by decide⟩
      have := num_less (p := a.take i) (ha.drop (i + 1)) (hb.drop (i + 1)) hdl hc
      rwa [← ea, ← eb] at this
    · rw [if_neg (fun h => hc (hlt.1 h))]
      refine ⟨fun h => absurd h (by decide), fun h => ?_⟩
      have := num_less (p := a.take i) (hb.drop (i + 1)) (ha.drop (i + 1)) hdl.symm (show b[i] < a[i] by omega)
      rw [← ea, ← eb] at this
      omega
  · rename_i hi
    have hab : a = b := by
      apply List.ext_getElem hl
      intro j h1 h2
      rw [List.find?_range_eq_none] at hi
      have h4 := hi j (by omega)
      rw [str_at a j h1, str_at b j h2] at h4
      simp only [bne_iff_ne, ne_eq, Decidable.not_not, Bool.not_eq_true', bne_eq_false_iff_eq, Bool.not_eq_eq_eq_not, Bool.not_true] at h4
      exact u8_inj (ha _ (List.getElem_mem _)) (hb _ (List.getElem_mem _)) h4
    subst hab
    simp
section
variable {w0 w : World} {O : Nat → Prop} {L : List Asr}
theorem compare_calls {A B : Option Addr} {n c m d : Nat} {a b : List Int} (HS : Sep w0 w O L) (ha : Rb w0 O L 1 A n (by8 a)) (hb : Rb w0 O L 1 B m (by8 b)) :
    Calls Try.prog 27 #[.slice A n c, .slice B m d] w fun e w' => e = .returned (.int .i64 (Extern.BytealgCompare.cmp (strOfNums a) (strOfNums b))) ∧ w = w' := by
  have r1 := bytesOf_run (P := Try.prog) (c := c) (ha.read HS)
  have r2 := bytesOf_run (P := Try.prog) (c := d) (hb.read HS)
  have hcf : (callFunc 30 #[.slice A n c, .slice B m d]).run Try.prog w = .ok (.value (.int .i64 (Extern.BytealgCompare.cmp (strOfNums a) (strOfNums b)))) w := by
    rw [run_callFunc_extern (e := Extern.BytealgCompare.compare) Try.func30 (by kernel_rfl) (by kernel_rfl) (by kernel_rfl) (by kernel_rfl)]
    change Result.andThen (Sem.run Try.prog (do
      let x ← Extern.Bytes.bytesOf (.slice A n c)
      let y ← Extern.Bytes.bytesOf (.slice B m d)
      pure (goInt (Extern.BytealgCompare.cmp x y))) w) _ = _
    simp only [Sem.run_bind, r1, r2, Result.andThen, Sem.run_pure, goInt]
  go_enter Try.func27, Try.ntmps27
  go_wp2
  go_ret
  exact ⟨rfl, rfl⟩
end
end Go.Proofs.Ytkjlhifppjgieaa
