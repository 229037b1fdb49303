/-
  Contracts of cisternlaw22.short and Talk.client.
-/
import Derived.Test.YtgepekailoopeaaLaw22
import Derived.Test.YtgepekailoopeaaPartRows
namespace Go.Proofs.Ytgepekailoopeaa
open Go.RowKit
set_option linter.unusedVariables false
set_option linter.unusedSimpArgs false
theorem Sep.cell_old {w0 w : World} {L : List Asr} (HS : Sep w0 w (fun _ => False) L) {a : Addr} {v : Value} (h : cellH w0.heap a = some v) : w.cell? a = some v :=
  (cellH_same (HS.old _ (cellH_lt h) (fun e => e))).trans h
theorem min256 (n : Nat) : (if (256 : Int) < n then (256 : Int) else n) = (min n 256 : Nat) := by split <;> omega
set_option maxRecDepth 100000 in
set_option maxHeartbeats 2000000 in
theorem short_calls {w : World} {A : Option Addr} {n c m : Nat} (hm : m = min n 256) (hc : n ≤ c) :
    Calls Try.prog 80 #[.slice A n c] w fun e w' => e = .returned (.slice A m c) ∧ w = w' := by
  by_cases h : n ≤ 256
  · obtain rfl : m = n := by omega
    have h1 : (m : Int) ≤ 256 := by omega
    clear hm h
    have h2 : (m : Int) ≤ c := by omega
    have h3 : (0 : Int) ≤ m := by omega
    go_enter Try.func80, Try.ntmps80
    go_wp2
    all_goals
      go_ret
      exact ⟨rfl, rfl⟩
  · obtain rfl : m = 256 := by omega
    have h1 : ¬ (n : Int) ≤ 256 := by omega
    have h2 : (256 : Int) ≤ c := by omega
    clear hm h
    go_enter Try.func80, Try.ntmps80
    go_wp2
    all_goals
      go_ret
      exact ⟨rfl, rfl⟩
structure Tk (h : Array Obj) (fl : Int) (Ao : Option Addr) (no co : Nat) (os : List Ho) (Ar : Option Addr) (nr cr : Nat) (rs : List Hr) (sz : Int) : Prop where
  f0 : 0 ≤ fl
  f1 : fl < 4294967296
  z0 : 0 ≤ sz
  z1 : sz < 18446744073709551616
  ol : os.length = no
  og : ∀ r ∈ os, r.Good h
  obs : (os.map fun r => 16 + r.d.length).sum ≤ 8388608
  on : no ≤ 1048576
  om : Rd h (fun b => b < h.size) 2 Ao no (os.flatMap Ho.cells)
  rl : rs.length = nr
  rg : ∀ r ∈ rs, r.Good h
  rbs : (rs.map fun r => 20 + r.d.length).sum ≤ 8388608
  rn : nr ≤ 1048576
  rm : Rd h (fun b => b < h.size) 3 Ar nr (rs.flatMap Hr.cells)
def Hos (os : List Ho) : List Int := os.flatMap Ho.bytes
def Hrs (rs : List Hr) : List Int := rs.flatMap Hr.bytes
theorem Ho.blen (r : Ho) : r.bytes.length = 16 + min 256 r.d.length := by unfold Ho.bytes; rw [rawL_len, List.length_take]; simp
theorem Hr.blen (r : Hr) : r.bytes.length = 20 + min 256 r.d.length := by unfold Hr.bytes; rw [rawL_len, List.length_take]; simp
theorem Hos_succ {os : List Ho} {k : Nat} {r : Ho} (h : os[k]? = some r) : Hos (os.take (k + 1)) = Hos (os.take k) ++ r.bytes := by
  unfold Hos; rw [List.take_add_one, h]; simp
theorem Hrs_succ {rs : List Hr} {k : Nat} {r : Hr} (h : rs[k]? = some r) : Hrs (rs.take (k + 1)) = Hrs (rs.take k) ++ r.bytes := by
  unfold Hrs; rw [List.take_add_one, h]; simp
theorem sum_take_le {α : Type} (f : α → Nat) : ∀ (l : List α) (k : Nat), ((l.take k).map f).sum ≤ (l.map f).sum := by
  intro l
  induction l with
  | nil => intro k; simp
  | cons x l ih =>
    intro k
    cases k with
    | zero => simp
    | succ k => simp only [List.take_succ_cons, List.map_cons, List.sum_cons]; have := ih k; omega
theorem Hos_len : ∀ os : List Ho, (Hos os).length ≤ (os.map fun r => 16 + r.d.length).sum := by
  intro os
  induction os with
  | nil => simp [Hos]
  | cons r os ih =>
    unfold Hos at ih ⊢
    rw [List.flatMap_cons, List.length_append, List.map_cons, List.sum_cons, Ho.blen]
    omega
theorem Hrs_len : ∀ rs : List Hr, (Hrs rs).length ≤ (rs.map fun r => 20 + r.d.length).sum := by
  intro rs
  induction rs with
  | nil => simp [Hrs]
  | cons r rs ih =>
    unfold Hrs at ih ⊢
    rw [List.flatMap_cons, List.length_append, List.map_cons, List.sum_cons, Hr.blen]
    omega
theorem Tk.oat {h : Array Obj} {fl : Int} {Ao : Option Addr} {no co : Nat} {os : List Ho} {Ar : Option Addr} {nr cr : Nat} {rs : List Hr} {sz : Int} (T : Tk h fl Ao no co os Ar nr cr rs sz) {k : Nat} (hk : k < no) :
    ∃ (ad : Addr) (r : Ho), Ao = some ad ∧ os[k]? = some r ∧ r.Good h ∧ cellH h (ad.add (k * 2)) = some (.int .u32 r.op) ∧ cellH h ⟨(ad.add (k * 2)).block, (ad.add (k * 2)).off + 1, none⟩ = some (.slice r.A r.d.length r.c) := by
  obtain ⟨ad, hA, _, hcc⟩ := T.om.2 (by omega)
  have hk' : k < os.length := by rw [T.ol]; exact hk
  have h0 : os[k]? = some os[k] := List.getElem?_eq_getElem hk'
  refine ⟨ad, os[k], hA, h0, T.og _ (List.getElem_mem hk'), ?_, ?_⟩
  · exact hcc _ _ (by have := flat_get Ho.cells 2 Ho.cells_len os k 0 (by decide); rw [h0] at this; exact this)
  · have e := hcc (k * 2 + 1) (.slice os[k].A os[k].d.length os[k].c) (by have := flat_get Ho.cells 2 Ho.cells_len os k 1 (by decide); rw [h0] at this; exact this)
    rw [← add_add] at e
    rwa [show (ad.add (k * 2)).add 1 = ⟨(ad.add (k * 2)).block, (ad.add (k * 2)).off + 1, none⟩ by unfold Addr.add; rw [if_neg (show ¬ (1 : Nat) = 0 by omega)]] at e
theorem Tk.rat {h : Array Obj} {fl : Int} {Ao : Option Addr} {no co : Nat} {os : List Ho} {Ar : Option Addr} {nr cr : Nat} {rs : List Hr} {sz : Int} (T : Tk h fl Ao no co os Ar nr cr rs sz) {k : Nat} (hk : k < nr) :
    ∃ (ad : Addr) (r : Hr), Ar = some ad ∧ rs[k]? = some r ∧ r.Good h ∧ cellH h (ad.add (k * 3)) = some (.int .u32 r.op) ∧ cellH h ⟨(ad.add (k * 3)).block, (ad.add (k * 3)).off + 1, none⟩ = some (.int .u32 r.kd) ∧ cellH h ⟨(ad.add (k * 3)).block, (ad.add (k * 3)).off + 2, none⟩ = some (.slice r.A r.d.length r.c) := by
  obtain ⟨ad, hA, _, hcc⟩ := T.rm.2 (by omega)
  have hk' : k < rs.length := by rw [T.rl]; exact hk
  have h0 : rs[k]? = some rs[k] := List.getElem?_eq_getElem hk'
  refine ⟨ad, rs[k], hA, h0, T.rg _ (List.getElem_mem hk'), ?_, ?_, ?_⟩
  · exact hcc _ _ (by have := flat_get Hr.cells 3 Hr.cells_len rs k 0 (by decide); rw [h0] at this; exact this)
  · have e := hcc (k * 3 + 1) (.int .u32 rs[k].kd) (by have := flat_get Hr.cells 3 Hr.cells_len rs k 1 (by decide); rw [h0] at this; exact this)
    rw [← add_add] at e
    rwa [show (ad.add (k * 3)).add 1 = ⟨(ad.add (k * 3)).block, (ad.add (k * 3)).off + 1, none⟩ by unfold Addr.add; rw [if_neg (show ¬ (1 : Nat) = 0 by omega)]] at e
  · have e := hcc (k * 3 + 2) (.slice rs[k].A rs[k].d.length rs[k].c) (by have := flat_get Hr.cells 3 Hr.cells_len rs k 2 (by decide); rw [h0] at this; exact this)
    rw [← add_add] at e
    rwa [show (ad.add (k * 3)).add 2 = ⟨(ad.add (k * 3)).block, (ad.add (k * 3)).off + 2, none⟩ by unfold Addr.add; rw [if_neg (show ¬ (2 : Nat) = 0 by omega)]] at e
end Go.Proofs.Ytgepekailoopeaa
