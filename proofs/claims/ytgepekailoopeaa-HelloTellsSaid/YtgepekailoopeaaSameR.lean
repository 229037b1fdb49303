/-
  Rows of replies that are read; contract of cisternref22.SameReplies, where the two say the same.
-/
import Derived.Test.YtgepekailoopeaaHelD
import Derived.Deep.DeepCutAuto
import Derived.Deep.RegionHeldLaw
namespace Go.Proofs.Ytgepekailoopeaa
open Go.RowKit
set_option linter.unusedVariables false
set_option linter.unusedSimpArgs false
theorem rcells_len (r : Rp) : r.cells.length = 3 := rfl
theorem rrow_len (l : List Rp) : (rrow l).length = l.length * 3 := by
  induction l with
  | nil => rfl
  | cons v l ih =>
    have : rrow (v :: l) = v.cells ++ rrow l := by simp [rrow]
    rw [this, List.length_append, ih, rcells_len, List.length_cons]; omega
theorem rrow_get (l : List Rp) : ∀ (i j : Nat), j < 3 → (rrow l)[i * 3 + j]? = (l[i]?).bind fun x => x.cells[j]? := by
  induction l with
  | nil => intro i j _; simp [rrow]
  | cons x l ih =>
    intro i j hj
    have e : rrow (x :: l) = x.cells ++ rrow l := by simp [rrow]
    rw [e]
    cases i with
    | zero =>
      rw [Nat.zero_mul, Nat.zero_add, List.getElem?_append_left (by simpa [Rp.cells] using hj)]
      simp
    | succ i =>
      rw [List.getElem?_append_right (by simp [Rp.cells]; omega), show (i + 1) * 3 + j - x.cells.length = i * 3 + j by rw [rcells_len]; omega, ih i j hj]
      simp
section
variable {w0 w : World} {O : Nat → Prop} {L : List Asr}
/-- the cells of the reply k of a row that is read -/
theorem Rb.repAt {A : Option Addr} {n k : Nat} {l : List Rp} (hr : Rb w0 O L 3 A n (rrow l)) (HS : Sep w0 w O L) (hk : k < n) :
    ∃ ad v, A = some ad ∧ l[k]? = some v ∧ w.cell? (ad.add (k * 3)) = some (.int .u32 v.op) ∧ w.cell? ⟨(ad.add (k * 3)).block, (ad.add (k * 3)).off + 1, none⟩ = some (.int .u32 v.kd) ∧ w.cell? ⟨(ad.add (k * 3)).block, (ad.add (k * 3)).off + 2, none⟩ = some (.slice v.A v.d.length v.c) := by
  have hl : (rrow l).length = n * 3 := hr.len HS
  rw [rrow_len] at hl
  have hlt : k < l.length := by omega
  obtain ⟨ad, hA, _, hc⟩ := (hr.read HS).2 (by omega)
  have hv : l[k]? = some l[k] := List.getElem?_eq_getElem hlt
  have hh : ∀ i v, (l[k]).cells[i]? = some v → i < 3 → w.cell? ((ad.add (k * 3)).add i) = some v := by
    intro i v hi h6
    rw [add_add]
    exact hc (k * 3 + i) v (by rw [rrow_get l k i h6, hv]; exact hi)
  have hh' : ∀ i v, (l[k]).cells[i]? = some v → i < 3 → 0 < i → w.cell? ⟨(ad.add (k * 3)).block, (ad.add (k * 3)).off + i, none⟩ = some v := by
    intro i v hi h6 h0
    have := hh i v hi h6
    rwa [show (ad.add (k * 3)).add i = ⟨(ad.add (k * 3)).block, (ad.add (k * 3)).off + i, none⟩ by unfold Addr.add; rw [if_neg (show ¬ i = 0 by omega)]] at this
  have h0 := hh 0 _ rfl (by decide)
  rw [show (ad.add (k * 3)).add 0 = ad.add (k * 3) by simp [Addr.add]] at h0
  exact ⟨ad, l[k], hA, hv, h0, hh' 1 _ rfl (by decide) (by decide), hh' 2 _ rfl (by decide) (by decide)⟩

set_option maxHeartbeats 4000000 in
set_option maxRecDepth 100000 in
theorem rsame_true {A B : Option Addr} {n c d : Nat} {rs rs' : List Rp} (HS : Sep w0 w O L) (hr : Rb w0 O L 3 A n (rrow rs)) (hq : Rb w0 O L 3 B n (rrow rs')) (he : rs.map Rp.out = rs'.map Rp.out)
    (hd : ∀ r ∈ rs, Rb w0 O L 1 r.A r.d.length (by8 r.d)) (hd' : ∀ r ∈ rs', Rb w0 O L 1 r.A r.d.length (by8 r.d)) (hn : n ≤ 70368744177664) :
    Calls Try.prog 25 #[.slice A n c, .slice B n d] w fun e w' => e = .returned (.bool true) ∧ Sep w0 w' O L := by
  have HE := hid he
  have HD := hid hd
  have HD' := hid hd'
  clear he hd hd'
  go_enter Try.func25, Try.ntmps25
  go_wp2_with fail
  go_loopw [5] (fun i wr => ∃ k : Nat, k ≤ n ∧ i = .int .i64 k ∧ Sep w0 wr O L) (fun i _ => n - (intOf i).toNat)
  case atStart => exact ⟨0, Nat.zero_le _, rfl, HS⟩
  case round =>
    obtain ⟨k, hk, rfl, HS3⟩ := hrel
    clear HS
    by_cases hlt : k < n
    · obtain ⟨ad, v, rfl, hvk, x0, x1, x2⟩ := hr.repAt HS3.drew hlt
      obtain ⟨bd, v', rfl, hvk', y0, y1, y2⟩ := hq.repAt HS3.drew hlt
      have ho : v.out = v'.out := by
        have h := congrArg (fun z => z[k]?) HE.out
        simp only [List.getElem?_map, hvk, hvk', Option.map_some] at h
        injection h
      obtain ⟨o1, k1, A1, c1, d1⟩ := v
      obtain ⟨o2, k2, A2, c2, d2⟩ := v'
      simp only [Rp.out, Prod.mk.injEq] at ho
      obtain ⟨rfl, rfl, rfl⟩ := ho
      have hv1 := fun c => run_str (P := Try.prog) (c := c) ((HD.out _ (List.mem_of_getElem? hvk)).read HS3.drew) 23 9 5 Try.underlying23 Try.underlying5 Try.underlying9
      have hv2 := fun c => run_str (P := Try.prog) (c := c) ((HD'.out _ (List.mem_of_getElem? hvk')).read HS3.drew) 23 9 5 Try.underlying23 Try.underlying5 Try.underlying9
      dsimp only at x0 x1 x2 y0 y1 y2 hv1 hv2
      generalize strOfNums d1 = sx at hv1 hv2
      generalize d1.length = dl at *
      clear hvk hvk'
      have Z1 : Aside (wr.drew.cell? (ad.add (k * 3)) = some (.int .u32 o1) ∧ wr.drew.cell? ⟨(ad.add (k * 3)).block, (ad.add (k * 3)).off + 1, none⟩ = some (.int .u32 k1) ∧ wr.drew.cell? ⟨(ad.add (k * 3)).block, (ad.add (k * 3)).off + 2, none⟩ = some (.slice A1 dl c1) ∧ wr.drew.cell? (bd.add (k * 3)) = some (.int .u32 o1) ∧ wr.drew.cell? ⟨(bd.add (k * 3)).block, (bd.add (k * 3)).off + 1, none⟩ = some (.int .u32 k1) ∧ wr.drew.cell? ⟨(bd.add (k * 3)).block, (bd.add (k * 3)).off + 2, none⟩ = some (.slice A2 dl c2) ∧ (∀ c', (convert 23 9 (.slice A1 dl c')).run Try.prog wr.drew = .ok (.string sx) wr.drew) ∧ (∀ c', (convert 23 9 (.slice A2 dl c')).run Try.prog wr.drew = .ok (.string sx) wr.drew)) := ⟨x0, x1, x2, y0, y1, y2, hv1, hv2⟩
      clear x0 x1 x2 y0 y1 y2 hv1 hv2
      have hj : (k : Int) < n := by omega
      have j0 : (0 : Int) ≤ k := by omega
      go_upto_region 6 with (fail)
      go_region_held_law (fun w' => w'.cell? (ad.add (k * 3)) = some (.int .u32 o1) ∧ w'.cell? ⟨(ad.add (k * 3)).block, (ad.add (k * 3)).off + 1, none⟩ = some (.int .u32 k1) ∧ w'.cell? ⟨(ad.add (k * 3)).block, (ad.add (k * 3)).off + 2, none⟩ = some (.slice A1 dl c1) ∧ w'.cell? (bd.add (k * 3)) = some (.int .u32 o1) ∧ w'.cell? ⟨(bd.add (k * 3)).block, (bd.add (k * 3)).off + 1, none⟩ = some (.int .u32 k1) ∧ w'.cell? ⟨(bd.add (k * 3)).block, (bd.add (k * 3)).off + 2, none⟩ = some (.slice A2 dl c2) ∧ (∀ c', (convert 23 9 (.slice A1 dl c')).run Try.prog w' = .ok (.string sx) w') ∧ (∀ c', (convert 23 9 (.slice A2 dl c')).run Try.prog w' = .ok (.string sx) w'))
        (with_reducible exact Z1.out) (fail)
      all_goals
        have HS4 := HS3.drew
        clear Z1
        go_wp2
        go_roundw
        case rel => exact ⟨k + 1, by omega, by go_num, HS4⟩
        case measure => simp [intOf]; omega
    · obtain rfl : n = k := by omega
      have hj : ¬ (n : Int) < n := by omega
      go_wp2
      go_ret
      exact ⟨rfl, HS3⟩
end
end Go.Proofs.Ytgepekailoopeaa
