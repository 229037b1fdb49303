/-
  A space: what it holds; contracts of New, right, Take, Claim, Give, Free.
-/
import Derived.Test.YtepooiiaijbljaaFreeH
namespace Go.Proofs.Ytepooiiaijbljaa
open Go.RowKit
set_option linter.unusedVariables false
set_option linter.unusedSimpArgs false
abbrev bv (l : List Bool) : List Value := l.map Value.bool
theorem bv_get {l : List Bool} {k : Nat} (h : k < l.length) : (bv l)[k]? = some (.bool l[k]) := by simp [h]
theorem bv_set (l : List Bool) (k : Nat) (b : Bool) : (bv l).set k (.bool b) = bv (l.set k b) := List.map_set.symm
theorem info_bool : (Try.prog.info? 4).map (fun i => (i.zero, i.size, i.bytes)) = some (some (.bool false), 1, 1) := by kernel_rfl
section
variable {w0 w : World} {O : Nat → Prop} {L : List Asr}
/-- a space: which places are free -/
def space (g : Nat) (is : List Bool) : Asr :=
  ex fun hp : List Int => ex fun IA : Option Addr => ex fun ci : Nat => with_ (SpOk is hp ∧ is.length ≤ 1024) (star (own 4 1 IA is.length ci (bv is)) (heapAt g IA is.length ci (is.count true) hp))
theorem Sep.spaced {g : Nat} {is : List Bool} {hp : List Int} {IA : Option Addr} {ci : Nat} (h1 : SpOk is hp) (h2 : is.length ≤ 1024) (h : Sep w0 w O (own 4 1 IA is.length ci (bv is) :: heapAt g IA is.length ci (is.count true) hp :: L)) : Sep w0 w O (space g is :: L) :=
  Sep.ex hp (Sep.ex IA (Sep.ex ci (Sep.with_ ⟨h1, h2⟩ h.star)))
theorem Sep.unspace {g : Nat} {is : List Bool} (h : Sep w0 w O (space g is :: L)) : ∃ (hp : List Int) (IA : Option Addr) (ci : Nat), SpOk is hp ∧ is.length ≤ 1024 ∧ Sep w0 w O (own 4 1 IA is.length ci (bv is) :: heapAt g IA is.length ci (is.count true) hp :: L) := by
  obtain ⟨hp, h⟩ := h.unex
  obtain ⟨IA, h⟩ := h.unex
  obtain ⟨ci, h⟩ := h.unex
  obtain ⟨h1, h⟩ := h.unwith
  exact ⟨hp, IA, ci, h1.1, h1.2, h.unstar⟩
theorem Sep.bcell {e : TypeId} {g c : Nat} {l : List Bool} (h : Sep w0 w O (own e 1 (some ⟨g, 0, none⟩) l.length c (bv l) :: L)) {j : Nat} (hj : j < l.length) : w.cell? ⟨g, j, none⟩ = some (.bool l[j]) := by
  rw [h.own_cell hj, bv_get hj]
theorem Sep.bset {e : TypeId} {g c : Nat} {l : List Bool} (h : Sep w0 w O (own e 1 (some ⟨g, 0, none⟩) l.length c (bv l) :: L)) (j : Nat) (b : Bool) : Sep w0 (w.setCell ⟨g, j, none⟩ (.bool b)) O (own e 1 (some ⟨g, 0, none⟩) l.length c (bv (l.set j b)) :: L) := by
  have := h.own_set j (.bool b)
  rwa [bv_set] at this
variable {g : Nat} {is : List Bool}
theorem right_calls {IA A : Option Addr} {ni ci n c : Nat} {cnt : Value} {b : Bool} (HS : Sep w0 w O (blk g 73 #[.slice IA ni ci, cnt, .slice A n c, .bool b] :: L)) :
    Calls Try.prog 46 #[.pointer (some ⟨g, 0, none⟩)] w fun e w' => e = .returned (.bool b) ∧ w' = w := by
  have a3 := HS.blkAt 3 rfl
  go_enter Try.func46, Try.ntmps46
  go_wp2
  go_ret
  exact ⟨rfl, rfl⟩
theorem right_space (HS : Sep w0 w O (space g is :: L)) :
    Calls Try.prog 46 #[.pointer (some ⟨g, 0, none⟩)] w fun e w' => e = .returned (.bool true) ∧ w' = w := by
  obtain ⟨hp, IA, ci, -, -, H⟩ := HS.unspace
  obtain ⟨A, c, H⟩ := H.up1.unheap
  exact right_calls H.up1
theorem right_nil : Calls Try.prog 46 #[.pointer none] w fun e w' => e = .returned (.bool false) ∧ w' = w := by
  go_enter Try.func46, Try.ntmps46
  go_wp2
  go_ret
  exact ⟨rfl, rfl⟩

set_option maxHeartbeats 1000000 in
theorem take_calls (HS : Sep w0 w O (space g is :: L)) :
    Calls Try.prog 34 #[.pointer (some ⟨g, 0, none⟩)] w fun e w' => e = .returned (.tuple #[.int .i64 (takeAt is), .int .i64 (takeErr is)]) ∧ Sep w0 w' O (space g (takeIs is) :: L) := by
  have hR := right_space HS
  go_enter Try.func34, Try.ntmps34
  go_wp2_with fail
  refine hR.mono ?_
  rintro e w' ⟨rfl, rfl⟩
  clear hR
  go_wp2
  obtain ⟨hp0, IA0, ci0, hok0, hle, H0⟩ := HS.unspace
  have ta := fun w x => ta_int w x
  go_loopg [4] hp0.length (fun gk v wr => ∃ (hp : List Int) (IA : Option Addr) (ci : Nat), hp.length = gk ∧ SpOk is hp ∧ Sep w0 wr O (own 4 1 IA is.length ci (bv is) :: heapAt g IA is.length ci (is.count true) hp :: L))
  case atStart => exact ⟨hp0, IA0, ci0, rfl, hok0, H0⟩
  case round =>
    obtain ⟨hp, IA, ci, rfl, hok, H⟩ := hrel
    clear H0 hok0 HS
    have hlen := hok.len
    obtain ⟨A, c, HB⟩ := H.up1.unheap
    have a2 := HB.up1.blkAt 2 rfl
    by_cases h0 : hp.length = 0
    · obtain rfl : hp = [] := List.eq_nil_of_length_eq_zero h0
      have hno := hok.none
      have e1 : takeAt is = 0 := by unfold takeAt; rw [hno]; rfl
      have e2 : takeErr is = 8 := by unfold takeErr; rw [hno]; rfl
      have e3 : takeIs is = is := by unfold takeIs; rw [hno]
      have E1 := hid e1
      have E2 := hid e2
      have E3 := hid e3
      clear HB e1 e2 e3
      go_wp2
      go_ret2
      exact ⟨by rw [E1.out, E2.out]; rfl, by rw [E3.out]; exact H.spaced hok hle⟩
    · have hpos : (0 : Int) < hp.length := by omega
      obtain ⟨hx, hleast, hstay, hgone⟩ := hok.pop (by omega)
      have hP := heappop_calls (hmeth w0 O g IA is.length ci (is.count true)) (hmethP w0 O g IA is.length ci (is.count true)) H.up1 (by omega) (by omega)
      obtain ⟨p1, p2, -, -⟩ := pop_ok ltI_ord hok.heap (by omega)
      rw [p2] at hP
      have hlst := fun h => hok.least (by omega) h
      obtain ⟨k, hk⟩ : ∃ k : Nat, gat hp 0 = k := ⟨(gat hp 0).toNat, by omega⟩
      rw [hk] at hP hx hstay hgone hlst
      rw [Int.toNat_natCast] at hstay hgone hlst
      have hyl : ((popL ltI hp).take (hp.length - 1)).length < hp.length := by rw [List.length_take, p1]; omega
      generalize (popL ltI hp).take (hp.length - 1) = ys at *
      have HST := hid hstay
      have HGN := hid hgone
      have HPP := hid hP
      have HLS := hid hlst
      have hkl : k < is.length := by omega
      have hk1 : (k : Int) < is.length := by omega
      clear hstay hgone hP hleast p1 p2 hlst HB hx hk
      go_wp2_with fail
      refine HPP.out.mono ?_
      rintro e w1 ⟨rfl, H1⟩
      clear a2 HPP H
      obtain ⟨A', c', HB⟩ := H1.unheap
      have a0 := HB.up1.blkAt 0 rfl
      have a1 := HB.up1.blkAt 1 rfl
      have z1 := HB.up1.blk_frozen 1
      have HI := HB.sel 3 [2, 1, 0]
      replace HI : Sep w0 w1 O (own 4 1 IA is.length ci (bv is) :: blk g 73 #[.slice IA is.length ci, .int .i64 (is.count true), .slice A' ys.length c', .bool true] :: own 3 1 A' ys.length c' (kv .i64 ys) :: L) := HI
      obtain ⟨b, rfl⟩ := HI.own_some (by omega)
      have ck := HI.bcell hkl
      have zk := HI.own_frozen k
      cases hv : is[k] with
      | false =>
        rw [hv] at ck
        have hf : is[k]? ≠ some true := by rw [List.getElem?_eq_getElem hkl, hv]; simp
        go_wp2
        go_roundg ys.length
        case measure => omega
        case rel => exact ⟨ys, _, ci, rfl, HST.out hf, H1.up1⟩
      | true =>
        rw [hv] at ck
        have hf : is[k]? = some true := by rw [List.getElem?_eq_getElem hkl, hv]
        have hc := count_off hf
        have hc2 : is.count true ≤ is.length := List.count_le_length
        have hc3 : (0 : Int) ≤ ((is.set k false).count true : Nat) := Int.natCast_nonneg _
        have hw : IntKind.i64.wrap ((is.count true : Int) - 1) = (is.count true : Int) - 1 := by rw [IntKind.wrap_i64]; omega
        have HJ := HI.bset k false
        have b1 := HJ.up1.blkAt 1 rfl
        have y1 := HJ.up1.blk_frozen 1
        have HW := HJ.up1.blk_set 1 (.int .i64 ((is.count true : Int) - 1))
        have HC := hid hc
        have hls := HLS.out hf
        have HLF := hid hls
        clear hc hls
        generalize is.count true = cn at *
        go_wp2
        go_ret2
        have e1 : takeAt is = k := by unfold takeAt; rw [HLF.out]; rfl
        have e2 : takeErr is = 0 := by unfold takeErr; rw [HLF.out]; rfl
        have e3 : takeIs is = is.set k false := by unfold takeIs; rw [HLF.out]
        have e4 : (is.set k false).length = is.length := List.length_set
        refine ⟨by rw [e1, e2]; rfl, ?_⟩
        rw [e3]
        refine Sep.spaced (hp := ys) (IA := some ⟨b, 0, none⟩) (ci := ci) HGN.out (by rw [e4]; exact hle) ?_
        rw [e4, HC.out]
        exact (Sep.heaped (HW.sel 3 [2, 0, 1])).up1
end
end Go.Proofs.Ytepooiiaijbljaa
