/-
  Contract of container/heap's Remove over any row with methods.
-/
import Derived.Test.YtkdoocgjagpcbaaHeapR
namespace Go.Proofs.Ytkdoocgjagpcbaa
open Go.RowKit
set_option linter.unusedVariables false
set_option linter.unusedSimpArgs false
section
variable {α : Type} [Inhabited α] {w0 w : World} {O : Nat → Prop} {L : List Asr} {T : TypeId} {ptr : Value} {lt : α → α → Bool} {HP : List α → Asr} {fN fL fS fP fO : FuncId} {enc : α → Value}
theorem rmL_len (l : List α) (i : Nat) : (rmL lt l i).length = l.length := by
  unfold rmL
  split
  · rfl
  · split
    · rw [dnL_len, swp_len]
    · rw [upL_len, dnL_len, swp_len]
set_option maxHeartbeats 1000000 in
theorem heapremove_calls (M : HMeth w0 O T ptr lt HP fN fL fS) (MP : HMethP w0 O T ptr HP enc fP fO) {xs : List α} {i : Nat} (HS : Sep w0 w O (HP xs :: L)) (hi : i < xs.length) (hn : xs.length ≤ 1048576) :
    Calls Try.prog 29 #[.iface T ptr, .int .i64 i] w fun e w' => e = .returned (enc (gat (rmL lt xs i) (xs.length - 1))) ∧ Sep w0 w' O (HP ((rmL lt xs i).take (xs.length - 1)) :: L) := by
  have eN := M.eN
  have eS := M.eS
  have eO := MP.eO
  obtain ⟨rvN, mN, cN⟩ := M.len HS
  simp at mN
  have HM := hid M
  have HMP := hid MP
  clear M MP
  obtain ⟨m, hm⟩ : ∃ m, m = xs.length - 1 := ⟨_, rfl⟩
  have h1 : (xs.length : Int) - 1 = m := by omega
  have hw : IntKind.i64.wrap (m : Int) = m := by rw [IntKind.wrap_i64]; omega
  have hrl : (rmL lt xs i).length = xs.length := rmL_len xs i
  have hrm : rmL lt xs i = if m = i then xs else if i < (dnL lt m m (swp xs i m) i).2 then (dnL lt m m (swp xs i m) i).1 else upL lt i (dnL lt m m (swp xs i m) i).1 i := by rw [hm]; rfl
  have HRM := hid hrm
  clear hrm
  have HRL := hid hrl
  clear hrl
  rw [← hm]
  by_cases hmi : m = i
  · have hmi2 : ((m : Int) == i) = true := by simp; omega
    have hR : rmL lt xs i = xs := by rw [HRM.out, if_pos hmi]
    rw [hR]
    have HMI := hid hmi
    clear hmi hR
    obtain ⟨rvO, mO, cO⟩ := HMP.out.pop HS (by omega)
    simp at mO
    rw [← hm] at cO
    have HMM := hid hm
    clear hm
    obtain ⟨ex, hex⟩ : ∃ ex, ex = enc (gat xs m) := ⟨_, rfl⟩
    rw [← hex] at cO
    have HEX := hid hex
    clear hex
    go_enter Try.func29, Try.ntmps29
    go_wp2_with fail
    refine cN.mono ?_
    rintro e w' ⟨rfl, rfl⟩
    clear mN cN
    go_wp2_with fail
    refine cO.mono ?_
    rintro e w' ⟨rfl, HS3⟩
    go_wp2
    go_ret
    exact ⟨by rw [← HEX.out]; rfl, HS3⟩
  · have hmi2 : ((m : Int) == i) = false := by simp; omega
    have hR := HRM.out
    rw [if_neg hmi] at hR
    have him : i < m := by omega
    have HMI := hid hmi
    clear hmi
    obtain ⟨rvS, mS, cS⟩ := HM.out.swap HS (i := i) (j := m) hi (by omega)
    simp at mS
    have HMM := hid hm
    clear hm
    have hlen : (dnL lt m m (swp xs i m) i).1.length = xs.length := by rw [dnL_len, swp_len]
    have HLEN := hid hlen
    clear hlen
    have hstart : True := trivial
    go_enter Try.func29, Try.ntmps29
    go_wp2_with fail
    refine cN.mono ?_
    rintro e w' ⟨rfl, rfl⟩
    clear mN cN
    go_wp2_with fail
    refine cS.mono ?_
    rintro e w' ⟨rfl, HS1⟩
    clear mS cS
    have hD := down_calls HM.out (i := i) (n := m) HS1 (by rw [swp_len]; have := HMM.out; omega) (by omega) (by rw [swp_len]; exact hn)
    by_cases hb : i < (dnL lt m m (swp xs i m) i).2
    · rw [if_pos hb] at hR
      rw [decide_eq_true hb] at hD
      have HB := hid hb
      clear hb
      have HR := hid hR
      clear hR
      have HD := hid hD
      clear hD
      go_wp2_with fail
      refine HD.out.mono ?_
      rintro e w' ⟨rfl, HS2⟩
      rw [← HR.out] at HS2
      obtain ⟨rvO, mO, cO⟩ := HMP.out.pop HS2 (by rw [HRL.out]; omega)
      simp at mO
      rw [HRL.out, ← HMM.out] at cO
      obtain ⟨ex, hex⟩ : ∃ ex, ex = enc (gat (rmL lt xs i) m) := ⟨_, rfl⟩
      rw [← hex] at cO
      have HEX := hid hex
      clear hex
      go_wp2_with fail
      refine cO.mono ?_
      rintro e w' ⟨rfl, HS3⟩
      go_wp2
      go_ret
      exact ⟨by rw [← HEX.out]; rfl, HS3⟩
    · rw [if_neg hb] at hR
      rw [decide_eq_false hb] at hD
      have HB := hid hb
      clear hb
      have HR := hid hR
      clear hR
      have HD := hid hD
      clear hD
      go_wp2_with fail
      refine HD.out.mono ?_
      rintro e w' ⟨rfl, HS2⟩
      have hU := up_calls HM.out (j := i) HS2 (by rw [HLEN.out]; exact hi) (by rw [HLEN.out]; exact hn)
      rw [← HR.out] at hU
      have HU := hid hU
      clear hU
      go_wp2_with fail
      refine HU.out.mono ?_
      rintro e w' ⟨rfl, HS2'⟩
      obtain ⟨rvO, mO, cO⟩ := HMP.out.pop HS2' (by rw [HRL.out]; omega)
      simp at mO
      rw [HRL.out, ← HMM.out] at cO
      obtain ⟨ex, hex⟩ : ∃ ex, ex = enc (gat (rmL lt xs i) m) := ⟨_, rfl⟩
      rw [← hex] at cO
      have HEX := hid hex
      clear hex
      go_wp2_with fail
      refine cO.mono ?_
      rintro e w' ⟨rfl, HS3⟩
      go_wp2
      go_ret
      exact ⟨by rw [← HEX.out]; rfl, HS3⟩
end
end Go.Proofs.Ytkdoocgjagpcbaa
