/-
  Contracts of container/heap's Init, Push and Pop over any row with methods.
-/
import Derived.Test.YtkdoocgjagpcbaaHeapW
namespace Go.Proofs.Ytkdoocgjagpcbaa
open Go.RowKit
set_option linter.unusedVariables false
set_option linter.unusedSimpArgs false

structure HMethP {α : Type} [Inhabited α] (w0 : World) (O : Nat → Prop) (T : TypeId) (ptr : Value) (HP : List α → Asr) (enc : α → Value) (fP fO : FuncId) : Prop where
  eP : ∀ args w, (callFunc fP args).run Try.prog w = .ok (.enter fP args) w
  eO : ∀ args w, (callFunc fO args).run Try.prog w = .ok (.enter fO args) w
  push : ∀ {w L xs} {x : α}, Sep w0 w O (HP xs :: L) → xs.length < 1048576 → ∃ rv, Sem.run Try.prog (method (Try.prog.types.size + 100) T ptr "Push") w = .ok (fP, rv) w ∧ Calls Try.prog fP #[rv, enc x] w fun e w' => e = .returned (.tuple #[]) ∧ Sep w0 w' O (HP (xs ++ [x]) :: L)
  pop : ∀ {w L xs}, Sep w0 w O (HP xs :: L) → 0 < xs.length → ∃ rv, Sem.run Try.prog (method (Try.prog.types.size + 100) T ptr "Pop") w = .ok (fO, rv) w ∧ Calls Try.prog fO #[rv] w fun e w' => e = .returned (enc (gat xs (xs.length - 1))) ∧ Sep w0 w' O (HP (xs.take (xs.length - 1)) :: L)

section
variable {α : Type} [Inhabited α] {w0 w : World} {O : Nat → Prop} {L : List Asr} {T : TypeId} {ptr : Value} {lt : α → α → Bool} {HP : List α → Asr} {fN fL fS fP fO : FuncId} {enc : α → Value}

set_option maxHeartbeats 1000000 in
theorem init_calls (M : HMeth w0 O T ptr lt HP fN fL fS) {xs : List α} (HS : Sep w0 w O (HP xs :: L)) (hn : xs.length ≤ 1048576) :
    Calls Try.prog 32 #[.iface T ptr] w fun e w' => e = .returned (.tuple #[]) ∧ Sep w0 w' O (HP (initL lt xs (xs.length / 2)) :: L) := by
  obtain ⟨R, hR⟩ : ∃ R, R = initL lt xs (xs.length / 2) := ⟨_, rfl⟩
  rw [← hR]
  have eN := M.eN
  obtain ⟨rvN, mN, cN⟩ := M.len HS
  simp at mN
  obtain ⟨N, hN⟩ : ∃ N, N = xs.length := ⟨_, rfl⟩
  have HM := hid M
  rw [← hN] at hR cN
  obtain ⟨h, hh⟩ : ∃ h, h = N / 2 := ⟨_, rfl⟩
  have hq : (N : Int).tdiv 2 = (h : Int) := by rw [Int.tdiv_eq_ediv_of_nonneg (by omega)]; omega
  have hq2 : (N : Int) / 2 = (h : Int) := by omega
  rw [← hh] at hR
  have hN1 : N ≤ 1048576 := by omega
  have hh1 : h ≤ N := by omega
  have HNN := hid hN
  clear M hh hN
  go_enter Try.func32, Try.ntmps32
  go_wp2_with fail
  refine cN.mono ?_
  rintro e w' ⟨rfl, rfl⟩
  clear mN cN
  go_wp2
  go_loopw [3] (fun v wr => ∃ (k : Nat) (ys : List α), v = .int .i64 ((k : Int) - 1) ∧ k ≤ N ∧ ys.length = N ∧ R = initL lt ys k ∧ Sep w0 wr O (HP ys :: L)) (fun v _ => (intOf v + 1).toNat)
  case atStart => exact ⟨h, xs, rfl, hh1, HNN.out.symm, hR, HS⟩
  case round =>
    obtain ⟨k, ys, rfl, hk, hys, hRk, HS1⟩ := hrel
    have HRK := hid hRk
    have HYS := hid hys
    clear hR hRk HS
    by_cases hk0 : k = 0
    · subst hk0
      go_wp2
      go_end0
      have := HRK.out
      rw [initL] at this
      exact ⟨rfl, by rw [this]; exact HS1⟩
    · obtain ⟨k, rfl⟩ : ∃ k', k = k' + 1 := ⟨k - 1, by omega⟩
      have e1 : (((k + 1 : Nat) : Int) - 1) = k := by omega
      rw [e1]
      have hge : (0 : Int) ≤ k := by omega
      have hD := down_calls HM.out (i := k) (n := N) HS1 (by omega) (by omega) (by omega)
      have HD := hid hD
      clear hD e1
      go_wp2_with fail
      refine HD.out.mono ?_
      rintro e w' ⟨rfl, HS2⟩
      go_wp2
      go_roundw
      case rel => exact ⟨k, (dnL lt N N ys k).1, by go_num, by omega, by rw [dnL_len]; exact HYS.out, by
        have := HRK.out
        rw [initL, HYS.out] at this
        exact this, HS2⟩
      case measure => simp [intOf]

theorem heappush_calls (M : HMeth w0 O T ptr lt HP fN fL fS) (MP : HMethP w0 O T ptr HP enc fP fO) {xs : List α} {x : α} (HS : Sep w0 w O (HP xs :: L)) (hn : xs.length < 1048576) :
    Calls Try.prog 26 #[.iface T ptr, enc x] w fun e w' => e = .returned (.tuple #[]) ∧ Sep w0 w' O (HP (upL lt xs.length (xs ++ [x]) xs.length) :: L) := by
  have eN := M.eN
  have eP := MP.eP
  obtain ⟨rvP, mP, cP⟩ := MP.push (x := x) HS hn
  simp at mP
  have HM := hid M
  have HMP := hid MP
  clear M MP
  generalize enc x = ex at *
  have h1 : IntKind.i64.wrap (((xs ++ [x]).length : Int) - 1) = xs.length := by rw [List.length_append, IntKind.wrap_i64]; simp only [List.length_cons, List.length_nil]; omega
  have h2 : (((xs ++ [x]).length : Int) - 1) = xs.length := by rw [List.length_append]; simp
  go_enter Try.func26, Try.ntmps26
  go_wp2_with fail
  refine cP.mono ?_
  rintro e w' ⟨rfl, HS1⟩
  clear mP cP
  obtain ⟨rvN, mN, cN⟩ := HM.out.len HS1
  simp at mN
  have hU := up_calls HM.out (j := xs.length) HS1 (by simp) (by simp; omega)
  have HU := hid hU
  clear hU
  generalize (xs ++ [x]).length = M1 at *
  go_wp2_with fail
  refine cN.mono ?_
  rintro e w' ⟨rfl, rfl⟩
  clear mN cN
  go_wp2_with fail
  refine HU.out.mono ?_
  rintro e w' ⟨rfl, HS2⟩
  go_wp2
  go_end0
  exact ⟨rfl, HS2⟩

theorem heappop_calls (M : HMeth w0 O T ptr lt HP fN fL fS) (MP : HMethP w0 O T ptr HP enc fP fO) {xs : List α} (HS : Sep w0 w O (HP xs :: L)) (h0 : 0 < xs.length) (hn : xs.length ≤ 1048576) :
    Calls Try.prog 39 #[.iface T ptr] w fun e w' => e = .returned (enc (gat (popL lt xs) (xs.length - 1))) ∧ Sep w0 w' O (HP ((popL lt xs).take (xs.length - 1)) :: L) := by
  have eN := M.eN
  have eS := M.eS
  have eO := MP.eO
  obtain ⟨rvN, mN, cN⟩ := M.len HS
  simp at mN
  have HM := hid M
  have HMP := hid MP
  clear M MP
  obtain ⟨m, hm⟩ : ∃ m, m = xs.length - 1 := ⟨_, rfl⟩
  have h1 : (xs.length : Int) - 1 = m := by omega
  have hw : IntKind.i64.wrap (m : Int) = m := by rw [IntKind.wrap_i64]; omega
  have hpl : (popL lt xs).length = xs.length := by unfold popL; rw [dnL_len, swp_len]
  have hpop : popL lt xs = (dnL lt m m (swp xs 0 m) 0).1 := by rw [hm]; rfl
  rw [← hm]
  go_enter Try.func39, Try.ntmps39
  go_wp2_with fail
  refine cN.mono ?_
  rintro e w' ⟨rfl, rfl⟩
  clear mN cN
  obtain ⟨rvS, mS, cS⟩ := HM.out.swap HS (i := 0) (j := m) h0 (by omega)
  simp at mS
  rw [show ((0 : Nat) : Int) = 0 from rfl] at cS
  have HMM := hid hm
  clear hm
  go_wp2_with fail
  refine cS.mono ?_
  rintro e w' ⟨rfl, HS1⟩
  clear mS cS
  have hD := down_calls HM.out (i := 0) (n := m) HS1 (by rw [swp_len]; have := HMM.out; omega) (by omega) (by rw [swp_len]; exact hn)
  rw [← hpop, show ((0 : Nat) : Int) = 0 from rfl] at hD
  have HD := hid hD
  clear hD hpop
  go_wp2_with fail
  refine HD.out.mono ?_
  rintro e w' ⟨rfl, HS2⟩
  obtain ⟨rvO, mO, cO⟩ := HMP.out.pop HS2 (by rw [hpl]; exact h0)
  simp at mO
  rw [hpl, ← HMM.out] at cO
  obtain ⟨ex, hex⟩ : ∃ ex, ex = enc (gat (popL lt xs) m) := ⟨_, rfl⟩
  rw [← hex] at cO
  have HEX := hid hex
  clear hex
  go_wp2_with fail
  refine cO.mono ?_
  rintro e w' ⟨rfl, HS3⟩
  go_wp2
  go_ret
  exact ⟨by rw [← HEX.out]; rfl, HS3⟩
end
end Go.Proofs.Ytkdoocgjagpcbaa
