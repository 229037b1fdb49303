/-
  Contracts of container/heap's up and down over any row with methods.
-/
import Derived.Test.YtkdoocgjagpcbaaHeapL
import Derived.Test.YtkdoocgjagpcbaaProg
import Derived.Test.YtkdoocgjagpcbaaSep
import Derived.KernelRfl
import Derived.WalkSpells
import Derived.Deep.DeepCutAuto
namespace Go.Proofs.Ytkdoocgjagpcbaa
open Go.RowKit
set_option linter.unusedVariables false
set_option linter.unusedSimpArgs false

/-- what is asked of the methods of the value that a heap is handed -/
structure HMeth {α : Type} [Inhabited α] (w0 : World) (O : Nat → Prop) (T : TypeId) (ptr : Value) (lt : α → α → Bool) (HP : List α → Asr) (fN fL fS : FuncId) : Prop where
  eN : ∀ args w, (callFunc fN args).run Try.prog w = .ok (.enter fN args) w
  eL : ∀ args w, (callFunc fL args).run Try.prog w = .ok (.enter fL args) w
  eS : ∀ args w, (callFunc fS args).run Try.prog w = .ok (.enter fS args) w
  len : ∀ {w L xs}, Sep w0 w O (HP xs :: L) → ∃ rv, Sem.run Try.prog (method (Try.prog.types.size + 100) T ptr "Len") w = .ok (fN, rv) w ∧ Calls Try.prog fN #[rv] w fun e w' => e = .returned (.int .i64 xs.length) ∧ w' = w
  less : ∀ {w L xs} {i j : Nat}, Sep w0 w O (HP xs :: L) → i < xs.length → j < xs.length → ∃ rv, Sem.run Try.prog (method (Try.prog.types.size + 100) T ptr "Less") w = .ok (fL, rv) w ∧ Calls Try.prog fL #[rv, .int .i64 i, .int .i64 j] w fun e w' => e = .returned (.bool (lt (gat xs i) (gat xs j))) ∧ ∃ q, w' = w.drewN q
  swap : ∀ {w L xs} {i j : Nat}, Sep w0 w O (HP xs :: L) → i < xs.length → j < xs.length → ∃ rv, Sem.run Try.prog (method (Try.prog.types.size + 100) T ptr "Swap") w = .ok (fS, rv) w ∧ Calls Try.prog fS #[rv, .int .i64 i, .int .i64 j] w fun e w' => e = .returned (.tuple #[]) ∧ Sep w0 w' O (HP (swp xs i j) :: L)

section
variable {α : Type} [Inhabited α] {w0 w : World} {O : Nat → Prop} {L : List Asr} {T : TypeId} {ptr : Value} {lt : α → α → Bool} {HP : List α → Asr} {fN fL fS : FuncId}

set_option maxHeartbeats 1000000 in
theorem up_calls (M : HMeth w0 O T ptr lt HP fN fL fS) {xs : List α} {j : Nat} (HS : Sep w0 w O (HP xs :: L)) (hj : j < xs.length) (hn : xs.length ≤ 1048576) :
    Calls Try.prog 35 #[.iface T ptr, .int .i64 j] w fun e w' => e = .returned (.tuple #[]) ∧ Sep w0 w' O (HP (upL lt j xs j) :: L) := by
  obtain ⟨R, hR⟩ : ∃ R, R = upL lt j xs j := ⟨_, rfl⟩
  rw [← hR]
  have eL := M.eL
  have eS := M.eS
  obtain ⟨N, hN⟩ : ∃ N, N = xs.length := ⟨_, rfl⟩
  have HM := hid M
  clear M
  go_enter Try.func35, Try.ntmps35
  go_wp2
  go_loopw [1] (fun v wr => ∃ (f k : Nat) (ys : List α), v = .int .i64 k ∧ k ≤ f ∧ k < N ∧ ys.length = N ∧ R = upL lt f ys k ∧ Sep w0 wr O (HP ys :: L)) (fun v _ => (intOf v).toNat)
  case atStart => exact ⟨j, j, xs, rfl, Nat.le_refl _, by omega, hN.symm, hR, HS⟩
  case round =>
    obtain ⟨f, k, ys, rfl, hkf, hk, hys, hRk, HS1⟩ := hrel
    have HRK := hid hRk
    have HYS := hid hys
    clear hR hRk HS
    by_cases hk0 : k = 0
    · subst hk0
      go_wp2
      go_end0
      have := HRK.out
      have e : upL lt f ys 0 = ys := by cases f <;> simp [upL]
      rw [e] at this
      exact ⟨rfl, by rw [this]; exact HS1⟩
    · obtain ⟨p, hp⟩ : ∃ p, p = (k - 1) / 2 := ⟨_, rfl⟩
      obtain ⟨rvL, mL, cL⟩ := HM.out.less HS1 (i := k) (j := p) (by omega) (by omega)
      simp at mL
      have hq : ((k : Int) - 1).tdiv 2 = (p : Int) := by rw [Int.tdiv_eq_ediv_of_nonneg (by omega)]; omega
      have hpk : ((p : Int) == k) = false := by simp; omega
      obtain ⟨f, rfl⟩ : ∃ f', f = f' + 1 := ⟨f - 1, by omega⟩
      have hpf : p ≤ f := by omega
      have hpN : p < N := by omega
      have hplt : p < k := by omega
      have HPK := hid hp
      clear hp
      cases hl : lt (gat ys k) (gat ys p) with
      | false =>
        rw [hl] at cL
        go_wp2_with fail
        refine cL.mono ?_
        rintro e w' ⟨rfl, q, rfl⟩
        clear mL cL
        go_wp2
        go_end0
        have := HRK.out
        rw [upL, if_neg hk0, ← HPK.out, hl, if_neg (by simp)] at this
        exact ⟨rfl, by rw [this]; exact HS1.drewN q⟩
      | true =>
        rw [hl] at cL
        go_wp2_with fail
        refine cL.mono ?_
        rintro e w' ⟨rfl, q, rfl⟩
        clear mL cL
        obtain ⟨rvS, mS, cS⟩ := HM.out.swap (HS1.drewN q) (i := p) (j := k) (by omega) (by omega)
        simp at mS
        go_wp2_with fail
        refine cS.mono ?_
        rintro e w' ⟨rfl, HS2⟩
        clear mS cS
        go_wp2
        go_roundw
        case rel => exact ⟨f, p, swp ys p k, by go_num, hpf, hpN, by rw [swp_len]; exact HYS.out, by
          have := HRK.out
          rwa [upL, if_neg hk0, ← HPK.out, hl, if_pos rfl] at this, HS2⟩
        case measure => simp [intOf]; omega

set_option maxHeartbeats 2000000 in
theorem down_calls (M : HMeth w0 O T ptr lt HP fN fL fS) {xs : List α} {i n : Nat} (HS : Sep w0 w O (HP xs :: L)) (hn : n ≤ xs.length) (hi : i ≤ 1048576) (hx : xs.length ≤ 1048576) :
    Calls Try.prog 37 #[.iface T ptr, .int .i64 i, .int .i64 n] w fun e w' => e = .returned (.bool (decide (i < (dnL lt n n xs i).2))) ∧ Sep w0 w' O (HP (dnL lt n n xs i).1 :: L) := by
  obtain ⟨R, hR⟩ : ∃ R, R = dnL lt n n xs i := ⟨_, rfl⟩
  rw [← hR]
  have eL := M.eL
  have eS := M.eS
  obtain ⟨N, hN⟩ : ∃ N, N = xs.length := ⟨_, rfl⟩
  have hn' : n ≤ N := by omega
  have HM := hid M
  clear M
  go_enter Try.func37, Try.ntmps37
  go_wp2
  go_loopw [7] (fun v wr => ∃ (f k : Nat) (ys : List α), v = .int .i64 k ∧ n ≤ k + f ∧ k ≤ 1048576 ∧ ys.length = N ∧ R = dnL lt n f ys k ∧ Sep w0 wr O (HP ys :: L)) (fun v _ => n - (intOf v).toNat)
  case atStart => exact ⟨n, i, xs, rfl, by omega, hi, hN.symm, hR, HS⟩
  case round =>
    obtain ⟨f, k, ys, rfl, hkf, hk, hys, hRk, HS1⟩ := hrel
    have HRK := hid hRk
    have HYS := hid hys
    clear hR hRk HS
    by_cases hc : 2 * k + 1 < n
    · have h1 : ¬ (n : Int) ≤ 2 * k + 1 := by omega
      have h1' : ¬ (2 * (k : Int) + 1) < 0 := by omega
      obtain ⟨f, rfl⟩ : ∃ f', f = f' + 1 := ⟨f - 1, by omega⟩
      by_cases hc2 : 2 * k + 2 < n
      · have h2 : (2 * (k : Int) + 1 + 1) < n := by omega
        obtain ⟨rvL, mL, cL⟩ := HM.out.less HS1 (i := 2 * k + 2) (j := 2 * k + 1) (by omega) (by omega)
        rw [show (((2 * k + 2 : Nat) : Int)) = 2 * (k : Int) + 1 + 1 by omega, show (((2 * k + 1 : Nat) : Int)) = 2 * (k : Int) + 1 by omega] at cL
        simp at mL
        cases hl : lt (gat ys (2 * k + 2)) (gat ys (2 * k + 1)) with
        | true =>
          rw [hl] at cL
          have hkid : kid lt n ys k = 2 * k + 2 := by unfold kid; rw [if_pos ⟨hc2, hl⟩]
          go_wp2_with fail
          refine cL.mono ?_
          rintro e w' ⟨rfl, q, rfl⟩
          clear mL cL
          obtain ⟨rv2, m2, c2⟩ := HM.out.less (HS1.drewN q) (i := 2 * k + 2) (j := k) (by omega) (by omega)
          simp at m2
          rw [show (((2 * k + 2 : Nat) : Int)) = 2 * (k : Int) + 1 + 1 by omega] at c2
          cases hb : lt (gat ys (2 * k + 2)) (gat ys k) with
          | false =>
            rw [hb] at c2
            go_wp2_with fail
            refine c2.mono ?_
            rintro e w' ⟨rfl, q2, rfl⟩
            clear m2 c2
            go_wp2
            go_ret
            have := HRK.out
            rw [dnL, if_pos hc, hkid, hb, if_neg (by simp)] at this
            exact ⟨by rw [this]; rfl, by rw [this]; exact HS1.drewN _⟩
          | true =>
            rw [hb] at c2
            go_wp2_with fail
            refine c2.mono ?_
            rintro e w' ⟨rfl, q2, rfl⟩
            clear m2 c2
            obtain ⟨rvS, mS, cS⟩ := HM.out.swap (HS1.drewN (q + q2)) (i := k) (j := 2 * k + 2) (by omega) (by omega)
            simp at mS
            rw [show (((2 * k + 2 : Nat) : Int)) = 2 * (k : Int) + 1 + 1 by omega] at cS
            go_wp2_with fail
            refine cS.mono ?_
            rintro e w' ⟨rfl, HS2⟩
            clear mS cS
            go_wp2
            go_roundw
            case rel => exact ⟨f, 2 * k + 2, swp ys k (2 * k + 2), by go_num, by omega, by omega, by rw [swp_len]; exact HYS.out, by
              have := HRK.out
              rwa [dnL, if_pos hc, hkid, hb, if_pos rfl] at this, HS2⟩
            case measure => simp [intOf]; omega
        | false =>
          rw [hl] at cL
          have hkid : kid lt n ys k = 2 * k + 1 := by unfold kid; rw [if_neg (by rw [hl]; simp)]
          go_wp2_with fail
          refine cL.mono ?_
          rintro e w' ⟨rfl, q, rfl⟩
          clear mL cL
          obtain ⟨rv2, m2, c2⟩ := HM.out.less (HS1.drewN q) (i := 2 * k + 1) (j := k) (by omega) (by omega)
          simp at m2
          rw [show (((2 * k + 1 : Nat) : Int)) = 2 * (k : Int) + 1 by omega] at c2
          cases hb : lt (gat ys (2 * k + 1)) (gat ys k) with
          | false =>
            rw [hb] at c2
            go_wp2_with fail
            refine c2.mono ?_
            rintro e w' ⟨rfl, q2, rfl⟩
            clear m2 c2
            go_wp2
            go_ret
            have := HRK.out
            rw [dnL, if_pos hc, hkid, hb, if_neg (by simp)] at this
            exact ⟨by rw [this]; rfl, by rw [this]; exact HS1.drewN _⟩
          | true =>
            rw [hb] at c2
            go_wp2_with fail
            refine c2.mono ?_
            rintro e w' ⟨rfl, q2, rfl⟩
            clear m2 c2
            obtain ⟨rvS, mS, cS⟩ := HM.out.swap (HS1.drewN (q + q2)) (i := k) (j := 2 * k + 1) (by omega) (by omega)
            simp at mS
            rw [show (((2 * k + 1 : Nat) : Int)) = 2 * (k : Int) + 1 by omega] at cS
            go_wp2_with fail
            refine cS.mono ?_
            rintro e w' ⟨rfl, HS2⟩
            clear mS cS
            go_wp2
            go_roundw
            case rel => exact ⟨f, 2 * k + 1, swp ys k (2 * k + 1), by go_num, by omega, by omega, by rw [swp_len]; exact HYS.out, by
              have := HRK.out
              rwa [dnL, if_pos hc, hkid, hb, if_pos rfl] at this, HS2⟩
            case measure => simp [intOf]; omega
      · have h2 : ¬ (2 * (k : Int) + 1 + 1) < n := by omega
        have hkid : kid lt n ys k = 2 * k + 1 := by unfold kid; rw [if_neg (fun h => hc2 h.1)]
        obtain ⟨rv2, m2, c2⟩ := HM.out.less HS1 (i := 2 * k + 1) (j := k) (by omega) (by omega)
        simp at m2
        rw [show (((2 * k + 1 : Nat) : Int)) = 2 * (k : Int) + 1 by omega] at c2
        cases hb : lt (gat ys (2 * k + 1)) (gat ys k) with
        | false =>
          rw [hb] at c2
          go_wp2_with fail
          refine c2.mono ?_
          rintro e w' ⟨rfl, q2, rfl⟩
          clear m2 c2
          go_wp2
          go_ret
          have := HRK.out
          rw [dnL, if_pos hc, hkid, hb, if_neg (by simp)] at this
          exact ⟨by rw [this]; rfl, by rw [this]; exact HS1.drewN _⟩
        | true =>
          rw [hb] at c2
          go_wp2_with fail
          refine c2.mono ?_
          rintro e w' ⟨rfl, q2, rfl⟩
          clear m2 c2
          obtain ⟨rvS, mS, cS⟩ := HM.out.swap (HS1.drewN (q2)) (i := k) (j := 2 * k + 1) (by omega) (by omega)
          simp at mS
          rw [show (((2 * k + 1 : Nat) : Int)) = 2 * (k : Int) + 1 by omega] at cS
          go_wp2_with fail
          refine cS.mono ?_
          rintro e w' ⟨rfl, HS2⟩
          clear mS cS
          go_wp2
          go_roundw
          case rel => exact ⟨f, 2 * k + 1, swp ys k (2 * k + 1), by go_num, by omega, by omega, by rw [swp_len]; exact HYS.out, by
            have := HRK.out
            rwa [dnL, if_pos hc, hkid, hb, if_pos rfl] at this, HS2⟩
          case measure => simp [intOf]; omega
    · have h1 : (n : Int) ≤ 2 * k + 1 := by omega
      go_wp2
      go_ret
      have e : dnL lt n f ys k = (ys, k) := by cases f <;> simp [dnL, hc]
      have := HRK.out
      rw [e] at this
      exact ⟨by rw [this]; rfl, by rw [this]; exact HS1⟩
end
end Go.Proofs.Ytkdoocgjagpcbaa
