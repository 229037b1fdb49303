/-
  Contracts of hello.Answers, and of slices.IndexFunc at its closure.
-/
import Derived.Test.YtgepekailoopeaaHelE
import Derived.Test.YtgepekailoopeaaVolR
namespace Go.Proofs.Ytgepekailoopeaa
open Go.RowKit
set_option linter.unusedVariables false
set_option linter.unusedSimpArgs false
section
variable {w0 w : World} {O : Nat → Prop} {L : List Asr}

set_option maxHeartbeats 1000000 in
theorem ansclos_calls {gw : Nat} {id size root orig op : Int} {nm wn : ByteArray} {fx : Bool} {I : Value} (HS : Sep w0 w O (blk gw 66 #[.int .u32 op, .string wn, I] :: L)) :
    Calls Try.prog 70 #[.agg (volC id nm size root fx orig), .pointer (some ⟨gw, 0, none⟩)] w fun e w' => e = .returned (.bool (nm.toList == wn.toList)) ∧ Sep w0 w' O (blk gw 66 #[.int .u32 op, .string wn, I] :: L) := by
  have HSa := HS.alloc (volC id nm size root fx orig) 60
  have c1 := HSa.blk_at 1 rfl
  have d1 := HSa.up1.blk_at 1 rfl
  go_enter Try.func70, Try.ntmps70
  go_wp2
  go_ret
  exact ⟨rfl, HSa.drop⟩

def vPos (vs : List Vol) (wn : ByteArray) : Option Nat := vs.findIdx? (fun v => v.nm.toList == wn.toList)
set_option maxHeartbeats 2000000 in
set_option maxRecDepth 100000 in
theorem indexf_calls {A : Option Addr} {n c gw : Nat} {vs : List Vol} {op : Int} {wn : ByteArray} {I : Value} (HS : Sep w0 w O (blk gw 66 #[.int .u32 op, .string wn, I] :: L)) (hr : Rb w0 O L 6 A n (vrow vs)) (hvn : vs.length = n) (hn : n ≤ 70368744177664) :
    Calls Try.prog 69 #[.slice A n c, .func (.func 70) #[] #[.pointer (some ⟨gw, 0, none⟩)]] w fun e w' => ∃ r : Int, e = .returned (.int .i64 r) ∧ (vPos vs wn = none ∧ r = -1 ∨ ∃ k : Nat, vPos vs wn = some k ∧ r = k) ∧ Sep w0 w' O (blk gw 66 #[.int .u32 op, .string wn, I] :: L) := by
  have HVN := hid hvn
  obtain ⟨Q, hQ⟩ : ∃ Q : Ending → World → Prop, Q = fun e w' => ∃ r : Int, e = .returned (.int .i64 r) ∧ (vPos vs wn = none ∧ r = -1 ∨ ∃ k : Nat, vPos vs wn = some k ∧ r = k) ∧ Sep w0 w' O (blk gw 66 #[.int .u32 op, .string wn, I] :: L) := ⟨_, rfl⟩
  have HQ := hid hQ
  rw [← hQ]
  clear hQ hvn
  go_enter Try.func69, Try.ntmps69
  go_wp2_with fail
  go_loopw [8] (fun i wr => ∃ k : Nat, k ≤ n ∧ i = .int .i64 k ∧ Aside (∀ v ∈ vs.take k, (v.nm.toList == wn.toList) = false) ∧ Sep w0 wr O (blk gw 66 #[.int .u32 op, .string wn, I] :: L)) (fun i _ => n - (intOf i).toNat)
  case atStart => exact ⟨0, Nat.zero_le _, rfl, ⟨by simp⟩, HS⟩
  case round =>
    obtain ⟨k, hk, rfl, hnot, HS1⟩ := hrel
    clear HS
    by_cases hlt : k < n
    · obtain ⟨ad, v, rfl, hvk, x0, x1, x2, x3, x4, x5⟩ := hr.cons.volAt HS1 hlt
      have hj : (k : Int) < n := by omega
      have j0 : (0 : Int) ≤ k := by omega
      have HVK := hid hvk
      clear hvk
      go_wp2_with fail
      refine (ansclos_calls HS1).mono ?_
      rintro e w3 ⟨rfl, HS3⟩
      clear x0 x1 x2 x3 x4 x5
      cases hB : (v.nm.toList == wn.toList)
      · have HB := hid hB
        clear hB
        go_wp2
        go_roundw
        case rel =>
          refine ⟨k + 1, by omega, by go_num, ⟨?_⟩, HS3⟩
          intro u hu
          rw [List.take_add_one, HVK.out] at hu
          rcases List.mem_append.1 hu with hu | hu
          · exact hnot.out u hu
          · simp at hu; subst hu; exact HB.out
        case measure => simp [intOf]; omega
      · have HB := hid hB
        clear hB
        go_wp2
        rw [HQ.out]
        refine ⟨k, rfl, .inr ⟨k, ?_, rfl⟩, HS3⟩
        unfold vPos
        rw [List.findIdx?_eq_some_iff_getElem]
        obtain ⟨hlt', hev⟩ := List.getElem?_eq_some_iff.1 HVK.out
        refine ⟨hlt', by rw [hev]; exact HB.out, fun j hj => ?_⟩
        have : vs[j]'(by omega) ∈ vs.take k := by
          rw [List.mem_take_iff_getElem]
          exact ⟨j, by omega, rfl⟩
        rw [hnot.out _ this]
        simp
    · obtain rfl : n = k := by omega
      have hj : ¬ (n : Int) < n := by omega
      go_wp2
      rw [HQ.out]
      refine ⟨-1, rfl, .inl ⟨?_, rfl⟩, HS1⟩
      unfold vPos
      rw [List.findIdx?_eq_none_iff]
      intro v hv
      have := hnot.out v (by rw [List.take_of_length_le (by rw [HVN.out]; exact Nat.le_refl _)]; exact hv)
      simpa using this
end
end Go.Proofs.Ytgepekailoopeaa
