/-
  Contracts of a space's Claim, Give, Free.
-/
import Derived.Test.YtepooiiaijbljaaFreeS
namespace Go.Proofs.Ytepooiiaijbljaa
open Go.RowKit
set_option linter.unusedVariables false
set_option linter.unusedSimpArgs false
section
variable {w0 w : World} {O : Nat → Prop} {L : List Asr} {g : Nat} {is : List Bool}

theorem index_calls {A : Option Addr} {c : Nat} {xs : List Int} {x : Int} (HS : Sep w0 w O (own 3 1 A xs.length c (kv .i64 xs) :: L)) (hn : xs.length ≤ 1048576) :
    Calls Try.prog 57 #[.slice A xs.length c, .int .i64 x] w fun e w' => ∃ r : Int, e = .returned (.int .i64 r) ∧ (0 ≤ r ↔ x ∈ xs) ∧ w' = w := by
  go_enter Try.func57, Try.ntmps57
  go_wp2
  go_loopw [8] (fun v wr => ∃ k : Nat, v = .int .i64 k ∧ k ≤ xs.length ∧ (∀ j, j < k → gat xs j ≠ x) ∧ wr = w) (fun v _ => xs.length - (intOf v).toNat)
  case atStart => exact ⟨0, rfl, Nat.zero_le _, fun j hj => absurd hj (Nat.not_lt_zero j), rfl⟩
  case round =>
    obtain ⟨k, rfl, hk, hno, rfl⟩ := hrel
    have HNO := hid hno
    clear hno
    by_cases hlt : k < xs.length
    · obtain ⟨b, rfl⟩ := HS.own_some (by omega)
      have ck := HS.kcell hlt rfl
      rw [gat_int hlt] at ck
      have hk1 : (k : Int) < xs.length := by omega
      by_cases he : gat xs k = x
      · have hm : x ∈ xs := by rw [← he]; exact gat_mem hlt
        have HM := hid hm
        clear hm
        go_wp2
        go_ret
        exact ⟨_, rfl, ⟨fun _ => HM.out, fun _ => by omega⟩, rfl⟩
      · have he1 : (x == gat xs k) = false := by simpa using fun h => he h.symm
        have he2 : (gat xs k == x) = false := by simpa using he
        go_wp2
        go_roundw
        case rel => exact ⟨k + 1, by go_num, by omega, fun j hj => by
          by_cases hjk : j = k
          · rw [hjk]; exact he
          · exact HNO.out j (by omega), by trivial⟩
        case measure => simp [intOf]; omega
    · have hk1 : ¬ (k : Int) < xs.length := by omega
      go_wp2
      go_ret
      refine ⟨_, rfl, ⟨fun h => absurd h (by decide), fun hm => ?_⟩, rfl⟩
      obtain ⟨j, hj, e⟩ := List.getElem_of_mem hm
      rw [gat_int hj] at e
      exact absurd e (HNO.out j (by omega))

theorem contains_calls {A : Option Addr} {c : Nat} {xs : List Int} {x : Int} (HS : Sep w0 w O (own 3 1 A xs.length c (kv .i64 xs) :: L)) (hn : xs.length ≤ 1048576) :
    Calls Try.prog 55 #[.slice A xs.length c, .int .i64 x] w fun e w' => e = .returned (.bool (decide (x ∈ xs))) ∧ w' = w := by
  go_enter Try.func55, Try.ntmps55
  go_wp2_with fail
  refine (index_calls HS hn).mono ?_
  rintro e w' ⟨r, rfl, hr, rfl⟩
  have hd : decide (0 ≤ r) = decide (x ∈ xs) := decide_eq_decide.2 hr
  have HD := hid hd
  clear hd hr
  go_wp2
  go_ret
  exact ⟨by rw [← HD.out]; rfl, rfl⟩

theorem iclaim_calls {k : Nat} (HS : Sep w0 w O (space g is :: L)) (hk : k < is.length) :
    Calls Try.prog 52 #[.pointer (some ⟨g, 0, none⟩), .int .i64 k] w fun e w' => e = .returned (.int .i64 (clErr is k)) ∧ Sep w0 w' O (space g (clIs is k) :: L) := by
  obtain ⟨hp, IA, ci, hok, hle, H⟩ := HS.unspace
  obtain ⟨A, c, HB⟩ := H.up1.unheap
  have a0 := HB.up1.blkAt 0 rfl
  have a1 := HB.up1.blkAt 1 rfl
  have z1 := HB.up1.blk_frozen 1
  have HI : Sep w0 w O (own 4 1 IA is.length ci (bv is) :: blk g 73 #[.slice IA is.length ci, .int .i64 (is.count true), .slice A hp.length c, .bool true] :: own 3 1 A hp.length c (kv .i64 hp) :: L) := HB.sel 3 [2, 1, 0]
  obtain ⟨b, rfl⟩ := HI.own_some (by omega)
  have ck := HI.bcell hk
  have zk := HI.own_frozen k
  have hk1 : (k : Int) < is.length := by omega
  have hr0 : ¬ ((k : Int) < 0 ∨ (is.length : Int) ≤ k) := by omega
  cases hv : is[k] with
  | false =>
    rw [hv] at ck
    have hf : is[k]? ≠ some true := by rw [List.getElem?_eq_getElem hk, hv]; simp
    have e1 : clErr is k = 6 := by unfold clErr; rw [if_neg hr0, Int.toNat_natCast, if_neg hf]
    have e2 : clIs is k = is := by unfold clIs; rw [e1, if_neg (by decide)]
    have E1 := hid e1
    have E2 := hid e2
    clear e1 e2 HB HI
    go_enter Try.func52, Try.ntmps52
    go_wp2
    go_ret
    exact ⟨by rw [E1.out]; rfl, by rw [E2.out]; exact HS⟩
  | true =>
    rw [hv] at ck
    have hf : is[k]? = some true := by rw [List.getElem?_eq_getElem hk, hv]
    have e1 : clErr is k = 0 := by unfold clErr; rw [if_neg hr0, Int.toNat_natCast, if_pos hf]
    have e2 : clIs is k = is.set k false := by unfold clIs; rw [e1, if_pos rfl, Int.toNat_natCast]
    have hc := count_off hf
    have hc2 : is.count true ≤ is.length := List.count_le_length
    have hc3 : (0 : Int) ≤ ((is.set k false).count true : Nat) := Int.natCast_nonneg _
    have hw : IntKind.i64.wrap ((is.count true : Int) - 1) = (is.count true : Int) - 1 := by rw [IntKind.wrap_i64]; omega
    have HJ := HI.bset k false
    have b1 := HJ.up1.blkAt 1 rfl
    have y1 := HJ.up1.blk_frozen 1
    have HW := HJ.up1.blk_set 1 (.int .i64 ((is.count true : Int) - 1))
    have HC := hid hc
    have HOK := hid (hok.claim hk)
    have E1 := hid e1
    have E2 := hid e2
    clear e1 e2 hc HB H HS
    generalize is.count true = cn at *
    go_enter Try.func52, Try.ntmps52
    go_wp2
    go_ret
    have e4 : (is.set k false).length = is.length := List.length_set
    refine ⟨by rw [E1.out]; rfl, ?_⟩
    rw [E2.out]
    refine Sep.spaced (hp := hp) (IA := some ⟨b, 0, none⟩) (ci := ci) HOK.out (by rw [e4]; exact hle) ?_
    rw [e4, HC.out]
    exact (Sep.heaped (HW.sel 3 [2, 0, 1])).up1

set_option maxHeartbeats 1000000 in
theorem igive_calls {k : Nat} (HS : Sep w0 w O (space g is :: L)) (hk : k < is.length) :
    Calls Try.prog 54 #[.pointer (some ⟨g, 0, none⟩), .int .i64 k] w fun e w' => e = .returned (.int .i64 (gvErr is k)) ∧ Sep w0 w' O (space g (gvIs is k) :: L) := by
  obtain ⟨hp, IA, ci, hok, hle, H⟩ := HS.unspace
  obtain ⟨A, c, HB⟩ := H.up1.unheap
  have hplen := hok.len
  have a0 := HB.up1.blkAt 0 rfl
  have a1 := HB.up1.blkAt 1 rfl
  have z1 := HB.up1.blk_frozen 1
  have HI : Sep w0 w O (own 4 1 IA is.length ci (bv is) :: blk g 73 #[.slice IA is.length ci, .int .i64 (is.count true), .slice A hp.length c, .bool true] :: own 3 1 A hp.length c (kv .i64 hp) :: L) := HB.sel 3 [2, 1, 0]
  obtain ⟨b, rfl⟩ := HI.own_some (by omega)
  have ck := HI.bcell hk
  have zk := HI.own_frozen k
  have hk1 : (k : Int) < is.length := by omega
  have hr0 : ¬ ((k : Int) < 0 ∨ (is.length : Int) ≤ k) := by omega
  cases hv : is[k] with
  | true =>
    rw [hv] at ck
    have hf : is[k]? = some true := by rw [List.getElem?_eq_getElem hk, hv]
    have e1 : gvErr is k = 7 := by unfold gvErr; rw [if_neg hr0, Int.toNat_natCast, if_pos hf]
    have e2 : gvIs is k = is := by unfold gvIs; rw [e1, if_neg (by decide)]
    have E1 := hid e1
    have E2 := hid e2
    clear e1 e2 HB HI
    go_enter Try.func54, Try.ntmps54
    go_wp2
    go_ret
    exact ⟨by rw [E1.out]; rfl, by rw [E2.out]; exact HS⟩
  | false =>
    rw [hv] at ck
    have hf : is[k]? ≠ some true := by rw [List.getElem?_eq_getElem hk, hv]; simp
    have e1 : gvErr is k = 0 := by unfold gvErr; rw [if_neg hr0, Int.toNat_natCast, if_neg hf]
    have e2 : gvIs is k = is.set k true := by unfold gvIs; rw [e1, if_pos rfl, Int.toNat_natCast]
    have hc := count_on hk hf
    have hc2 : is.count true ≤ is.length := List.count_le_length
    have hw : IntKind.i64.wrap ((is.count true : Int) + 1) = (is.count true : Int) + 1 := by rw [IntKind.wrap_i64]; omega
    have HJ := HI.bset k true
    have b1 := HJ.up1.blkAt 1 rfl
    have y1 := HJ.up1.blk_frozen 1
    have HW := HJ.up1.blk_set 1 (.int .i64 ((is.count true : Int) + 1))
    have x2 := HW.blkAt 2 rfl
    have HCO := hid (contains_calls (x := (k : Int)) (HW.sel 3 [2, 0, 1]) (by omega))
    have HC := hid hc
    have HOK := hid hok
    have E1 := hid e1
    have E2 := hid e2
    have HEA := hid (Sep.heaped (HW.sel 3 [2, 0, 1]))
    have e4 : (is.set k true).length = is.length := List.length_set
    have HE4 := hid e4
    clear e1 e2 hc HB H HS e4 hok
    generalize is.count true = cn at *
    go_enter Try.func54, Try.ntmps54
    go_wp2_with fail
    refine HCO.out.mono ?_
    rintro e w1 ⟨rfl, rfl⟩
    by_cases hm : (k : Int) ∈ hp
    · have hd : decide ((k : Int) ∈ hp) = true := decide_eq_true hm
      go_wp2
      go_ret
      refine ⟨by rw [E1.out]; rfl, ?_⟩
      rw [E2.out]
      refine Sep.spaced (hp := hp) (IA := some ⟨b, 0, none⟩) (ci := ci) (HOK.out.give hk hm) (by rw [HE4.out]; exact hle) ?_
      rw [HE4.out, HC.out]
      exact HEA.out.up1
    · have hd : decide ((k : Int) ∈ hp) = false := decide_eq_false hm
      have hP := heappush_calls (hmeth w0 O g (some ⟨b, 0, none⟩) is.length ci ((cn : Int) + 1)) (hmethP w0 O g (some ⟨b, 0, none⟩) is.length ci ((cn : Int) + 1)) (x := (k : Int)) HEA.out (by omega)
      have HP := hid hP
      clear hP
      go_wp2_with fail
      refine HP.out.mono ?_
      rintro e w1 ⟨rfl, H1⟩
      go_wp2
      go_ret
      refine ⟨by rw [E1.out]; rfl, ?_⟩
      rw [E2.out]
      refine Sep.spaced (hp := _) (IA := some ⟨b, 0, none⟩) (ci := ci) (HOK.out.givePush hk hm) (by rw [HE4.out]; exact hle) ?_
      rw [HE4.out, HC.out]
      exact H1.up1

theorem does_calls {f : FuncId} {Q : Ending → World → Prop} {x : Int} (HS : Sep w0 w O (space g is :: L)) (hf : ∀ args w, (callFunc f args).run Try.prog w = .ok (.enter f args) w)
    (hbad : (x < 0 ∨ (is.length : Int) ≤ x) → Q (.returned (.int .i64 1)) w) (hc : 0 ≤ x → x < is.length → Calls Try.prog f #[.pointer (some ⟨g, 0, none⟩), .int .i64 x] w fun e w' => ∃ v, e = .returned v ∧ Q (.returned v) w') :
    Calls Try.prog 51 #[.pointer (some ⟨g, 0, none⟩), .int .i64 x, .func (.func f) #[] #[]] w Q := by
  have hR := right_space HS
  obtain ⟨hp, IA, ci, hok, hle, H⟩ := HS.unspace
  obtain ⟨A, c, HB⟩ := H.up1.unheap
  have a0 := HB.up1.blkAt 0 rfl
  have HBAD := hid hbad
  have HC := hid hc
  clear hbad hc HB H hok
  go_enter Try.func51, Try.ntmps51
  go_wp2_with fail
  refine hR.mono ?_
  rintro e w' ⟨rfl, rfl⟩
  clear hR HS
  by_cases h0 : x < 0
  · go_wp2
    exact HBAD.out (.inl h0)
  · by_cases h1 : (is.length : Int) ≤ x
    · go_wp2
      exact HBAD.out (.inr h1)
    · have h2 := HC.out (by omega) (by omega)
      have H2 := hid h2
      clear h2
      go_wp2_with fail
      refine H2.out.mono ?_
      rintro e w' ⟨v, rfl, hq⟩
      go_wp2
      exact hq
theorem claim_calls {x : Int} (HS : Sep w0 w O (space g is :: L)) :
    Calls Try.prog 45 #[.pointer (some ⟨g, 0, none⟩), .int .i64 x] w fun e w' => e = .returned (.int .i64 (clErr is x)) ∧ Sep w0 w' O (space g (clIs is x) :: L) := by
  have hD := does_calls (f := 52) (x := x) (Q := fun e w' => e = .returned (.int .i64 (clErr is x)) ∧ Sep w0 w' O (space g (clIs is x) :: L)) HS (fun _ _ => by kernel_rfl) (fun h => by
    have e1 : clErr is x = 1 := by unfold clErr; rw [if_pos h]
    have e2 : clIs is x = is := by unfold clIs; rw [e1, if_neg (by decide)]
    rw [e1, e2]; exact ⟨rfl, HS⟩) (fun h1 h2 => by
    obtain ⟨k, rfl⟩ := Int.eq_ofNat_of_zero_le h1
    refine (iclaim_calls HS (by omega)).mono ?_
    rintro e w' ⟨rfl, H⟩
    exact ⟨_, rfl, rfl, H⟩)
  generalize clErr is x = E at *
  generalize clIs is x = J at *
  go_enter Try.func45, Try.ntmps45
  go_wp2_with fail
  refine hD.mono ?_
  rintro e w' ⟨rfl, H⟩
  go_wp2
  go_ret
  exact ⟨rfl, H⟩
theorem give_calls {x : Int} (HS : Sep w0 w O (space g is :: L)) :
    Calls Try.prog 48 #[.pointer (some ⟨g, 0, none⟩), .int .i64 x] w fun e w' => e = .returned (.int .i64 (gvErr is x)) ∧ Sep w0 w' O (space g (gvIs is x) :: L) := by
  have hD := does_calls (f := 54) (x := x) (Q := fun e w' => e = .returned (.int .i64 (gvErr is x)) ∧ Sep w0 w' O (space g (gvIs is x) :: L)) HS (fun _ _ => by kernel_rfl) (fun h => by
    have e1 : gvErr is x = 1 := by unfold gvErr; rw [if_pos h]
    have e2 : gvIs is x = is := by unfold gvIs; rw [e1, if_neg (by decide)]
    rw [e1, e2]; exact ⟨rfl, HS⟩) (fun h1 h2 => by
    obtain ⟨k, rfl⟩ := Int.eq_ofNat_of_zero_le h1
    refine (igive_calls HS (by omega)).mono ?_
    rintro e w' ⟨rfl, H⟩
    exact ⟨_, rfl, rfl, H⟩)
  generalize gvErr is x = E at *
  generalize gvIs is x = J at *
  go_enter Try.func48, Try.ntmps48
  go_wp2_with fail
  refine hD.mono ?_
  rintro e w' ⟨rfl, H⟩
  go_wp2
  go_ret
  exact ⟨rfl, H⟩
theorem free_calls (HS : Sep w0 w O (space g is :: L)) :
    Calls Try.prog 33 #[.pointer (some ⟨g, 0, none⟩)] w fun e w' => e = .returned (.int .i64 (is.count true)) ∧ w' = w := by
  have hR := right_space HS
  obtain ⟨hp, IA, ci, hok, hle, H⟩ := HS.unspace
  obtain ⟨A, c, HB⟩ := H.up1.unheap
  have a1 := HB.up1.blkAt 1 rfl
  generalize is.count true = cn at *
  clear HB H hok
  go_enter Try.func33, Try.ntmps33
  go_wp2_with fail
  refine hR.mono ?_
  rintro e w' ⟨rfl, rfl⟩
  clear hR HS
  go_wp2
  go_ret
  exact ⟨rfl, rfl⟩
end
end Go.Proofs.Ytepooiiaijbljaa
