/-
  Contracts of the reference's Tape.Numbers.
-/
import Derived.Test.YtkjlhifppjgieaaRefB
namespace Go.Proofs.Ytkjlhifppjgieaa
open Go.RowKit
set_option linter.unusedVariables false
set_option linter.unusedSimpArgs false
section
variable {w0 w : World} {O : Nat → Prop} {L : List Asr}

theorem Rb.kat {k : IntKind} {ad : Addr} {n : Nat} {l : List Int} (hr : Rb w0 O L 1 (some ad) n (kv k l)) (HS : Sep w0 w O L) {j : Nat} {x : Int} (h : l[j]? = some x) : w.cell? (ad.add j) = some (.int k x) := by
  have hrd := hr.read HS
  have hl := hr.klen HS
  have hj : j < l.length := by
    rcases Nat.lt_or_ge j l.length with h1 | h1
    · exact h1
    · rw [List.getElem?_eq_none h1] at h; cases h
  obtain ⟨ad', e, _, hc⟩ := hrd.2 (by omega)
  injection e with e; subst e
  exact hc j _ (by simp [kv, h])

set_option maxHeartbeats 400000 in
theorem rnumbers_bad {p : Value} {b : Bool} {A : Option Addr} {n c : Nat} {zs : List Int} (HS : Sep w0 w O L) (hr : Rb w0 O L 1 A n (iv zs)) (hlen : n ≤ 17592186044416) (hbad : ∃ z ∈ zs, ¬ (1 ≤ z ∧ z ≤ 8)) :
    Calls Try.prog 26 #[p, .bool b, .slice A n c] w fun e w' => e = .returned (.tuple #[.slice none 0 0, .bool false]) ∧ w = w' := by
  have hzl : zs.length = n := by have := hr.len HS; simpa [kv] using this
  have HR : Aside (∀ k, (hk : k < zs.length) → ∃ ad, A = some ad ∧ w.cell? (ad.add k) = some (.int .i64 zs[k])) := ⟨by
    intro k hk
    obtain ⟨ad, u, hA, hu, hc⟩ := hr.at_ HS (show k < n by omega)
    refine ⟨ad, hA, ?_⟩
    have : (iv zs)[k]? = some (.int .i64 zs[k]) := by simp [kv, hk]
    rw [this] at hu; injection hu with hu; rw [hc, hu]⟩
  have HB := hid hbad
  clear hbad
  go_enter Try.func26, Try.ntmps26
  go_wp2
  go_loop [8, 9] (fun a i => ∃ (k : Nat) (t : Int), k < n ∧ i = .int .i64 k ∧ a = .int .i64 t ∧ 0 ≤ t ∧ t ≤ 8 * k ∧ Aside (∀ j, (hj : j < zs.length) → j < k → 1 ≤ zs[j] ∧ zs[j] ≤ 8)) (fun _ i => n - (intOf i).toNat)
  case atStart =>
    refine ⟨0, 0, ?_, rfl, rfl, by omega, by omega, ⟨fun j hj h => absurd h (by omega)⟩⟩
    obtain ⟨z, hz, _⟩ := HB.out
    have := List.length_pos_of_mem hz
    omega
  case round =>
    obtain ⟨k, t, hk, rfl, rfl, ht0, ht1, HG⟩ := hrel
    obtain ⟨ad, rfl, hcell⟩ := HR.out k (by omega)
    by_cases hz : 1 ≤ zs[k] ∧ zs[k] ≤ 8
    · have HG' : Aside (∀ j, (hj : j < zs.length) → j < k + 1 → 1 ≤ zs[j] ∧ zs[j] ≤ 8) := ⟨fun j hj h => by
        rcases Nat.lt_or_ge j k with h1 | h1
        · exact HG.out j hj h1
        · obtain rfl : j = k := by omega
          exact hz⟩
      have hk1 : k + 1 < n := by
        rcases Nat.lt_or_ge (k + 1) n with h1 | h1
        · exact h1
        · obtain ⟨z, hm, hn⟩ := HB.out
          obtain ⟨j, hj, rfl⟩ := List.getElem_of_mem hm
          exact absurd (HG'.out j hj (by omega)) hn
      clear HG
      generalize zs[k] = s at *
      have q1 : ¬ s < 1 := by omega
      have q8 : ¬ 8 < s := by omega
      go_wp2
      go_round
      case rel => exact ⟨k + 1, t + s, by omega, by go_num, by go_num, by omega, by omega, HG'⟩
      case measure => simp [intOf]; omega
    · generalize zs[k] = s at *
      have key : s < 1 ∨ (¬ s < 1 ∧ 8 < s) := by omega
      rcases key with q | ⟨q, q'⟩
      all_goals
        go_wp2
        go_ret2
        exact ⟨rfl, rfl⟩

set_option maxHeartbeats 400000 in
theorem rnumbers_short {g : Nat} {l : List Int} {b : Bool} {A : Option Addr} {c : Nat} {ss : List Nat} (HS : Sep w0 w O (rtape g l :: L)) (hz : Sizes A w0 O L ss) (ht : l.length < tot ss) :
    Calls Try.prog 26 #[.pointer (some ⟨g, 0, none⟩), .bool b, .slice A ss.length c] w fun e w' => e = .returned (.tuple #[.slice none 0 0, .bool false]) ∧ w = w' := by
  obtain ⟨hr, h18, hlen⟩ := hz
  have hrr := hr.cons (P := rtape g l)
  have htot := tot_bd ss fun s hs => (h18 s hs).2
  have hread : ∀ k, (hk : k < ss.length) → ∃ ad, A = some ad ∧ w.cell? (ad.add k) = some (.int .i64 (ss[k] : Nat)) := by
    intro k hk
    obtain ⟨ad, u, hA, hu, hc⟩ := hrr.at_ HS hk
    refine ⟨ad, hA, ?_⟩
    have : (iv (ss.map Int.ofNat))[k]? = some (.int .i64 (ss[k] : Nat)) := by simp [kv, hk]
    rw [this] at hu; injection hu with hu; rw [hc, hu]
  have HR := hid hread
  clear hread
  obtain ⟨A1, c1, HS⟩ := HS.untape
  have hc := HS.blk_cell 0
  simp only [List.getElem?_toArray, List.getElem?_cons_zero] at hc
  go_enter Try.func26, Try.ntmps26
  go_wp2
  go_loop [8, 9] (fun a i => ∃ k : Nat, k ≤ ss.length ∧ i = .int .i64 k ∧ a = .int .i64 (tot (ss.take k))) (fun _ i => ss.length - (intOf i).toNat)
  case atStart => exact ⟨0, Nat.zero_le _, rfl, rfl⟩
  case round =>
    obtain ⟨k, hk, rfl, rfl⟩ := hrel
    by_cases hlt : k < ss.length
    · obtain ⟨ad, rfl, hcell⟩ := HR.out k hlt
      have hsk := h18 ss[k] (List.getElem_mem _)
      have HT := hid (tot_next ss k hlt)
      have hb1 := tot_le ss k
      generalize ss[k] = s at *
      have q1 : ¬ (s : Int) < 1 := by omega
      have q8 : ¬ 8 < (s : Int) := by omega
      go_wp2
      go_round
      case rel => exact ⟨k + 1, by omega, by go_num, by rw [HT.out]; go_num⟩
      case measure => simp [intOf]; omega
    · obtain rfl : k = ss.length := by omega
      rw [List.take_length]
      go_wp2
      go_ret2
      exact ⟨rfl, rfl⟩

set_option maxHeartbeats 2000000 in
set_option maxRecDepth 100000 in
theorem rnumbers_ok {g : Nat} {l : List Int} {b : Bool} {A : Option Addr} {c : Nat} {ss : List Nat} (HS : Sep w0 w O (rtape g l :: L)) (hz : Sizes A w0 O L ss) (hb : Byt l) (ht : tot ss ≤ l.length) (hl : l.length ≤ 140737488355328) :
    Calls Try.prog 26 #[.pointer (some ⟨g, 0, none⟩), .bool b, .slice A ss.length c] w fun e w' => ∃ A' c', e = .returned (.tuple #[.slice A' ss.length c', .bool true]) ∧
      Sep w0 w' O (own 23 1 A' ss.length c' (uv (cut l ss)) :: rtape g (if b then l.drop (tot ss) else l) :: L) := by
  obtain ⟨i0, hi0, hz0, hz1, hz2⟩ := info_parts info_u64
  obtain ⟨hr, h18, hlen⟩ := hz
  have hrr := hr.cons (P := rtape g l)
  have htot := tot_bd ss fun s hs => (h18 s hs).2
  have hread : ∀ k, (hk : k < ss.length) → ∃ ad, A = some ad ∧ w.cell? (ad.add k) = some (.int .i64 (ss[k] : Nat)) := by
    intro k hk
    obtain ⟨ad, u, hA, hu, hc⟩ := hrr.at_ HS hk
    refine ⟨ad, hA, ?_⟩
    have : (iv (ss.map Int.ofNat))[k]? = some (.int .i64 (ss[k] : Nat)) := by simp [kv, hk]
    rw [this] at hu; injection hu with hu; rw [hc, hu]
  have HR := hid hread
  clear hread
  obtain ⟨A1, c1, HS⟩ := HS.untape
  have hc := HS.blk_cell 0
  simp only [List.getElem?_toArray, List.getElem?_cons_zero] at hc
  have hle := own_le HS.up1
  go_enter Try.func26, Try.ntmps26
  go_wp2
  go_loop [8, 9] (fun a i => ∃ k : Nat, k ≤ ss.length ∧ i = .int .i64 k ∧ a = .int .i64 (tot (ss.take k))) (fun _ i => ss.length - (intOf i).toNat)
  case atStart => exact ⟨0, Nat.zero_le _, rfl, rfl⟩
  case round =>
    obtain ⟨k, hk, rfl, rfl⟩ := hrel
    by_cases hlt : k < ss.length
    · obtain ⟨ad, rfl, hcell⟩ := HR.out k hlt
      have hsk := h18 ss[k] (List.getElem_mem _)
      have HT := hid (tot_next ss k hlt)
      have hb1 := tot_le ss k
      generalize ss[k] = s at *
      have q1 : ¬ (s : Int) < 1 := by omega
      have q8 : ¬ 8 < (s : Int) := by omega
      go_wp2
      go_round
      case rel => exact ⟨k + 1, by omega, by go_num, by rw [HT.out]; go_num⟩
      case measure => simp [intOf]; omega
    · obtain rfl : k = ss.length := by omega
      rw [List.take_length]
      go_wp2
      go_loopw [10, 11, 12, 13, 14] (fun v a i x1 x2 wr => ∃ (k c2 : Nat) (A2 : Option Addr), k ≤ ss.length ∧ i = .int .i64 k ∧ a = .int .i64 (tot (ss.take k)) ∧ v = .slice A2 k c2 ∧
        Sep w0 wr O (own 23 1 A2 k c2 (uv (cut l (ss.take k))) :: blk g 50 #[.slice A1 l.length c1] :: own 5 1 A1 l.length c1 (by8 l) :: L)) (fun _ _ i _ _ _ => ss.length - (intOf i).toNat)
      case atStart => exact ⟨0, 0, none, Nat.zero_le _, rfl, rfl, rfl, by simpa [cut, kv] using HS.nil 23 1⟩
      case round =>
        obtain ⟨k, c2, A2, hk, rfl, rfl, rfl, HS2⟩ := hrel
        by_cases hlt : k < ss.length
        · have hrs := ((hr.cons (P := own 5 1 A1 l.length c1 (by8 l))).cons (P := blk g 50 #[.slice A1 l.length c1])).cons (P := own 23 1 A2 k c2 (uv (cut l (ss.take k))))
          obtain ⟨ad, u, rfl, hu, hcell⟩ := hrs.at_ HS2 hlt
          have hu' : u = .int .i64 (ss[k] : Nat) := by
            have : (iv (ss.map Int.ofNat))[k]? = some (.int .i64 (ss[k] : Nat)) := by simp [kv, hlt]
            rw [this] at hu; injection hu with hu; exact hu.symm
          subst hu'
          have hc2 := HS2.up1.blk_cell 0
          simp only [List.getElem?_toArray, List.getElem?_cons_zero] at hc2
          have hsk := h18 ss[k] (List.getElem_mem _)
          have HT := tot_next ss k hlt
          have hb1 := tot_le ss (k + 1)
          have HC := hid (cut_next l ss k hlt)
          have HG : Aside ((ss.map Int.ofNat)[k]? = some (ss[k] : Int)) := ⟨by simp [hlt]⟩
          generalize ss[k] = s at *
          have hrb := (Rb.i2 (w0 := w0) (O := O) (L := L) (a := own 23 1 A2 k c2 (uv (cut l (ss.take k)))) (b := blk g 50 #[.slice A1 l.length c1]) (e := 5) (size := 1) (A := A1) (n := l.length) (k := c1) (xs := by8 l)).ktail rfl (show tot (ss.take k) ≤ l.length by omega) hle
          have HT' := hid HT
          have hsl : tot (ss.take k) + s ≤ l.length := by omega
          have htl := tot_le ss k
          have HAT : Aside (∃ t, t = tot (ss.take k)) := ⟨_, rfl⟩
          clear HT hu hb1
          obtain ⟨at_, hat⟩ := HAT.out
          rw [← hat] at hrb HT' hsl htl HC ⊢
          rw [if_neg (show ¬ c1 = at_ by omega)] at hrb
          clear HAT
          have HAT := hid hat
          clear hat
          go_wp2_with fail
          go_quiet (first | (go_at_call 11; refine Calls.quiet_of_same ((rget_ok (HS2.drewN _) hrb (hb.drop _) hsk.1 hsk.2 (by omega)).mono fun _ _ ⟨he, hw⟩ => ⟨he, hw.symm⟩)))
          generalize num (List.take s (List.drop at_ l)) = N at *
          have HL : Sep w0 ((wr.drewN nq).alloc (.cells #[.int .u64 N] 23)) O (own 23 1 A2 k c2 (uv (cut l (ss.take k))) :: own 23 1 (some ⟨wr.heap.size, 0, none⟩) 1 1 (uv [N]) :: blk g 50 #[.slice A1 l.length c1] :: own 5 1 A1 l.length c1 (by8 l) :: L) := ((HS2.drewN nq).lit #[.int .u64 N] 23 1 1 rfl (by decide)).up1
          have hrd := HL.rd1
          go_wp2_with (at_builtin; refine wpList_append_sep rfl (.tmp 66) (.tmp 68) 31 rfl 23 i0 _ 1 8 Try.underlying31 hi0 hz0 hz1 hz2 rfl (by decide) rfl HL rfl hrd (uv_one [N]) (by simp only [maxLen]; omega) (by omega) rfl (uv_append _ _) ?_; intro A3 c3 w3 HS3 hsz3; have hcell3 := hr.cons.cons.cons.cons.kat HS3 HG.out)
          go_roundw
          case rel => exact ⟨k + 1, c3, A3, by omega, by go_num, by rw [HT'.out]; go_num, rfl, by have := HS3.up1.drop; rwa [← HC.out] at this⟩
          case measure => simp [intOf]; omega
        · obtain rfl : k = ss.length := by omega
          rw [List.take_length] at HS2 ⊢
          cases b
          · go_wp2
            go_ret2
            exact ⟨_, _, rfl, (HS2.up1.up2.up1.tape rfl rfl).up1⟩
          · go_wp2_with fail
            refine (rtake_yes (HS2.up1.up2.up1.tape rfl rfl) ht hl).mono ?_
            rintro e w4 ⟨A4, c4, rfl, HS4⟩
            go_wp2
            go_ret2
            exact ⟨_, _, rfl, HS4.drop.up1⟩
end
end Go.Proofs.Ytkjlhifppjgieaa
