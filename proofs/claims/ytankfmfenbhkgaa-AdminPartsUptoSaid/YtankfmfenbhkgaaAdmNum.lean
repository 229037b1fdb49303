/-
  Contract of admin's reader: numbers.
-/
import Derived.Test.YtankfmfenbhkgaaAdmRd
import Derived.Test.YtankfmfenbhkgaaCut
namespace Go.Proofs.Ytankfmfenbhkgaa
open Go.RowKit
set_option linter.unusedVariables false
set_option linter.unusedSimpArgs false
section
variable {w0 w : World} {O : Nat → Prop} {L : List Asr}

set_option maxHeartbeats 1000000 in
set_option maxRecDepth 100000 in
theorem rnumbers_no {g gs a n c : Nat} {A : Option Addr} {e : Int} {stop : Bool} {ss : List Nat} {E : Int} (hE : E = if stop then e else 0) (HS : Sep w0 w O (rdB g A n c a stop e :: own 3 1 (some ⟨gs, 0, none⟩) ss.length ss.length (iv (ss.map Int.ofNat)) :: L)) (h18 : ∀ s ∈ ss, 1 ≤ s ∧ s ≤ 8) (hK : ss.length ≤ 8) (hn : n ≤ 140737488355328) (ha : a ≤ n) (h : stop = true ∨ n < a + tot ss) :
    Calls Try.prog 31 #[.pointer (some ⟨g, 0, none⟩), .slice (some ⟨gs, 0, none⟩) ss.length ss.length] w fun e' w' => ∃ A', e' = .returned (.slice A' ss.length ss.length) ∧ Sep w0 w' O (own 22 1 A' ss.length ss.length (uv (List.replicate ss.length 0)) :: rdB g A n c a true E :: L) := by
  have hmk := mk_u64 ss.length (by omega)
  have h' : stop = true ∨ (n : Int) - a < (tot ss : Nat) := by
    rcases h with h | h
    · exact .inl h
    · exact .inr (by omega)
  have hbd := tot_bd ss h18
  have H18 := hid h18
  have HH := hid h'
  have HE := hid hE
  clear hE
  clear h18 h h'
  go_enter Try.func31, Try.ntmps31
  go_wp2_with fail
  go_loop [5, 14] (fun s i => ∃ k : Nat, k ≤ ss.length ∧ i = .int .i64 k ∧ s = .int .i64 (tot (ss.take k) : Nat)) (fun _ i => ss.length - (intOf i).toNat)
  case atStart => exact ⟨0, Nat.zero_le _, rfl, rfl⟩
  case round =>
    obtain ⟨k, hk, rfl, rfl⟩ := hrel
    by_cases hlt : k < ss.length
    · obtain ⟨ad, hA, hcell⟩ := (Rb.i1).elem HS (j := k) (by simpa using hlt)
      injection hA with hA
      subst hA
      rw [add_at, List.getElem_map] at hcell
      have ht := tot_next ss k hlt
      have hs := H18.out _ (List.getElem_mem hlt)
      have hle := tot_le ss k
      generalize ss[k] = s at *
      have HT := hid ht
      clear ht
      generalize tot (ss.take k) = t at *
      have hw : IntKind.i64.wrap ((t : Int) + s) = t + s := by rw [IntKind.wrap_i64]; omega
      have hj : (k : Int) < ss.length := by omega
      have hcell' : w.cell? ⟨gs, k, none⟩ = some (.int .i64 (s : Nat)) := hcell
      clear hcell
      go_wp2
      go_round
      case rel => exact ⟨k + 1, by omega, by go_num, by rw [HT.out]; simp⟩
      case measure => simp [intOf]; omega
    · obtain rfl : ss.length = k := by omega
      rw [List.take_length]
      go_wp2_with fail
      refine (rtake_no HS hn ha HH.out).mono ?_
      rintro e' w1 ⟨rfl, HS1⟩
      rw [← HE.out] at HS1
      have HZ := HS1.lit (uv (List.replicate ss.length 0)).toArray 22 1 ss.length (by simp [kv]) (by simp only [maxLen]; omega)
      obtain ⟨gz, hgz⟩ : ∃ gz, gz = w1.heap.size := ⟨_, rfl⟩
      have hmk1 := hmk w1
      rw [← hgz] at HZ hmk1
      clear hgz hmk
      obtain ⟨w2, hw2⟩ : ∃ w2, w2 = w1.alloc (.cells (uv (List.replicate ss.length 0)).toArray 22) := ⟨_, rfl⟩
      rw [← hw2] at HZ hmk1
      clear hw2
      have k2 := HZ.up1.blk_at 2 rfl
      go_wp2_with fail
      go_loop [30] (fun i => i = .int .i64 0) (fun _ => 0)
      case atStart => rfl
      case round =>
        subst hrel
        by_cases h0 : 0 < ss.length
        · obtain ⟨ad, hA, hcell⟩ := (Rb.i2).elem HZ (j := 0) (by simpa using h0)
          injection hA with hA
          subst hA
          rw [add_at] at hcell
          have hj : (0 : Int) < ss.length := by omega
          go_wp2
          go_ret
          exact ⟨_, rfl, HZ.sel 3 [0, 1]⟩
        · have hj : ¬ (0 : Int) < ss.length := by omega
          go_wp2
          go_ret
          exact ⟨_, rfl, HZ.sel 3 [0, 1]⟩

set_option maxHeartbeats 2000000 in
set_option maxRecDepth 100000 in
theorem rnumbers_ok {g gs a n c : Nat} {A : Option Addr} {e : Int} {l : List Int} {ss : List Nat} (HS : Sep w0 w O (rdB g A n c a false e :: own 3 1 (some ⟨gs, 0, none⟩) ss.length ss.length (iv (ss.map Int.ofNat)) :: L)) (hr : Rb w0 O L 1 A n (by8 l)) (hb : Byt l) (hA : (A = none ∧ n = 0 ∧ c = 0) ∨ ∃ ad, A = some ad) (hc : n ≤ c) (h18 : ∀ s ∈ ss, 1 ≤ s ∧ s ≤ 8) (hK : ss.length ≤ 8) (hn : n ≤ 140737488355328) (h : a + tot ss ≤ n) :
    Calls Try.prog 31 #[.pointer (some ⟨g, 0, none⟩), .slice (some ⟨gs, 0, none⟩) ss.length ss.length] w fun e' w' => ∃ A', e' = .returned (.slice A' ss.length ss.length) ∧ Sep w0 w' O (own 22 1 A' ss.length ss.length (uv (cut (l.drop a) ss)) :: rdB g A n c ((a + tot ss : Nat) : Int) false e :: L) := by
  have hmk := mk_u64 ss.length (by omega)
  have hbd := tot_bd ss h18
  have hlen := hr.cons.cons.klen HS
  have H18 := hid h18
  clear h18
  obtain ⟨bl, hbl⟩ : ∃ bl, bl = (l.drop a).take (tot ss) := ⟨_, rfl⟩
  have hbb : Byt bl := by rw [hbl]; exact (hb.drop a).take _
  have hbn : bl.length = tot ss := by rw [hbl, List.length_take, List.length_drop]; omega
  have hcut : cut (l.drop a) ss = cut bl ss := by rw [hbl, cut_take ss _ _ (Nat.le_refl _)]
  rw [hcut]
  clear hcut
  have HBL := hid hbl
  have HBN := hid hbn
  clear hbl hbn
  go_enter Try.func31, Try.ntmps31
  go_wp2_with fail
  go_loop [5, 14] (fun s i => ∃ k : Nat, k ≤ ss.length ∧ i = .int .i64 k ∧ s = .int .i64 (tot (ss.take k) : Nat)) (fun _ i => ss.length - (intOf i).toNat)
  case atStart => exact ⟨0, Nat.zero_le _, rfl, rfl⟩
  case round =>
    obtain ⟨k, hk, rfl, rfl⟩ := hrel
    by_cases hlt : k < ss.length
    · obtain ⟨ad, hA, hcell⟩ := (Rb.i1).elem HS (j := k) (by simpa using hlt)
      injection hA with hA
      subst hA
      rw [add_at, List.getElem_map] at hcell
      have ht := tot_next ss k hlt
      have hs := H18.out _ (List.getElem_mem hlt)
      have hle := tot_le ss k
      generalize ss[k] = s at *
      have HT := hid ht
      clear ht
      generalize tot (ss.take k) = t at *
      have hw : IntKind.i64.wrap ((t : Int) + s) = t + s := by rw [IntKind.wrap_i64]; omega
      have hj : (k : Int) < ss.length := by omega
      have hcell' : w.cell? ⟨gs, k, none⟩ = some (.int .i64 (s : Nat)) := hcell
      clear hcell
      go_wp2
      go_round
      case rel => exact ⟨k + 1, by omega, by go_num, by rw [HT.out]; simp⟩
      case measure => simp [intOf]; omega
    · obtain rfl : ss.length = k := by omega
      rw [List.take_length]
      go_wp2_with fail
      refine (rtake_yes HS hr.cons hA hc hn h).mono ?_
      rintro e' w1 ⟨A1, c1, rfl, hc1, hr1, HS1⟩
      have HZ := HS1.lit (uv (List.replicate ss.length 0)).toArray 22 1 ss.length (by simp [kv]) (by simp only [maxLen]; omega)
      obtain ⟨gz, hgz⟩ : ∃ gz, gz = w1.heap.size := ⟨_, rfl⟩
      have hmk1 := hmk w1
      rw [← hgz] at HZ hmk1
      clear hgz hmk
      obtain ⟨w2, hw2⟩ : ∃ w2, w2 = w1.alloc (.cells (uv (List.replicate ss.length 0)).toArray 22) := ⟨_, rfl⟩
      rw [← hw2] at HZ hmk1
      clear hw2
      rw [← HBL.out] at hr1
      clear HBL hr hb hlen h hA
      have hbn := HBN.out
      have h63 : tot ss ≤ 64 := by omega
      clear hbd
      go_wp2_with fail
      go_loopw [8, 30] (fun b i wr => ∃ (k cb : Nat) (B : Option Addr), k ≤ ss.length ∧ i = .int .i64 k ∧ b = .slice B (tot ss - tot (ss.take k)) cb ∧ tot ss - tot (ss.take k) ≤ cb ∧
        Rb w0 O (own 3 1 (some ⟨gs, 0, none⟩) ss.length ss.length (iv (ss.map Int.ofNat)) :: L) 1 B (tot ss - tot (ss.take k)) (by8 (bl.drop (tot (ss.take k)))) ∧
        Sep w0 wr O (own 22 1 (some ⟨gz, 0, none⟩) ss.length ss.length (uv (cut bl (ss.take k) ++ List.replicate (ss.length - k) 0)) :: rdB g A n c ((a + tot ss : Nat) : Int) false e :: own 3 1 (some ⟨gs, 0, none⟩) ss.length ss.length (iv (ss.map Int.ofNat)) :: L)) (fun _ i _ => ss.length - (intOf i).toNat)
      case atStart => exact ⟨0, c1, A1, Nat.zero_le _, rfl, rfl, by simpa [tot] using hc1, by simpa [tot] using hr1, by simpa [cut] using HZ⟩
      case round =>
        obtain ⟨k, cb, B, hk, rfl, rfl, hcb, hrb, HS2⟩ := hrel
        clear HZ HS1 HS hr1 hmk1 hlt
        by_cases hlt : k < ss.length
        · obtain ⟨ad, hA, hcell⟩ := (Rb.i2).elem HS2 (j := k) (by simpa using hlt)
          injection hA with hA
          subst hA
          rw [add_at, List.getElem_map] at hcell
          have ht := tot_next ss k hlt
          have hs := H18.out _ (List.getElem_mem hlt)
          have hle := tot_le ss (k + 1)
          have hcn := cut_next bl ss k hlt
          generalize ss[k] = s at *
          rw [ht] at hle
          have HT := hid ht
          have HN := hid hcn
          clear ht hcn
          generalize tot (ss.take k) = t at *
          have hcl : (cut bl (ss.take k)).length = k := by rw [cut_len, List.length_take]; omega
          generalize cut bl (ss.take k) = cl at *
          have hj : (k : Int) < ss.length := by omega
          have j0 : (0 : Int) ≤ k := by omega
          have hcell' : wr.cell? ⟨gs, k, none⟩ = some (.int .i64 (s : Nat)) := hcell
          clear hcell
          obtain ⟨adb, y, rfl, _⟩ := hrb.cons.cons.elemn HS2 (j := 0) (by omega)
          have hq := hrb.ktail (j := s) (cap := cb) (by rw [List.length_drop]; omega) (by omega) hcb
          rw [List.drop_drop] at hq
          have HX := HS2.own_set k (.int .u64 (num ((bl.drop t).take s)))
          rw [kv_set] at HX
          have e9 : (cl ++ List.replicate (ss.length - k) (0 : Int)).set k (num ((bl.drop t).take s)) = (cl ++ [num ((bl.drop t).take s)]) ++ List.replicate (ss.length - (k + 1)) 0 := by
            rw [List.set_append_right _ _ (by omega), hcl, Nat.sub_self, show ss.length - k = (ss.length - (k + 1)) + 1 by omega, List.replicate_succ, List.set_cons_zero, List.append_assoc]
            rfl
          rw [e9] at HX
          clear e9
          have hf := HS2.own_frozen k
          have hcz0 := HS2.own_cell (j := k) hlt
          obtain ⟨z0, hcz⟩ : ∃ z0 : Int, wr.cell? ⟨gz, k, none⟩ = some (.int .u64 z0) := ⟨_, hcz0.trans (kv_get _ _ _ (by simp; omega))⟩
          clear hcz0
          have k2 := HS2.up1.blk_at 2 rfl
          have hsl : (s : Int) ≤ (tot ss - t : Nat) := by omega
          have hsc : (s : Int) ≤ cb := by omega
          have s0 : (0 : Int) ≤ s := by omega
          have hle2 : ((tot ss - t : Nat) : Int) ≤ cb := by omega
          have HQ := hid hq
          clear hq
          go_wp2_with fail
          refine (get_ok (s := s) HS2 hrb.cons.cons ((hbb.drop t)) hcb (by omega) (by omega) (by omega)).mono ?_
          rintro e' w3 ⟨rfl, rfl⟩
          go_wp2_with fail
          have e8 : tot ss - tot (ss.take (k + 1)) = tot ss - t - s := by rw [HT.out]; omega
          go_roundw
          case rel =>
            refine ⟨k + 1, cb - s, _, by omega, by go_num, by rw [e8], by rw [e8]; omega, ?_, ?_⟩
            · rw [e8, HT.out]; exact HQ.out
            · rw [HN.out]; exact HX
          case measure => simp [intOf]; omega
        · obtain rfl : ss.length = k := by omega
          rw [List.take_length, Nat.sub_self, List.replicate_zero, List.append_nil] at HS2
          have hj : ¬ (ss.length : Int) < ss.length := by omega
          go_wp2
          go_ret
          exact ⟨_, rfl, HS2.sel 3 [0, 1]⟩

theorem Sep.own_or {e : TypeId} {size : Nat} {A : Option Addr} {n c : Nat} {xs : List Value} (h : Sep w0 w O (own e size A n c xs :: L)) : (A = none ∧ n = 0 ∧ c = 0) ∨ ∃ ad, A = some ad := by
  obtain ⟨F, ⟨_, _, h⟩, _⟩ := h.get
  rcases h with h | ⟨g, cur, rfl, _⟩
  · exact .inl h
  · exact .inr ⟨_, rfl⟩

theorem rdone_no {g : Nat} {A : Option Addr} {n c : Nat} {at_ e : Int} (T : Option Addr) (HS : Sep w0 w O (rdB g A n c at_ true e :: L)) :
    Calls Try.prog 34 #[.pointer (some ⟨g, 0, none⟩), .pointer T] w fun e' w' => e' = .returned (.bool false) ∧ w = w' := by
  have k2 := HS.blk_at 2 rfl
  go_enter Try.func34, Try.ntmps34
  go_wp2
  go_ret
  exact ⟨rfl, rfl⟩

theorem rdone_yes {g gt a : Nat} {A : Option Addr} {n c : Nat} {e : Int} {l : List Int} (HS : Sep w0 w O (Go.Proofs.Ytankfmfenbhkgaa.tape gt l :: rdB g A n c a false e :: L)) (h : a ≤ l.length) (hl : l.length ≤ 140737488355328) :
    Calls Try.prog 34 #[.pointer (some ⟨g, 0, none⟩), .pointer (some ⟨gt, 0, none⟩)] w fun e' w' => e' = .returned (.bool true) ∧ Sep w0 w' O (Go.Proofs.Ytankfmfenbhkgaa.tape gt (l.drop a) :: rdB g A n c a false e :: L) := by
  have k1 := HS.up1.blk_at 1 rfl
  have k2 := HS.up1.blk_at 2 rfl
  go_enter Try.func34, Try.ntmps34
  go_wp2_with fail
  refine (take_yes (n := a) HS h hl).mono ?_
  rintro e' w1 ⟨A1, c1, rfl, HS1⟩
  go_wp2
  go_ret
  exact ⟨rfl, HS1.drop⟩
end
end Go.Proofs.Ytankfmfenbhkgaa
