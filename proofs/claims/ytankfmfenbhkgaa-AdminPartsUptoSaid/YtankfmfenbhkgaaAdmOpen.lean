/-
  Contract of admin.open.
-/
import Derived.Test.YtankfmfenbhkgaaAdmNum
namespace Go.Proofs.Ytankfmfenbhkgaa
open Go.RowKit
set_option linter.unusedVariables false
set_option linter.unusedSimpArgs false
section
variable {w0 w : World} {O : Nat → Prop} {L : List Asr}

set_option maxHeartbeats 1000000 in
theorem ropen_calls {gt : Nat} {l : List Int} {m : Int} {a : Nat} {stop : Bool} {E : Int} (HS : Sep w0 w O (Go.Proofs.Ytankfmfenbhkgaa.tape gt l :: L)) (hb : Byt l) (hl : l.length ≤ 140737488355328)
    (h : (l.length < 4 ∧ a = 0 ∧ stop = true ∧ E = 0) ∨ (4 ≤ l.length ∧ num (l.take 4) ≠ m ∧ a = 4 ∧ stop = true ∧ E = 33) ∨ (4 ≤ l.length ∧ num (l.take 4) = m ∧ a = 4 ∧ stop = false ∧ E = 0)) :
    Calls Try.prog 30 #[.pointer (some ⟨gt, 0, none⟩), .int .u64 m] w fun e' w' => ∃ g A c, e' = .returned (.pointer (some ⟨g, 0, none⟩)) ∧ Sep w0 w' O (rdB g A l.length c a stop E :: own 5 1 A l.length c (by8 l) :: Go.Proofs.Ytankfmfenbhkgaa.tape gt l :: L) := by
  have hpk := @peek_yes w0 w O L gt l l.length HS (Nat.le_refl _) hl
  rw [List.take_length] at hpk
  have HL := hid hl
  obtain ⟨n, hn⟩ : ∃ n, n = l.length := ⟨_, rfl⟩
  rw [← hn] at hpk hl h ⊢
  have HN := hid hn
  have hlen := len_calls HS
  rw [← hn] at hlen
  clear hn
  go_enter Try.func30, Try.ntmps30
  go_wp2_with fail
  refine hlen.mono ?_
  rintro e' w1 ⟨rfl, rfl⟩
  go_wp2_with fail
  refine hpk.mono ?_
  rintro e' w2 ⟨A, c, rfl, HS2⟩
  have hor := HS2.own_or
  have hle := own_le HS2
  have HS3 := HS2.alloc (rdC A n c 0 false 0) 79
  have HS4 := (HS3.litB #[.int .i64 4] 3 1 1 rfl (by decide) (B := w2.heap.size + 1) (by simp)).up1
  go_wp2_with fail
  rcases h with ⟨h4, rfl, rfl, rfl⟩ | ⟨h4, hm, rfl, rfl, rfl⟩ | ⟨h4, hm, rfl, rfl, rfl⟩
  · refine (rnumbers_no (ss := [4]) (E := 0) (by rfl) HS4 (by decide) (by decide) hl (Nat.zero_le _) (.inr (by simpa [tot] using h4))).mono ?_
    rintro e' w3 ⟨A3, rfl, HS5⟩
    have k2 := HS5.up1.blk_at 2 rfl
    go_wp2
    go_ret
    exact ⟨_, A, c, rfl, HS5.drop⟩
  · refine (rnumbers_ok (ss := [4]) HS4 Rb.i0 hb hor hle (by decide) (by decide) hl (by simpa [tot] using h4)).mono ?_
    rintro e' w3 ⟨A3, rfl, HS5⟩
    have k2 := HS5.up1.blk_at 2 rfl
    obtain ⟨ad, rfl, hc0⟩ := Rb.i0.elem HS5 (j := 0) (by simp [cut])
    have hm' : (num (l.take 4) != m) = true := bne_iff_ne.2 hm
    replace hc0 : w3.cell? (ad.add 0) = some (.int .u64 (num (l.take 4))) := hc0
    have e0 : ad.add 0 = ad := by simp [Addr.add]
    rw [e0] at hc0
    go_wp2_with fail
    refine (rfail_calls HS5.up1).mono ?_
    rintro e' w4 ⟨rfl, HS6⟩
    go_wp2
    go_ret
    exact ⟨_, A, c, rfl, HS6.up1.drop⟩
  · refine (rnumbers_ok (ss := [4]) HS4 Rb.i0 hb hor hle (by decide) (by decide) hl (by simpa [tot] using h4)).mono ?_
    rintro e' w3 ⟨A3, rfl, HS5⟩
    have k2 := HS5.up1.blk_at 2 rfl
    obtain ⟨ad, rfl, hc0⟩ := Rb.i0.elem HS5 (j := 0) (by simp [cut])
    have hm' : (num (l.take 4) != m) = false := by simp [hm]
    replace hc0 : w3.cell? (ad.add 0) = some (.int .u64 (num (l.take 4))) := hc0
    have e0 : ad.add 0 = ad := by simp [Addr.add]
    rw [e0] at hc0
    go_wp2
    go_ret
    exact ⟨_, A, c, rfl, HS5.drop⟩
end
end Go.Proofs.Ytankfmfenbhkgaa
