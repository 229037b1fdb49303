/-
  A queue: what it holds; none, Len, Time, Of, all.
-/
import Derived.Test.YtkdoocgjagpcbaaQueueJ
namespace Go.Proofs.Ytkdoocgjagpcbaa
open Go.RowKit
set_option linter.unusedVariables false
set_option linter.unusedSimpArgs false
/-- the cells of a queue -/
def qc (t n : Int) (l o : List Int) (v : Value) : Array Value := (.bool true :: .int .i64 t :: .int .i64 n :: (kv .i64 l ++ (kv .i64 o ++ [v]))).toArray
theorem list8 {l : List Int} (h : l.length = 8) : ∃ a b c d e f g k, l = [a, b, c, d, e, f, g, k] := by
  match l, h with
  | [a, b, c, d, e, f, g, k], _ => exact ⟨a, b, c, d, e, f, g, k, rfl⟩
section
variable {t n : Int} {l o : List Int} {v : Value}
theorem qc_size (hl : l.length = 8) (ho : o.length = 8) : (qc t n l o v).size = 20 := by simp [qc, kv, hl, ho]
theorem qc_l (hl : l.length = 8) {f : Nat} (hf : f < 8) : (qc t n l o v)[3 + f]? = some (.int .i64 (gat l f)) := by
  obtain ⟨a0, a1, a2, a3, a4, a5, a6, a7, rfl⟩ := list8 hl
  rcases (show f = 0 ∨ f = 1 ∨ f = 2 ∨ f = 3 ∨ f = 4 ∨ f = 5 ∨ f = 6 ∨ f = 7 by omega) with rfl | rfl | rfl | rfl | rfl | rfl | rfl | rfl <;> rfl
theorem qc_o (hl : l.length = 8) (ho : o.length = 8) {f : Nat} (hf : f < 8) : (qc t n l o v)[11 + f]? = some (.int .i64 (gat o f)) := by
  obtain ⟨a0, a1, a2, a3, a4, a5, a6, a7, rfl⟩ := list8 hl
  obtain ⟨b0, b1, b2, b3, b4, b5, b6, b7, rfl⟩ := list8 ho
  rcases (show f = 0 ∨ f = 1 ∨ f = 2 ∨ f = 3 ∨ f = 4 ∨ f = 5 ∨ f = 6 ∨ f = 7 by omega) with rfl | rfl | rfl | rfl | rfl | rfl | rfl | rfl <;> rfl
theorem qc_v (hl : l.length = 8) (ho : o.length = 8) : (qc t n l o v)[19]? = some v := by
  obtain ⟨a0, a1, a2, a3, a4, a5, a6, a7, rfl⟩ := list8 hl
  obtain ⟨b0, b1, b2, b3, b4, b5, b6, b7, rfl⟩ := list8 ho
  rfl
theorem qc_sv (hl : l.length = 8) (ho : o.length = 8) (u : Value) : (qc t n l o v).setIfInBounds 19 u = qc t n l o u := by
  obtain ⟨a0, a1, a2, a3, a4, a5, a6, a7, rfl⟩ := list8 hl
  obtain ⟨b0, b1, b2, b3, b4, b5, b6, b7, rfl⟩ := list8 ho
  rfl
theorem qc_st (x : Int) : (qc t n l o v).setIfInBounds 1 (.int .i64 x) = qc x n l o v := by simp [qc]
theorem qc_sn (x : Int) : (qc t n l o v).setIfInBounds 2 (.int .i64 x) = qc t x l o v := by simp [qc]
theorem qc_sl (hl : l.length = 8) {f : Nat} (hf : f < 8) (x : Int) : (qc t n l o v).setIfInBounds (3 + f) (.int .i64 x) = qc t n (l.set f x) o v := by
  obtain ⟨a0, a1, a2, a3, a4, a5, a6, a7, rfl⟩ := list8 hl
  rcases (show f = 0 ∨ f = 1 ∨ f = 2 ∨ f = 3 ∨ f = 4 ∨ f = 5 ∨ f = 6 ∨ f = 7 by omega) with rfl | rfl | rfl | rfl | rfl | rfl | rfl | rfl <;> rfl
theorem qc_so (hl : l.length = 8) (ho : o.length = 8) {f : Nat} (hf : f < 8) (x : Int) : (qc t n l o v).setIfInBounds (11 + f) (.int .i64 x) = qc t n l (o.set f x) v := by
  obtain ⟨a0, a1, a2, a3, a4, a5, a6, a7, rfl⟩ := list8 hl
  obtain ⟨b0, b1, b2, b3, b4, b5, b6, b7, rfl⟩ := list8 ho
  rcases (show f = 0 ∨ f = 1 ∨ f = 2 ∨ f = 3 ∨ f = 4 ∨ f = 5 ∨ f = 6 ∨ f = 7 by omega) with rfl | rfl | rfl | rfl | rfl | rfl | rfl | rfl <;> rfl
end
/-- how many of each flow -/
def ofL (S : List Hd) : List Int := [cntF S 0, cntF S 1, cntF S 2, cntF S 3, cntF S 4, cntF S 5, cntF S 6, cntF S 7]
theorem ofL_len (S : List Hd) : (ofL S).length = 8 := rfl
theorem ofL_get (S : List Hd) {f : Nat} (hf : f < 8) : gat (ofL S) f = cntF S f := by
  rcases (show f = 0 ∨ f = 1 ∨ f = 2 ∨ f = 3 ∨ f = 4 ∨ f = 5 ∨ f = 6 ∨ f = 7 by omega) with rfl | rfl | rfl | rfl | rfl | rfl | rfl | rfl <;> rfl
/-- a queue that was made, behind at most b adds -/
def quA (g b : Nat) (q : Qu) : Asr := ex fun xs : List Hd => with_ (QuOk b q ∧ Heap ltH xs xs.length ∧ xs.Perm q.S) (heapB g 19 61 (qc q.time q.n q.last (ofL q.S) (.slice none 0 0)) xs)
section
variable {w0 w : World} {O : Nat → Prop} {L : List Asr} {g b : Nat} {q : Qu}
theorem Sep.unqu (h : Sep w0 w O (quA g b q :: L)) : QuOk b q ∧ ∃ xs A c, Heap ltH xs xs.length ∧ xs.Perm q.S ∧ xs.length ≤ 128 ∧ Sep w0 w O (own 65 5 A xs.length c (hv xs) :: blk g 61 (qc q.time q.n q.last (ofL q.S) (.slice A xs.length c)) :: L) := by
  obtain ⟨xs, h⟩ := h.unex
  obtain ⟨⟨h1, h2, h3⟩, h⟩ := h.unwith
  obtain ⟨A, c, h⟩ := h.unheapB
  rw [qc_sv h1.len (ofL_len _)] at h
  exact ⟨h1, xs, A, c, h2, h3, by rw [h3.length_eq]; exact h1.small, h⟩
theorem Sep.qued {xs : List Hd} {A : Option Addr} {c n : Nat} {o : List Int} (h1 : QuOk b q) (h2 : Heap ltH xs xs.length) (h3 : xs.Perm q.S) (hn : n = xs.length) (ho : o = ofL q.S)
    (h : Sep w0 w O (own 65 5 A n c (hv xs) :: blk g 61 (qc q.time q.n q.last o (.slice A n c)) :: L)) : Sep w0 w O (quA g b q :: L) := by
  subst hn; subst ho
  rw [← qc_sv (v := .slice none 0 0) h1.len (ofL_len q.S)] at h
  exact Sep.ex xs (Sep.with_ ⟨h1, h2, h3⟩ h.heapedB)
theorem none_nil : Calls Try.prog 25 #[.pointer none] w fun e w' => e = .returned (.bool true) ∧ w' = w := by
  go_enter Try.func25, Try.ntmps25
  go_wp2
  go_ret
  exact ⟨rfl, rfl⟩
theorem none_is {cs : Array Value} {m : Bool} (HS : Sep w0 w O (blk g 61 cs :: L)) (h0 : cs[0]? = some (.bool m)) : Calls Try.prog 25 #[.pointer (some ⟨g, 0, none⟩)] w fun e w' => e = .returned (.bool (!m)) ∧ w' = w := by
  have b0 := HS.blkAt 0 h0
  go_enter Try.func25, Try.ntmps25
  go_wp2
  go_ret
  exact ⟨rfl, rfl⟩
theorem none_qu (HS : Sep w0 w O (quA g b q :: L)) : Calls Try.prog 25 #[.pointer (some ⟨g, 0, none⟩)] w fun e w' => e = .returned (.bool false) ∧ w' = w := by
  obtain ⟨-, xs, A, c, -, -, -, H⟩ := HS.unqu
  exact none_is (m := true) H.up1 rfl
theorem qlen_calls (HS : Sep w0 w O (quA g b q :: L)) : Calls Try.prog 12 #[.pointer (some ⟨g, 0, none⟩)] w fun e w' => e = .returned (.int .i64 q.S.length) ∧ w' = w := by
  have hN := none_qu HS
  obtain ⟨hok, xs, A, c, h2, h3, h4, H⟩ := HS.unqu
  have b5 := H.up1.blkAt 19 (qc_v hok.len (ofL_len _))
  rw [h3.length_eq] at b5
  clear h2 h3 h4 hok HS H
  go_enter Try.func12, Try.ntmps12
  go_wp2_with fail
  refine hN.mono ?_
  rintro e w' ⟨rfl, rfl⟩
  go_wp2
  go_ret
  exact ⟨rfl, rfl⟩
theorem qtime_calls (HS : Sep w0 w O (quA g b q :: L)) : Calls Try.prog 14 #[.pointer (some ⟨g, 0, none⟩)] w fun e w' => e = .returned (.int .i64 q.time) ∧ w' = w := by
  have hN := none_qu HS
  obtain ⟨hok, xs, A, c, h2, h3, h4, H⟩ := HS.unqu
  have b1 := H.up1.blkAt (v := .int .i64 q.time) 1 rfl
  clear h2 h3 h4 hok HS H
  go_enter Try.func14, Try.ntmps14
  go_wp2_with fail
  refine hN.mono ?_
  rintro e w' ⟨rfl, rfl⟩
  go_wp2
  go_ret
  exact ⟨rfl, rfl⟩
theorem qof_calls {f : Int} (HS : Sep w0 w O (quA g b q :: L)) : Calls Try.prog 10 #[.pointer (some ⟨g, 0, none⟩), .int .i64 f] w fun e w' => e = .returned (.int .i64 (ofQ q f)) ∧ w' = w := by
  have hN := none_qu HS
  obtain ⟨hok, xs, A, c, h2, h3, h4, H⟩ := HS.unqu
  by_cases h0 : f < 0
  · have e1 : ofQ q f = 0 := by unfold ofQ; rw [if_pos (.inl h0)]
    rw [e1]
    clear e1 h2 h3 h4 hok HS H
    go_enter Try.func10, Try.ntmps10
    go_wp2_with fail
    refine hN.mono ?_
    rintro e w' ⟨rfl, rfl⟩
    go_wp2
    go_ret
    exact ⟨rfl, rfl⟩
  · by_cases h1 : 8 ≤ f
    · have e1 : ofQ q f = 0 := by unfold ofQ; rw [if_pos (.inr h1)]
      rw [e1]
      clear e1 h2 h3 h4 hok HS H
      go_enter Try.func10, Try.ntmps10
      go_wp2_with fail
      refine hN.mono ?_
      rintro e w' ⟨rfl, rfl⟩
      go_wp2
      go_ret
      exact ⟨rfl, rfl⟩
    · obtain ⟨k, rfl⟩ := Int.eq_ofNat_of_zero_le (show 0 ≤ f by omega)
      have hk : k < 8 := by omega
      have hk1 : (k : Int) < 8 := by omega
      have e1 : ofQ q k = cntF q.S k := by unfold ofQ; rw [if_neg (by omega)]
      have bk := H.up1.blkAt (11 + k) (qc_o hok.len (ofL_len _) hk)
      rw [ofL_get _ hk] at bk
      rw [e1]
      generalize cntF q.S k = m at *
      clear e1 h2 h3 h4 hok HS H
      go_enter Try.func10, Try.ntmps10
      go_wp2_with fail
      refine hN.mono ?_
      rintro e w' ⟨rfl, rfl⟩
      go_wp2
      go_ret
      exact ⟨rfl, rfl⟩

set_option maxHeartbeats 1000000 in
theorem qall_calls (HS : Sep w0 w O (quA g b q :: L)) : Calls Try.prog 27 #[.pointer (some ⟨g, 0, none⟩)] w fun e w' => ∃ A c, e = .returned (.slice A q.S.length c) ∧ Sep w0 w' O (own 65 5 A q.S.length c (hv q.S) :: quA g b q :: L) := by
  have hN := none_qu HS
  obtain ⟨hok, xs, A, c, h2, h3, h4, H⟩ := HS.unqu
  have b5 := H.up1.blkAt 19 (qc_v hok.len (ofL_len _))
  have hpe := pops_eq xs.length xs q.S rfl h2 h3 hok.srt
  have HF := hid (fun (W : World) (X : List Asr) (h : Sep w0 W O (own 65 5 A xs.length c (hv xs) :: blk g 61 (qc q.time q.n q.last (ofL q.S) (.slice A xs.length c)) :: X)) => Sep.qued (A := A) (c := c) (o := ofL q.S) hok h2 h3 rfl rfl h)
  have HL := hid h3.length_eq
  have HPE := hid hpe
  clear h2 h3 hok HS hpe
  go_enter Try.func27, Try.ntmps27
  go_wp2_with fail
  refine hN.mono ?_
  rintro e w' ⟨rfl, rfl⟩
  go_wp2_with fail
  refine (hclone_calls H Rb.i0 (by omega)).mono ?_
  rintro e w2 ⟨A2, c2, rfl, H2⟩
  have H3 := H2.alloc #[.slice A2 xs.length c2] 59
  have H4 : Sep w0 (w2.alloc (.cells #[.slice A2 xs.length c2] 59)) O (heapB w2.heap.size 0 59 #[.slice none 0 0] xs :: own 65 5 A xs.length c (hv xs) :: blk g 61 (qc q.time q.n q.last (ofL q.S) (.slice A xs.length c)) :: L) := Sep.heapedB (H3.sel 4 [1, 0, 2, 3])
  have hso := sorted_calls (by decide) H4 (by omega)
  rw [HPE.out] at hso
  have HSO := hid hso
  clear hso H3 H4
  go_wp2_with fail
  refine HSO.out.mono ?_
  rintro e w3 ⟨A3, c3, rfl, H5⟩
  go_wp2
  go_ret
  have H6 := (HF.out _ _ (H5.sel 4 [2, 3, 0])).up1
  rw [HL.out] at H6 ⊢
  exact ⟨A3, c3, rfl, H6⟩
end
end Go.Proofs.Ytkdoocgjagpcbaa
