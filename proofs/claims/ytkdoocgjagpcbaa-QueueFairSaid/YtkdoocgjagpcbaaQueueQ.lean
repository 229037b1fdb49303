/-
  A queue's Copy, List.
-/
import Derived.Test.YtkdoocgjagpcbaaQueueP
import Derived.Deep.WholeRow
import Derived.Deep.MidRow
namespace Go.Proofs.Ytkdoocgjagpcbaa
open Go.RowKit
set_option linter.unusedVariables false
set_option linter.unusedSimpArgs false
/-- the items of a row -/
def ics (h : Hd) : List Value := [.int .i64 h.flow, .int .i64 h.cost, .int .u64 h.id]
def iv (l : List Hd) : List Value := l.flatMap ics
theorem iv_len (l : List Hd) : (iv l).length = l.length * 3 := by
  induction l with
  | nil => rfl
  | cons x l ih => rw [show iv (x :: l) = ics x ++ iv l from rfl, List.length_append, ih, List.length_cons]; simp [ics]; omega
theorem iv_get (l : List Hd) : ∀ (i j : Nat), j < 3 → (iv l)[i * 3 + j]? = (l[i]?).bind fun x => (ics x)[j]? := by
  induction l with
  | nil => intro i j _; simp [iv]
  | cons x l ih =>
    intro i j hj
    rw [show iv (x :: l) = ics x ++ iv l from rfl]
    cases i with
    | zero =>
      rw [Nat.zero_mul, Nat.zero_add, List.getElem?_append_left (by simpa [ics] using hj)]
      simp
    | succ i =>
      rw [List.getElem?_append_right (by simp [ics]; omega), show (i + 1) * 3 + j - (ics x).length = i * 3 + j by simp [ics]; omega, ih i j hj]
      simp
theorem info_it : (Try.prog.info? 35).map (fun i => (i.zero, i.size, i.bytes)) = some (some (.agg #[.int .i64 0, .int .i64 0, .int .u64 0]), 3, 24) := by kernel_rfl
section
variable {w0 w : World} {O : Nat → Prop} {L : List Asr} {g b : Nat} {q : Qu}
theorem Sep.icell {e : TypeId} {g n c : Nat} {l : List Hd} (h : Sep w0 w O (own e 3 (some ⟨g, 0, none⟩) n c (iv l) :: L)) {i : Nat} (hi : i < l.length) (hn : l.length = n) (k : Nat) {v : Value} (hk : (ics (gat l i))[k]? = some v) : w.cell? ⟨g, i * 3 + k, none⟩ = some v := by
  have hk5 : k < 3 := by
    rcases Nat.lt_or_ge k 3 with h | h
    · exact h
    · rw [List.getElem?_eq_none (by simpa [ics] using h)] at hk; cases hk
  have := h.own_row.cellAt (i * 3 + k) (by omega)
  rw [this, iv_get _ _ _ hk5, gat_get hi]
  exact hk

theorem wp_store_new {P : Program} {op : Oper} {a : Act} {w : World} {K : Act → World → Prop} {Q : Exit → Act → World → Prop} (ty : TypeId) (x y : Operand) (ho : op.op = .store ty x y) (c c' : Array Value) (hx : a.eval x = .pointer (some ⟨w.heap.size, 0, none⟩)) (hy : a.eval y = .agg c')
    (hi : (P.info? ty).map (·.size) = some c'.size) (hs : c.size = c'.size) (h1 : c'.all (·.oneCell') = true) (h : K (a.put op.dst undef) (w.alloc (.cells c' ty))) : op.wp P a (w.alloc (.cells c ty)) K Q := by
  unfold Oper.wp execOp
  simp only [ho, hx, hy, Instr.storeAt, Instr.sureAddr, Sem.run_bind, Sem.run_pure, Result.andThen_ok, run_storeVar_new w ty c c' hi hs h1]
  exact h
theorem wpList_store_new {P : Program} {ops : Array Oper} {rest : List Oper} {op : Oper} {a : Act} {w : World} {Q : Exit → Act → World → Prop} (hgd : op.guard = none) (ty : TypeId) (x y : Operand) (ho : op.op = .store ty x y) (c c' : Array Value) (hx : a.eval x = .pointer (some ⟨w.heap.size, 0, none⟩)) (hy : a.eval y = .agg c')
    (hi : (P.info? ty).map (·.size) = some c'.size) (hs : c.size = c'.size) (h1 : c'.all (·.oneCell') = true) (h : wpList P ops Q rest (a.put op.dst undef) (w.alloc (.cells c' ty))) : wpList P ops Q (op :: rest) a (w.alloc (.cells c ty)) :=
  wpList_plain hgd fun _ hK => wp_store_new ty x y ho c c' hx hy hi hs h1 (hK _ _ h)
theorem info_queue : (Try.prog.info? 61).map (·.size) = some 20 := by kernel_rfl
theorem qc_one {t n : Int} {l o : List Int} {A : Option Addr} {m c : Nat} : (qc t n l o (.slice A m c)).all (·.oneCell') = true := by
  rw [Array.all_eq_true_iff_forall_mem]
  intro v hv
  simp only [qc, kv, List.mem_toArray, List.mem_cons, List.mem_append, List.mem_map, List.not_mem_nil, or_false] at hv
  rcases hv with rfl | rfl | rfl | ⟨_, _, rfl⟩ | ⟨_, _, rfl⟩ | rfl <;> rfl
theorem Sep.blk_range {g : Nat} {t : TypeId} {cs : Array Value} (h : Sep w0 w O (blk g t cs :: L)) : w.rangeAt g 0 cs.toList := fun j v hv => by
  rw [Nat.zero_add, h.blk_cell j]
  simpa using hv

set_option maxHeartbeats 2000000 in
set_option maxRecDepth 10000 in
theorem qcopy_calls (HS : Sep w0 w O (quA g b q :: L)) : Calls Try.prog 23 #[.pointer (some ⟨g, 0, none⟩)] w fun e w' => ∃ g', e = .returned (.pointer (some ⟨g', 0, none⟩)) ∧ Sep w0 w' O (quA g' b q :: quA g b q :: L) := by
  have hN := none_qu HS
  obtain ⟨hok, xs, A, cc, h2, h3, h4, H⟩ := HS.unqu
  have HF := hid (fun (g : Nat) (A : Option Addr) (cc : Nat) (W : World) (X : List Asr) (h : Sep w0 W O (own 65 5 A xs.length cc (hv xs) :: blk g 61 (qc q.time q.n q.last (ofL q.S) (.slice A xs.length cc)) :: X)) => Sep.qued (b := b) (A := A) (c := cc) (o := ofL q.S) hok h2 h3 rfl rfl h)
  have hll := hok.len
  have HLL := hid hll
  obtain ⟨QC, hQC⟩ : ∃ QC, QC = qc q.time q.n q.last (ofL q.S) (.slice A xs.length cc) := ⟨_, rfl⟩
  have hsz : QC.size = 20 := by rw [hQC]; exact qc_size hll (ofL_len _)
  have hi1 : (Try.prog.info? 61).map (·.size) = some QC.toList.length := by rw [info_queue, Array.length_toList, hsz]
  have hi2 : (Try.prog.info? 61).map (·.size) = some QC.size := by rw [info_queue, hsz]
  have hon : QC.all (·.oneCell') = true := by rw [hQC]; exact qc_one
  have h19 : QC[19]? = some (.slice A xs.length cc) := by rw [hQC]; exact qc_v hll (ofL_len _)
  have HQC := hid hQC
  rw [← hQC] at H
  have hrg := H.up1.blk_range
  have HI1 := hid hi1
  have HI2 := hid hi2
  have HSZ := hid hsz
  have HON := hid hon
  have H19 := hid h19
  clear hQC h2 h3 hok HS hll hi1 hi2 hsz hon h19
  go_enter Try.func23, Try.ntmps23
  go_wp2_with fail
  refine hN.mono ?_
  rintro e w' ⟨rfl, hw'⟩
  obtain rfl := hw'.symm
  have H2 := H.alloc QC 61
  have K2 : Sep w0 (w.alloc (.cells QC 61)) O (own 65 5 A xs.length cc (hv xs) :: blk w.heap.size 61 QC :: blk g 61 QC :: L) := H2.sel 3 [1, 0, 2]
  obtain ⟨gx, hgx⟩ : ∃ gx, gx = w.heap.size := ⟨_, rfl⟩
  obtain ⟨w1, hw1⟩ : ∃ w1, w1 = w.alloc (.cells QC 61) := ⟨_, rfl⟩
  rw [← hgx, ← hw1] at K2
  have HGX := hid hgx
  have HW1 := hid hw1
  clear hgx hw1 H2
  go_upto_region 4 with (first
    | (refine wpList_load_mid rfl 61 (.tmp 7) rfl g 0 rfl QC.toList _ hrg Try.underlying61 rfl HI1.out ?_; rw [Array.toArray_toList])
    | (refine wpList_store_new rfl 61 (.tmp 3) (.tmp 8) rfl _ QC rfl rfl HI2.out (by rw [HSZ.out]; rfl) HON.out ?_))
  rw [← HGX.out, ← HW1.out]
  have y19 := K2.up2.blkAt 19 H19.out
  go_wp2_with fail
  refine (hclone_calls K2 Rb.i0 (by omega)).mono ?_
  rintro e w2 ⟨A2, c2, rfl, H3⟩
  have H4 := H3.up2
  have x19 := H4.blkAt 19 H19.out
  have z19 := H4.blk_frozen 19
  have H5 := H4.blk_set 19 (.slice A2 xs.length c2)
  go_wp2
  go_ret
  refine ⟨gx, rfl, ?_⟩
  rw [HQC.out, qc_sv HLL.out (ofL_len _)] at H5
  exact HF.out _ _ _ _ _ ((HF.out _ _ _ _ _ (H5.sel 4 [2, 3, 1, 0])).sel 3 [1, 2, 0])

set_option maxHeartbeats 2000000 in
theorem qlist_calls (HS : Sep w0 w O (quA g b q :: L)) : Calls Try.prog 17 #[.pointer (some ⟨g, 0, none⟩)] w fun e w' => ∃ A c, e = .returned (.slice A q.S.length c) ∧ Sep w0 w' O (own 35 3 A q.S.length c (iv q.S) :: quA g b q :: L) := by
  obtain ⟨i0, hi0, hz0, hz1, hz2⟩ := info_parts info_it
  obtain ⟨hok, -⟩ := HS.unqu
  have hsm := hok.small
  clear hok
  obtain ⟨N, hN⟩ : ∃ N, N = q.S.length := ⟨_, rfl⟩
  have HN := hid hN
  have hA := qall_calls HS
  rw [← hN] at hA hsm ⊢
  clear hN
  go_enter Try.func17, Try.ntmps17
  go_wp2_with fail
  refine hA.mono ?_
  rintro e w1 ⟨A, c, rfl, H0⟩
  have H1 := H0.nil 35 3
  clear H0 hA
  go_wp2
  go_loopw [3, 9] (fun v i wr => ∃ (k ck : Nat) (Q : Option Addr), k ≤ N ∧ v = .slice Q k ck ∧ i = .int .i64 k ∧ Sep w0 wr O (own 35 3 Q k ck (iv (q.S.take k)) :: own 65 5 A N c (hv q.S) :: quA g b q :: L)) (fun _ i _ => N - (intOf i).toNat)
  case atStart => exact ⟨0, 0, none, Nat.zero_le _, rfl, rfl, by rw [List.take_zero]; exact H1⟩
  case round =>
    obtain ⟨k, ck, Q, hk, rfl, rfl, H2⟩ := hrel
    clear H1
    by_cases hlt : k < N
    · have hk1 : (k : Int) < N := by omega
      have hkx : k < q.S.length := by have := HN.out; omega
      obtain ⟨a, rfl⟩ := H2.up1.own_some (by omega)
      obtain ⟨x, hx⟩ : ∃ x, x = gat q.S k := ⟨_, rfl⟩
      have c0 : wr.cell? ⟨a, k * 5, none⟩ = some (.int .i64 x.flow) := H2.up1.hcell hkx HN.out.symm 0 (by rw [← hx]; rfl)
      have c1 : wr.cell? ⟨a, k * 5 + 1, none⟩ = some (.int .i64 x.cost) := H2.up1.hcell hkx HN.out.symm 1 (by rw [← hx]; rfl)
      have c2 : wr.cell? ⟨a, k * 5 + 2, none⟩ = some (.int .u64 x.id) := H2.up1.hcell hkx HN.out.symm 2 (by rw [← hx]; rfl)
      have c3 : wr.cell? ⟨a, k * 5 + 3, none⟩ = some (.int .i64 x.tag) := H2.up1.hcell hkx HN.out.symm 3 (by rw [← hx]; rfl)
      have c4 : wr.cell? ⟨a, k * 5 + 4, none⟩ = some (.int .i64 x.n) := H2.up1.hcell hkx HN.out.symm 4 (by rw [← hx]; rfl)
      have hap : iv (q.S.take k) ++ (#[.int .i64 x.flow, .int .i64 x.cost, .int .u64 x.id] : Array Value).toList = iv (q.S.take (k + 1)) := by
        rw [List.take_add_one, gat_get hkx, ← hx]; simp [iv, ics]
      have h1c : ∀ u ∈ (#[.int .i64 x.flow, .int .i64 x.cost, .int .u64 x.id] : Array Value).toList, u.oneCell' = true := by
        intro u hu
        simp at hu
        rcases hu with rfl | rfl | rfl <;> rfl
      have HAP := hid hap
      have H1C := hid h1c
      have hb1 : k + 1 ≤ maxLen := by simp only [maxLen]; omega
      have hb2 : (k + 1) * 24 ≤ 140737488355328 := by omega
      have H3 := ((H2.alloc #[.int .i64 x.flow, .int .i64 x.cost, .int .u64 x.id, .int .i64 x.tag, .int .i64 x.n] 65).litB #[.int .i64 x.flow, .int .i64 x.cost, .int .u64 x.id] 35 3 1 rfl (by decide) (B := wr.heap.size + 1) (by simp)).up2
      clear hx hkx hap h1c
      go_wp2_with (at_builtin; go_loud (refine wpList_append_sep rfl (.tmp 13) (.tmp 16) 44 rfl 35 i0 _ 3 24 Try.underlying44 hi0 hz0 hz1 hz2 rfl (by decide) rfl H3 rfl H3.rd1 H1C.out hb1 hb2 rfl HAP.out ?_); intro Q' cq' w6 HS7 hsz7)
      go_roundw
      case rel => exact ⟨k + 1, cq', Q', by omega, rfl, by go_num, HS7.sel 5 [0, 3, 4]⟩
      case measure => simp [intOf]; omega
    · obtain rfl : k = N := by omega
      have hk1 : ¬ (k : Int) < k := by omega
      go_wp2
      go_ret
      rw [List.take_of_length_le (by have := HN.out; omega)] at H2
      exact ⟨Q, ck, rfl, H2.up1.drop⟩
end
end Go.Proofs.Ytkdoocgjagpcbaa
