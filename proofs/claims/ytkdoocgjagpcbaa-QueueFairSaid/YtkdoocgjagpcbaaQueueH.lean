/-
  A queue's heap: the methods Swap, Push and Pop of row.
-/
import Derived.Test.YtkdoocgjagpcbaaQueueM
import Derived.Deep.MidRow
import Derived.Test.YtkdoocgjagpcbaaLate
namespace Go.Proofs.Ytkdoocgjagpcbaa
open Go.RowKit
set_option linter.unusedVariables false
set_option linter.unusedSimpArgs false
theorem info_held : (Try.prog.info? 65).map (fun i => (i.zero, i.size, i.bytes)) = some (some (.agg #[.int .i64 0, .int .i64 0, .int .u64 0, .int .i64 0, .int .i64 0]), 5, 40) := by kernel_rfl
def hval (h : Hd) : Value := .agg #[.int .i64 h.flow, .int .i64 h.cost, .int .u64 h.id, .int .i64 h.tag, .int .i64 h.n]
theorem ta_held (w : World) (x : Hd) : (Instr.typeAssert (.iface 65 (hval x)) 20 65 false).run Try.prog w = .ok (hval x) w := by kernel_rfl
theorem hv_set (l : List Hd) (x : Hd) : ∀ i, (((((hv l).set (i * 5) (.int .i64 x.flow)).set (i * 5 + 1) (.int .i64 x.cost)).set (i * 5 + 2) (.int .u64 x.id)).set (i * 5 + 3) (.int .i64 x.tag)).set (i * 5 + 4) (.int .i64 x.n) = hv (l.set i x) := by
  induction l with
  | nil => intro i; simp [hv]
  | cons y l ih =>
    intro i
    cases i with
    | zero => simp [hv, hcs, List.set]
    | succ i =>
      have h := ih i
      have e : ∀ k, (i + 1) * 5 + k = (i * 5 + k) + 5 := fun k => by omega
      have e0 : (i + 1) * 5 = i * 5 + 5 := by omega
      rw [List.set_cons_succ, hv_cons, hv_cons, ← h]
      simp [hcs, e, e0]
section
variable {w0 w : World} {O : Nat → Prop} {L : List Asr}
theorem Sep.hset {e : TypeId} {g n c : Nat} {l : List Hd} (h : Sep w0 w O (own e 5 (some ⟨g, 0, none⟩) n c (hv l) :: L)) {j : Nat} (hj : j < l.length) (hn : l.length = n) (q k : Nat) {v : Value} (hk : (hcs (gat l j))[k]? = some v) : (w.setCell ⟨g, q, none⟩ v).cell? ⟨g, j * 5 + k, none⟩ = some v := by
  have hk5 : k < 5 := by
    rcases Nat.lt_or_ge k 5 with h | h
    · exact h
    · rw [List.getElem?_eq_none (by simpa [hcs] using h)] at hk; cases hk
  have hlen := hv_len l
  rw [(h.own_set q v).own_row.cellAt (j * 5 + k) (by omega), List.getElem?_set]
  split
  · rw [if_pos (by omega)]
  · rw [hv_get _ _ _ hk5, gat_get hj]; exact hk
theorem Sep.hrange {e : TypeId} {g n c : Nat} {l : List Hd} (h : Sep w0 w O (own e 5 (some ⟨g, 0, none⟩) n c (hv l) :: L)) {i : Nat} (hi : i < l.length) (hn : l.length = n) : w.rangeAt g (i * 5) (hcs (gat l i)) := fun k v hk => h.hcell hi hn k hk
theorem Sep.hthere {e : TypeId} {g n c : Nat} {l : List Hd} (h : Sep w0 w O (own e 5 (some ⟨g, 0, none⟩) n c (hv l) :: L)) {i : Nat} (hi : i < l.length) (hn : l.length = n) : w.there g (i * 5) 5 := fun k hk => by
  refine ⟨?_, h.own_frozen _⟩
  have hkl : k < (hcs (gat l i)).length := by simpa [hcs] using hk
  rw [h.hcell hi hn k (List.getElem?_eq_getElem hkl)]
  rfl
theorem wpAny_takeD {P : Program} {ops : Array Oper} {Q : Exit → Act → World → Prop} {md : Region.Mode} {i fuel fuel1 : Nat} {oi : Oper} {d : Option Tmp} {v : Value} {listed listed' : Array Bool} {a : Act} {w : World} (hi : ops[i]? = some oi) (hd : oi.dst = d) (hf : fuel1 = fuel + 1) (hl : listed.setIfInBounds i true = listed')
    (hs : Region.noSelect ops = true) (hfr : Region.free md ops listed i = true) (hr : (Region.ready md ops listed).contains i = true)
    (hQ : ∀ c a w, Q (.panic c) (a.put d v) w → Q (.panic c) a w) (hy : Yields P ops oi v a)
    (h : wpAny P md ops Q fuel listed' (a.put d v) w) : wpAny P md ops Q fuel1 listed a w := by
  subst hd; subst hf; subst hl
  exact wpAny_take hi hs hfr hr hQ hy h
/-- only number j may come up, and m has come up -/
theorem wpAnyG_last {P : Program} {ops : Array Oper} {Q : Exit → Act → World → Prop} {md : Region.Mode} {m : Nat} {S : World → Prop} {j fuel fuel1 : Nat} {oj : Oper} {rest : List Oper} {listed listed' : Array Bool} {a : Act} {w : World} (hj : ops.toList.drop j = oj :: rest) (hf : fuel1 = fuel + 1) (hl : listed.setIfInBounds j true = listed') (hr : Region.ready md ops listed = [j]) (hm : listed.getD m false = true)
    (h : ∀ K' : Act → World → Prop, Shut (∀ a w, wpAnyG P md ops Q m S fuel listed' a w → K' a w) → if Region.wanted oj (yielded ops a.tmps) = true then Oper.wp P oj a w K' Q else K' (a.put oj.dst undef) w) : wpAnyG P md ops Q m S fuel1 listed a w := by
  subst hf; subst hl
  refine ⟨fun h0 => (by rw [hr] at h0; cases h0), fun i hi => ?_⟩
  rw [hr] at hi
  obtain rfl : i = j := by simpa using hi
  exact wpOp_step (at_drop hj) fun K' hK => h K' fun a w h2 => hK a w ⟨fun h => (by rw [hm] at h; cases h), h2⟩
theorem hload {o : Oper} {a : Act} {W : World} {x : Operand} {g f : Nat} {v : Hd} (ho : o.op = .load 65 x := by rfl) (hx : a.eval x = .pointer (some ⟨g, f, none⟩) := by rfl) (hc : W.rangeAt g f (hcs v)) : (execOp a.eval o).run Try.prog W = .ok (.value (hval v)) W := by
  obtain ⟨i0, hi0, hz0, hz1, hz2⟩ := info_parts info_held
  have h := run_loadVar_mid W g f 65 (hcs v) _ hc Try.underlying65 rfl (by rw [hi0]; exact congrArg some hz1)
  unfold execOp
  simp only [ho, hx, Instr.loadAt, Instr.sureAddr, Sem.run_bind, Sem.run_pure, Result.andThen_ok, h]
  rfl
theorem wp_hload {o : Oper} {a : Act} {K : Act → World → Prop} {Q : Exit → Act → World → Prop} {W : World} (x : Operand) (ho : o.op = .load 65 x) (g f : Nat) (hx : a.eval x = .pointer (some ⟨g, f, none⟩)) (v : Hd) (hc : W.rangeAt g f (hcs v)) (h : K (a.put o.dst (hval v)) W) : o.wp Try.prog a W K Q := by
  obtain ⟨i0, hi0, hz0, hz1, hz2⟩ := info_parts info_held
  exact wp_load_mid 65 x ho g f hx (hcs v) _ hc Try.underlying65 rfl (by rw [hi0]; exact congrArg some hz1) h
theorem wp_hstore {o : Oper} {a : Act} {K : Act → World → Prop} {Q : Exit → Act → World → Prop} {W : World} (x y : Operand) (ho : o.op = .store 65 x y) (g f : Nat) (v : Hd) (hx : a.eval x = .pointer (some ⟨g, f, none⟩)) (hy : a.eval y = hval v) (ht : W.there g f 5) (h : K (a.put o.dst undef) (W.setCells g f (hcs v))) : o.wp Try.prog a W K Q := by
  obtain ⟨i0, hi0, hz0, hz1, hz2⟩ := info_parts info_held
  exact wp_store_mid 65 x y ho g f (hcs v).toArray hx hy ht (by rw [hi0]; exact congrArg some hz1) (all_oneCell_toArray (by
    intro u hu
    simp only [hcs, List.mem_cons, List.not_mem_nil, or_false] at hu
    rcases hu with rfl | rfl | rfl | rfl | rfl <;> rfl)) h
theorem step_hload {ops : Array Oper} {o : Oper} {a : Act} {K : Act → World → Prop} {Q : Exit → Act → World → Prop} {E : Prop} {W : World} (hgd : o.guard = none) (x : Operand) (ho : o.op = .load 65 x) (g f : Nat) (hx : a.eval x = .pointer (some ⟨g, f, none⟩)) (v : Hd) (hc : W.rangeAt g f (hcs v)) (h : K (a.put o.dst (hval v)) W) :
    if Region.wanted o (yielded ops a.tmps) = true then Oper.wp Try.prog o a W K Q else E := by
  have hw : Region.wanted o (yielded ops a.tmps) = true := by simp [Region.wanted, hgd]
  rw [if_pos hw]
  exact wp_hload x ho g f hx v hc h
theorem step_hstore {ops : Array Oper} {o : Oper} {a : Act} {K : Act → World → Prop} {Q : Exit → Act → World → Prop} {E : Prop} {W : World} (hgd : o.guard = none) (x y : Operand) (ho : o.op = .store 65 x y) (g f : Nat) (v : Hd) (hx : a.eval x = .pointer (some ⟨g, f, none⟩)) (hy : a.eval y = hval v) (ht : W.there g f 5) (h : K (a.put o.dst undef) (W.setCells g f (hcs v))) :
    if Region.wanted o (yielded ops a.tmps) = true then Oper.wp Try.prog o a W K Q else E := by
  have hw : Region.wanted o (yielded ops a.tmps) = true := by simp [Region.wanted, hgd]
  rw [if_pos hw]
  exact wp_hstore x y ho g f v hx hy ht h
theorem Sep.hput {e : TypeId} {g n c : Nat} {l : List Hd} (h : Sep w0 w O (own e 5 (some ⟨g, 0, none⟩) n c (hv l) :: L)) (j : Nat) (x : Hd) : Sep w0 (w.setCells g (j * 5) (hcs x)) O (own e 5 (some ⟨g, 0, none⟩) n c (hv (l.set j x)) :: L) := by
  have h1 := ((((h.own_set (j * 5) (.int .i64 x.flow)).own_set (j * 5 + 1) (.int .i64 x.cost)).own_set (j * 5 + 2) (.int .u64 x.id)).own_set (j * 5 + 3) (.int .i64 x.tag)).own_set (j * 5 + 4) (.int .i64 x.n)
  rw [hv_set] at h1
  exact h1
set_option maxHeartbeats 1000000 in
theorem row_swap {A : Option Addr} {c : Nat} {xs : List Hd} {i j : Nat} (HS : Sep w0 w O (own 65 5 A xs.length c (hv xs) :: L)) (hi : i < xs.length) (hj : j < xs.length) :
    Calls Try.prog 58 #[.slice A xs.length c, .int .i64 i, .int .i64 j] w fun e w' => e = .returned (.tuple #[]) ∧ Sep w0 w' O (own 65 5 A xs.length c (hv (swp xs i j)) :: L) := by
  obtain ⟨g, rfl⟩ := HS.own_some (by omega)
  have i1 : (i : Int) < xs.length := by omega
  have j1 : (j : Int) < xs.length := by omega
  have hj2 : j < (xs.set i (gat xs j)).length := by rw [List.length_set]; exact hj
  have R1 := HS.drew.hrange hi rfl
  have R2 := HS.drew.hrange hj rfl
  have T1 := HS.drew.hthere hi rfl
  have H1 := HS.drew.hput i (gat xs j)
  have T2 := H1.hthere hj2 (by rw [List.length_set])
  have HW : Sep w0 ((w.drew.setCells g (i * 5) (hcs (gat xs j))).setCells g (j * 5) (hcs (gat xs i))) O (own 65 5 (some ⟨g, 0, none⟩) xs.length c (hv (swp xs i j)) :: L) := H1.hput j (gat xs i)
  have R1 := hid R1
  have R2 := hid R2
  have T1 := hid T1
  have T2 := hid T2
  clear H1 HS hi hj hj2
  go_enter Try.func58, Try.ntmps58
  go_upto_region 0 with (fail)
  -- SWAP
  refine wp_region_any (by kernel_rfl) ?_
  change wpAny _ _ _ _ _ _ _ (World.drew _)
  refine wpAny_takeD (i := 2) (d := some 8) (fuel := 15) (listed' := #[false, false, true, false, false, false, false, false, false, false, false, false, false, false, false, false]) (v := ?vv2) rfl rfl rfl rfl (by kernel_rfl) (by kernel_rfl) (by kernel_rfl) (fun _ _ _ h => h) (Or.inl ⟨by rfl, ?yv2⟩) ?yr2
  case yv2 =>
    intro w'
    go_simp
    with_reducible rfl
  (try simp only [Act.put, List.setIfInBounds_toArray, List.set_cons_zero, List.set_cons_succ])
  refine wpAny_takeD (i := 3) (d := some 9) (fuel := 14) (listed' := #[false, false, true, true, false, false, false, false, false, false, false, false, false, false, false, false]) (v := ?vv3) rfl rfl rfl rfl (by kernel_rfl) (by kernel_rfl) (by kernel_rfl) (fun _ _ _ h => h) (Or.inl ⟨by rfl, ?yv3⟩) ?yr3
  case yv3 =>
    intro w'
    go_simp
    with_reducible rfl
  (try simp only [Act.put, List.setIfInBounds_toArray, List.set_cons_zero, List.set_cons_succ])
  refine wpAny_of_G (m := 13) (S := fun w' => w'.rangeAt g (i * 5) (hcs (gat xs i)) ∧ w'.rangeAt g (j * 5) (hcs (gat xs j))) 14 #[false, false, true, true, false, false, false, false, false, false, false, false, false, false, false, false] _ _ ?_
  have hHeld : (fun w' : World => w'.rangeAt g (i * 5) (hcs (gat xs i)) ∧ w'.rangeAt g (j * 5) (hcs (gat xs j))) w.drew := ⟨R1.out, R2.out⟩
  refine wpAnyG_take (i := 0) (d := some 6) (fuel := 13) (listed' := #[true, false, true, true, false, false, false, false, false, false, false, false, false, false, false, false]) (v := ?vv0) rfl rfl rfl rfl (by kernel_rfl) (fun _ _ _ h => h) hHeld (Or.inl ⟨by rfl, fun w' hS' => Or.inl ?yv0⟩) ?yr0
  case yv0 =>
    go_simp
    with_reducible rfl
  (try simp only [Act.put, List.setIfInBounds_toArray, List.set_cons_zero, List.set_cons_succ])
  refine wpAnyG_take (i := 1) (d := some 7) (fuel := 12) (listed' := #[true, true, true, true, false, false, false, false, false, false, false, false, false, false, false, false]) (v := ?vv1) rfl rfl rfl rfl (by kernel_rfl) (fun _ _ _ h => h) hHeld (Or.inl ⟨by rfl, fun w' hS' => Or.inl ?yv1⟩) ?yr1
  case yv1 =>
    go_simp
    with_reducible rfl
  (try simp only [Act.put, List.setIfInBounds_toArray, List.set_cons_zero, List.set_cons_succ])
  refine wpAnyG_take (i := 4) (d := some 10) (fuel := 11) (listed' := #[true, true, true, true, true, false, false, false, false, false, false, false, false, false, false, false]) (v := ?vv4) rfl rfl rfl rfl (by kernel_rfl) (fun _ _ _ h => h) hHeld (Or.inl ⟨by rfl, fun w' hS' => Or.inl ?yv4⟩) ?yr4
  case yv4 =>
    go_simp
    with_reducible rfl
  (try simp only [Act.put, List.setIfInBounds_toArray, List.set_cons_zero, List.set_cons_succ])
  refine wpAnyG_take (i := 5) (d := some 11) (fuel := 10) (listed' := #[true, true, true, true, true, true, false, false, false, false, false, false, false, false, false, false]) (v := ?vv5) rfl rfl rfl rfl (by kernel_rfl) (fun _ _ _ h => h) hHeld (Or.inl ⟨by rfl, fun w' hS' => Or.inl ?yv5⟩) ?yr5
  case yv5 =>
    go_simp
    with_reducible rfl
  (try simp only [Act.put, List.setIfInBounds_toArray, List.set_cons_zero, List.set_cons_succ])
  refine wpAnyG_take (i := 6) (d := some 12) (fuel := 9) (listed' := #[true, true, true, true, true, true, true, false, false, false, false, false, false, false, false, false]) (v := ?vv6) rfl rfl rfl rfl (by kernel_rfl) (fun _ _ _ h => h) hHeld (Or.inl ⟨by rfl, fun w' hS' => Or.inl ?yv6⟩) ?yr6
  case yv6 =>
    go_simp
    with_reducible rfl
  (try simp only [Act.put, List.setIfInBounds_toArray, List.set_cons_zero, List.set_cons_succ])
  refine wpAnyG_take (i := 7) (d := some 13) (fuel := 8) (listed' := #[true, true, true, true, true, true, true, true, false, false, false, false, false, false, false, false]) (v := hval (gat xs j)) rfl rfl rfl rfl (by kernel_rfl) (fun _ _ _ h => h) hHeld (Or.inl ⟨by rfl, fun w' hS' => Or.inl ?yv7⟩) ?yr7
  case yv7 => exact hload (hc := hS'.2)
  (try simp only [Act.put, List.setIfInBounds_toArray, List.set_cons_zero, List.set_cons_succ])
  refine wpAnyG_take (i := 8) (d := some 14) (fuel := 7) (listed' := #[true, true, true, true, true, true, true, true, true, false, false, false, false, false, false, false]) (v := ?vv8) rfl rfl rfl rfl (by kernel_rfl) (fun _ _ _ h => h) hHeld (Or.inl ⟨by rfl, fun w' hS' => Or.inl ?yv8⟩) ?yr8
  case yv8 =>
    go_simp
    with_reducible rfl
  (try simp only [Act.put, List.setIfInBounds_toArray, List.set_cons_zero, List.set_cons_succ])
  refine wpAnyG_take (i := 9) (d := some 15) (fuel := 6) (listed' := #[true, true, true, true, true, true, true, true, true, true, false, false, false, false, false, false]) (v := ?vv9) rfl rfl rfl rfl (by kernel_rfl) (fun _ _ _ h => h) hHeld (Or.inl ⟨by rfl, fun w' hS' => Or.inl ?yv9⟩) ?yr9
  case yv9 =>
    go_simp
    with_reducible rfl
  (try simp only [Act.put, List.setIfInBounds_toArray, List.set_cons_zero, List.set_cons_succ])
  refine wpAnyG_take (i := 10) (d := some 16) (fuel := 5) (listed' := #[true, true, true, true, true, true, true, true, true, true, true, false, false, false, false, false]) (v := ?vv10) rfl rfl rfl rfl (by kernel_rfl) (fun _ _ _ h => h) hHeld (Or.inl ⟨by rfl, fun w' hS' => Or.inl ?yv10⟩) ?yr10
  case yv10 =>
    go_simp
    with_reducible rfl
  (try simp only [Act.put, List.setIfInBounds_toArray, List.set_cons_zero, List.set_cons_succ])
  refine wpAnyG_take (i := 11) (d := some 17) (fuel := 4) (listed' := #[true, true, true, true, true, true, true, true, true, true, true, true, false, false, false, false]) (v := hval (gat xs i)) rfl rfl rfl rfl (by kernel_rfl) (fun _ _ _ h => h) hHeld (Or.inl ⟨by rfl, fun w' hS' => Or.inl ?yv11⟩) ?yr11
  case yv11 => exact hload (hc := hS'.1)
  (try simp only [Act.put, List.setIfInBounds_toArray, List.set_cons_zero, List.set_cons_succ])
  refine wpAnyG_take (i := 12) (d := some 18) (fuel := 3) (listed' := #[true, true, true, true, true, true, true, true, true, true, true, true, true, false, false, false]) (v := ?vv12) rfl rfl rfl rfl (by kernel_rfl) (fun _ _ _ h => h) hHeld (Or.inl ⟨by rfl, fun w' hS' => Or.inl ?yv12⟩) ?yr12
  case yv12 =>
    go_simp
    with_reducible rfl
  (try simp only [Act.put, List.setIfInBounds_toArray, List.set_cons_zero, List.set_cons_succ])
  refine wpAnyG_one (j := 13) (fuel := 2) (listed' := #[true, true, true, true, true, true, true, true, true, true, true, true, true, true, false, false]) rfl rfl rfl (by kernel_rfl) (fun K hK => ?_)
  refine step_hstore rfl (.tmp 18) (.tmp 13) rfl g (i * 5) (gat xs j) rfl rfl T1.out ?_
  refine hK.out _ _ (fun h => absurd rfl h) ?_
  clear hK K
  (try simp only [Act.put, List.setIfInBounds_toArray, List.set_cons_zero, List.set_cons_succ])
  refine wpAnyG_last (j := 14) (fuel := 1) (listed' := #[true, true, true, true, true, true, true, true, true, true, true, true, true, true, true, false]) rfl rfl rfl (by kernel_rfl) rfl (fun K hK => ?_)
  go_simp
  refine hK.out _ _ ?_
  clear hK K
  (try simp only [Act.put, List.setIfInBounds_toArray, List.set_cons_zero, List.set_cons_succ])
  refine wpAnyG_last (j := 15) (fuel := 0) (listed' := #[true, true, true, true, true, true, true, true, true, true, true, true, true, true, true, true]) rfl rfl rfl (by kernel_rfl) rfl (fun K hK => ?_)
  refine step_hstore rfl (.tmp 19) (.tmp 17) rfl g (j * 5) (gat xs i) rfl rfl T2.out ?_
  refine hK.out _ _ ?_
  clear hK K
  (try simp only [Act.put, List.setIfInBounds_toArray, List.set_cons_zero, List.set_cons_succ])
  refine wpAnyG_done (by kernel_rfl) ?_ _
  -- PAWS

  go_end0
  exact ⟨rfl, HW⟩
end
end Go.Proofs.Ytkdoocgjagpcbaa
