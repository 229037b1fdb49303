/-
  append(b, make([]byte, n)...) onto a row of the call's own. No program is named here.
-/
import Derived.Test.YtgepekailoopeaaOrdA
import Derived.Lib.AppendZeros
namespace Go.Proofs.Ytgepekailoopeaa
open Go.RowKit
set_option linter.unusedVariables false
set_option linter.unusedSimpArgs false
theorem zeroCells_list (n : Nat) : (Builtin.zeroCells (Value.int .u8 0).cells n).toList = by8 (List.replicate n 0) := by
  apply List.ext_getElem
  · simp [Builtin.zeroCells, kv, Value.cells]
  · intro i h1 h2
    simp [Builtin.zeroCells, kv, Value.cells, Nat.mod_one]
section
variable {Pr : Program} {w0 w : World} {O : Nat → Prop} {L : List Asr}
theorem run_append_zeros_sep (t tn ty e : TypeId) (i : TypeInfo) (k kn : IntKind) (ht : Pr.underlying t = some (.slice e)) (htn : Pr.underlying tn = some (.int kn)) (hi : Pr.info? e = some i) (hz : i.zero = some (.int .u8 0))
    (hsize : i.size = 1) (hby : i.bytes = 1) {A : Option Addr} {n c m : Nat} {l : List Int} (h : Sep w0 w O (own e 1 A n c (by8 l) :: L)) (hn : 0 < n) (hm : 0 < m) (hs : n + m ≤ 1000000) :
    ∃ A' c' w', (Builtin.append_ #[t, tn] ty #[.slice A n c, .int k m]).run Pr w = .ok (.slice A' (n + m) c') w' ∧ Sep w0 w' O (own e 1 A' (n + m) c' (by8 (l ++ List.replicate m 0)) :: L) ∧ w.heap.size ≤ w'.heap.size := by
  obtain ⟨g, rfl⟩ := h.own_some hn
  have hown := h.own_row
  have hlen := h.klen
  have hw : IntKind.i64.wrap (m : Int) = m := by rw [IntKind.wrap_i64]; omega
  have hneg : ¬ ((m : Int) < 0) := by omega
  have h48i : ¬ (281474976710656 < (m : Int)) := by omega
  have hm0 : ¬ m = 0 := by omega
  have hbl : (by8 (l ++ List.replicate m 0)).length = n + m := by simp [kv, hlen]
  have hzl : (by8 (List.replicate m 0)).length = m := by simp [kv]
  rcases hown.2 with ⟨hv, _⟩ | ⟨g', cap, cur, hv, _, hg, hnc, hcm, hcs, htake⟩
  · cases hv
  injection hv with h1 h2 h3
  injection h1 with h1
  injection h1 with h1
  subst h1
  subst h3
  rw [Nat.mul_one] at hcs htake
  by_cases hroom : n + m ≤ c
  · have hst := run_storeCells_at Pr g n e (by8 (List.replicate m 0)) 0 cur w hg (by rw [hzl]; omega) (kv_one _ _)
    simp only [Nat.add_zero] at hst
    have hzc : (Builtin.zeroCells (Value.int .u8 0).cells m).toList = by8 (List.replicate m 0) := zeroCells_list m
    refine ⟨some ⟨g, 0, none⟩, c, w.setRow g (cur.toList.take n ++ by8 (List.replicate m 0) ++ cur.toList.drop (n + (by8 (List.replicate m 0)).length)).toArray, ?_, ?_, ?_⟩
    · simp [Builtin.append_, run_underlying ht, run_underlying htn, sizeOf, typeInfo, zeroValue, hi, hz, hsize, hby, asInt, asIntOf, hw, hneg, h48i, hm0, hroom, Addr.add_lit, hzc, hst]
    · refine h.own_grown (w' := w.setRow g (cur.toList.take n ++ by8 (List.replicate m 0) ++ cur.toList.drop (n + (by8 (List.replicate m 0)).length)).toArray) ⟨by rw [hbl, Nat.mul_one], .inr ⟨g, c, _, rfl, Nat.zero_le _, setRow_heap w g cur _ e _ hg, hroom, hcm, ?_, ?_⟩⟩ ⟨rfl, rfl, rfl, by simp, fun k _ hk => setRow_other w g k _ (fun e => hk (by simp [Value.ownBlock, e]))⟩ (.inl rfl)
      · simp only [List.size_toArray, List.length_append, List.length_take, List.length_drop, Array.length_toList, hzl]
        omega
      · rw [Nat.mul_one]
        show (cur.toList.take n ++ by8 (List.replicate m 0) ++ _).take (n + m) = by8 (l ++ List.replicate m 0)
        rw [htake, kv_append]
        exact List.take_left' hbl
    · simp
  · have hnr : ¬ (n + m ≤ c) := hroom
    have h63' : ¬ (9223372036854775807 < ((n : Int) + (m : Int))) := by omega
    have hfit := growslice_fits (need := n + m) (old := c) (bytes := 1) (by omega) (by omega)
    have h48' : ¬ (281474976710656 < Builtin.nextslicecap (n + m) c) := by omega
    have hfo := run_firstCells_some (P := Pr) w.drew 1 n ⟨g, 0, none⟩ n c (by8 l) (by simp [kv, hlen]) (by intro j u hu; exact hown.cells (g := g) rfl j u hu)
    have hge := grownCap_ge w (n + m) c e
    have hcm' : grownCap w (n + m) c e ≤ maxLen := grownCap_le_maxLen w (n + m) c e (by simp only [maxLen]; omega)
    refine ⟨some ⟨w.heap.size, 0, none⟩, grownCap w (n + m) c e, w.drew.alloc (.cells ((by8 l).toArray ++ Builtin.zeroCells (Value.int .u8 0).cells m ++ Builtin.zeroCells (Value.int .u8 0).cells (grownCap w (n + m) c e - (n + m))) e), ?_, ?_, ?_⟩
    · simp [Builtin.append_, run_underlying ht, run_underlying htn, sizeOf, typeInfo, zeroValue, hi, hz, hsize, hby, asInt, asIntOf, hw, hneg, h48i, hm0, hnr, h63', h48', Question.forced, hfo, newRow, grownCap]
    · refine h.own_grown ⟨by rw [hbl, Nat.mul_one], .inr ⟨w.heap.size, _, _, rfl, Nat.zero_le _, heap_alloc_new w.drew _, hge, hcm', ?_, ?_⟩⟩ ⟨rfl, rfl, rfl, by simp, fun k hk _ => Below.heap_alloc w.drew _ k hk⟩ (.inr rfl)
      · simp only [Array.size_append, List.size_toArray, size_zeroCells, Nat.mul_one]
        have : (by8 l).length = n := by simp [kv, hlen]
        simp only [this, Value.cells, List.size_toArray, List.length_cons, List.length_nil]
        omega
      · simp only [Array.toList_append, zeroCells_list, Nat.mul_one]
        rw [kv_append]
        exact List.take_left' hbl
    · simp
theorem wpList_append_zeros_sep {ops : Array Oper} {rest : List Oper} {o : Oper} {a : Act} {Q : Exit → Act → World → Prop} (hgd : o.guard = none) (s x : Operand) (t tn : TypeId)
    (ho : o.op = .call { callee := .builtin .append, args := #[s, x], argTypes := #[t, tn] }) (e : TypeId) (i : TypeInfo) (k kn : IntKind) (ht : Pr.underlying t = some (.slice e)) (htn : Pr.underlying tn = some (.int kn)) (hi : Pr.info? e = some i) (hz : i.zero = some (.int .u8 0))
    (hsize : i.size = 1) (hby : i.bytes = 1) {A : Option Addr} {n c m : Nat} {l : List Int} (hs : a.eval s = .slice A n c) (hx : a.eval x = .int k m) (h : Sep w0 w O (own e 1 A n c (by8 l) :: L)) (hn : 0 < n) (hm : 0 < m) (hsm : n + m ≤ 1000000)
    (hK : ∀ A' c' w', Sep w0 w' O (own e 1 A' (n + m) c' (by8 (l ++ List.replicate m 0)) :: L) → w.heap.size ≤ w'.heap.size → wpList Pr ops Q rest (a.put o.dst (.slice A' (n + m) c')) w') : wpList Pr ops Q (o :: rest) a w := by
  obtain ⟨A', c', w', hr, h2, h3⟩ := run_append_zeros_sep (Pr := Pr) t tn o.type e i k kn ht htn hi hz hsize hby h hn hm hsm
  exact Lib.wpList_append_run w hgd s x t tn ho _ _ hs hx _ w' hr (hK A' c' w' h2 h3)
end
end Go.Proofs.Ytgepekailoopeaa
