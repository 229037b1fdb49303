/-
  append that grows off a row that is only read (its length is its capacity).
-/
import Derived.Test.YtankfmfenbhkgaaOrdA
import Derived.Laws.Append
namespace Go.Proofs.Ytankfmfenbhkgaa
open Go.RowKit
set_option linter.unusedVariables false
set_option linter.unusedSimpArgs false
section
variable {Pr : Program} {w0 w : World} {O : Nat → Prop} {L : List Asr}
theorem run_append_ro (t ty e : TypeId) (i : TypeInfo) (z : Value) (ht : Pr.underlying t = some (.slice e)) (hi : Pr.info? e = some i) (hz : i.zero = some z) (hsize : i.size = 1) (hby : i.bytes = 1) (hzs : z.cells.size = 1)
    (h : Sep w0 w O L) {b : Addr} {n : Nat} {xs : List Value} (hx : xs.length = n) (hb : ∀ j v, xs[j]? = some v → w.cell? (b.add j) = some v)
    {a : Addr} {m c : Nat} {news : List Value} (hl : news.length = m) (hn : ∀ j v, news[j]? = some v → w.cell? (a.add j) = some v) (hm : 0 < m) (h63 : n + m ≤ 1000000) :
    ∃ A' c' w', (Builtin.append_ #[t, t] ty #[.slice (some b) n n, .slice (some a) m c]).run Pr w = .ok (.slice A' (n + m) c') w' ∧ Sep w0 w' O (own e 1 A' (n + m) c' (xs ++ news) :: L) ∧ w.heap.size ≤ w'.heap.size := by
  have hr := run_append_grow (P := Pr) w t ty e i z ht hi hz b n n xs (by rw [hsize]; omega) hb a m c news (by rw [hsize]; omega) hn (by omega) (by omega) (by rw [hby]; exact growslice_fits (by omega) (by omega))
  have hge := grownCap_ge w (n + m) n e
  have hcm : grownCap w (n + m) n e ≤ maxLen := grownCap_le_maxLen w (n + m) n e (by simp only [maxLen]; omega)
  refine ⟨_, _, _, hr, ?_, by simp⟩
  refine (h.drew.alloc _ e).imp fun hp F ⟨h1, h2⟩ => ⟨fun b' => by rw [h1 b']; exact ⟨fun e => ⟨_, rfl, e⟩, fun ⟨a, ha, hb⟩ => by injection ha with ha; subst ha; exact hb⟩, by simp [hx, hl], .inr ⟨_, _, rfl, h2, hge, hcm, ?_, ?_⟩⟩
  · simp only [Array.size_append, List.size_toArray, size_zeroCells, hzs, hx, hl]; omega
  · simp only [Array.toList_append, List.append_assoc]
    rw [← List.append_assoc]
    exact List.take_left' (by simp [hx, hl])

theorem wpList_append_ro {ops : Array Oper} {rest : List Oper} {o : Oper} {act : Act} {Q : Exit → Act → World → Prop} (hgd : o.guard = none) (s x : Operand) (t : TypeId)
    (ho : o.op = .call { callee := .builtin .append, args := #[s, x], argTypes := #[t, t] })
    (e : TypeId) (i : TypeInfo) (z : Value) (ht : Pr.underlying t = some (.slice e)) (hi : Pr.info? e = some i) (hz : i.zero = some z) (hsize : i.size = 1) (hby : i.bytes = 1) (hzs : z.cells.size = 1)
    (h : Sep w0 w O L) {b : Addr} {n : Nat} {xs : List Value} (hs : act.eval s = .slice (some b) n n) (hx : xs.length = n) (hb : ∀ j v, xs[j]? = some v → w.cell? (b.add j) = some v)
    {a : Addr} {m c : Nat} {news : List Value} (hxa : act.eval x = .slice (some a) m c) (hl : news.length = m) (hn : ∀ j v, news[j]? = some v → w.cell? (a.add j) = some v) (hm : 0 < m) (h63 : n + m ≤ 1000000)
    (hK : ∀ A' c' w', Sep w0 w' O (own e 1 A' (n + m) c' (xs ++ news) :: L) → w.heap.size ≤ w'.heap.size → wpList Pr ops Q rest (act.put o.dst (.slice A' (n + m) c')) w') : wpList Pr ops Q (o :: rest) act w :=
  wpList_plain hgd fun _ hK' => by
    obtain ⟨A', c', w', hrun, h2, h3⟩ := run_append_ro (Pr := Pr) t o.type e i z ht hi hz hsize hby hzs h hx hb (c := c) hl hn hm h63
    unfold Oper.wp execOp
    simp only [ho, resolve, invoke, builtin, Sem.run_bind, Sem.run_pure, Result.andThen_ok, List.map_toArray, List.map_cons, List.map_nil, hs, hxa, hrun]
    exact hK' _ _ (hK A' c' w' h2 h3)
end
end Go.Proofs.Ytankfmfenbhkgaa
