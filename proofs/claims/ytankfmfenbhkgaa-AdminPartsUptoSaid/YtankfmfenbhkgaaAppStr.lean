/-
  append of a string's bytes to a row of the call's own.
-/
import Derived.Test.YtankfmfenbhkgaaOrdA
import Derived.Lib.AppendStr
namespace Go.Proofs.Ytankfmfenbhkgaa
open Go.RowKit
set_option linter.unusedVariables false
set_option linter.unusedSimpArgs false

/-- a string's bytes as numbers -/
def strInts (s : ByteArray) : List Int := s.data.toList.map fun b => (b.toNat : Int)
theorem strInts_len (s : ByteArray) : (strInts s).length = s.size := by rw [strInts, List.length_map, Array.length_toList]; rfl
theorem strInts_cells (s : ByteArray) : Lib.strCells s = by8 (strInts s) := by show _ = kv .u8 (strInts s); unfold Lib.strCells strInts kv; rw [List.map_map]; rfl
theorem strInts_byt (s : ByteArray) : ∀ x ∈ strInts s, 0 ≤ x ∧ x < 256 := by
  intro x hx
  obtain ⟨b, _, rfl⟩ := List.mem_map.1 hx
  have := b.toNat_lt
  omega

section
variable {Pr : Program} {w0 w : World} {O : Nat → Prop} {L : List Asr}

theorem run_append_sep_str (t u ty e : TypeId) (i : TypeInfo) (ht : Pr.underlying t = some (.slice e)) (hu : Pr.underlying u = some .string) (hi : Pr.info? e = some i) (hz : i.zero = some (.int .u8 0))
    (hsize : i.size = 1) (hby : i.bytes = 1) {A : Option Addr} {n c : Nat} {xs : List Value} (h : Sep w0 w O (own e 1 A n c xs :: L)) (s : ByteArray)
    (h63 : n + s.size ≤ maxLen) (hbytes : n + s.size ≤ 140737488355328) :
    ∃ A' c' w', (Builtin.append_ #[t, u] ty #[.slice A n c, .string s]).run Pr w = .ok (.slice A' (n + s.size) c') w' ∧ Sep w0 w' O (own e 1 A' (n + s.size) c' (xs ++ Lib.strCells s) :: L) ∧ w.heap.size ≤ w'.heap.size := by
  have hown := h.own_row
  obtain ⟨v', w', hr, h2, h3, h4⟩ := Lib.run_append_own_string (P := Pr) w 0 t u ty e i ht hu hi hz hsize hby (.slice A n c) n xs hown s h63 hbytes (Nat.zero_le _)
  have h63' : n + s.size ≤ 9223372036854775807 := by simp only [maxLen] at h63; omega
  have hat : v'.ownBlock = (Value.slice A n c).ownBlock ∨ v'.ownBlock = some w.heap.size := by
    rcases hown.2 with ⟨hv, h0⟩ | ⟨g, cap, cur, hv, _, hg, hnc, hcm, hcs, htake⟩
    · injection hv with e1 e2 e3
      subst e1; subst e2; subst e3
      by_cases hm : s.size = 0
      · rw [h4.2 ⟨rfl, hm⟩]; exact .inl rfl
      · have hr' := run_append_nil_string (P := Pr) w t u ty e i (.int .u8 0) ht hu hi hz s (by omega) (by omega) (by rw [hby]; omega)
        rw [hr'] at hr
        injection hr with e1 e2
        rw [← e1]; exact .inr rfl
    · injection hv with e1 e2 e3
      subst e1; subst e3
      by_cases hroom : n + s.size ≤ c
      · have hcs' : cur.size = c := by simpa using hcs
        have hr' := Lib.run_append_room_string (P := Pr) w t u ty e i ht hu hi hsize g n c cur hg s hroom (by omega)
        rw [hr'] at hr
        injection hr with e1 e2
        rw [← e1]; exact .inl rfl
      · have hxl : xs.length = n := by simpa using hown.1
        have holds : ∀ j u, xs[j]? = some u → w.cell? ((⟨g, 0, none⟩ : Addr).add j) = some u := hown.cells (g := g) rfl
        have hr' := Lib.run_append_grow_string (P := Pr) w t u ty e i (.int .u8 0) ht hu hi hz ⟨g, 0, none⟩ n c xs (by rw [hsize]; simpa using hxl) holds s (by omega) (by omega) (by rw [hby]; exact growslice_fits (by omega) (by omega))
        rw [hr'] at hr
        injection hr with e1 e2
        rw [← e1]; exact .inr rfl
  have hv : ∃ A' c', v' = .slice A' (n + s.size) c' := by
    rcases h2.2 with ⟨rfl, h0⟩ | ⟨g, cap, cur, rfl, _⟩
    · exact ⟨none, 0, by rw [h0]⟩
    · exact ⟨_, _, rfl⟩
  obtain ⟨A', c', rfl⟩ := hv
  exact ⟨A', c', w', hr, h.own_grown h2 h3 hat, h3.size⟩

theorem wp_append_sep_str {o : Oper} {a : Act} {K : Act → World → Prop} {Q : Exit → Act → World → Prop} (s x : Operand) (t u : TypeId)
    (ho : o.op = .call { callee := .builtin .append, args := #[s, x], argTypes := #[t, u] })
    (e : TypeId) (i : TypeInfo) (ht : Pr.underlying t = some (.slice e)) (hu : Pr.underlying u = some .string) (hi : Pr.info? e = some i) (hz : i.zero = some (.int .u8 0))
    (hsize : i.size = 1) (hby : i.bytes = 1)
    {A : Option Addr} {n c : Nat} {xs : List Value} (hs : a.eval s = .slice A n c) (h : Sep w0 w O (own e 1 A n c xs :: L)) {str : ByteArray} (hx : a.eval x = .string str)
    (h63 : n + str.size ≤ maxLen) (hbytes : n + str.size ≤ 140737488355328) {N : Nat} {ys : List Value} (hN : n + str.size = N) (hys : xs ++ Lib.strCells str = ys)
    (hK : ∀ A' c' w', Sep w0 w' O (own e 1 A' N c' ys :: L) → w.heap.size ≤ w'.heap.size → K (a.put o.dst (.slice A' N c')) w') : o.wp Pr a w K Q := by
  subst hN; subst hys
  obtain ⟨A', c', w', hrun, h2, h3⟩ := run_append_sep_str (Pr := Pr) t u o.type e i ht hu hi hz hsize hby h str h63 hbytes
  unfold Oper.wp execOp
  simp only [ho, resolve, invoke, builtin, Sem.run_bind, Sem.run_pure, Result.andThen_ok, List.map_toArray, List.map_cons, List.map_nil, hs, hx, hrun]
  exact hK A' c' w' h2 h3

theorem wpList_append_sep_str {ops : Array Oper} {rest : List Oper} {o : Oper} {a : Act} {Q : Exit → Act → World → Prop} (hgd : o.guard = none) (s x : Operand) (t u : TypeId)
    (ho : o.op = .call { callee := .builtin .append, args := #[s, x], argTypes := #[t, u] })
    (e : TypeId) (i : TypeInfo) (ht : Pr.underlying t = some (.slice e)) (hu : Pr.underlying u = some .string) (hi : Pr.info? e = some i) (hz : i.zero = some (.int .u8 0))
    (hsize : i.size = 1) (hby : i.bytes = 1)
    {A : Option Addr} {n c : Nat} {xs : List Value} (hs : a.eval s = .slice A n c) (h : Sep w0 w O (own e 1 A n c xs :: L)) {str : ByteArray} (hx : a.eval x = .string str)
    (h63 : n + str.size ≤ maxLen) (hbytes : n + str.size ≤ 140737488355328) {N : Nat} {ys : List Value} (hN : n + str.size = N) (hys : xs ++ Lib.strCells str = ys)
    (hK : ∀ A' c' w', Sep w0 w' O (own e 1 A' N c' ys :: L) → w.heap.size ≤ w'.heap.size → wpList Pr ops Q rest (a.put o.dst (.slice A' N c')) w') : wpList Pr ops Q (o :: rest) a w :=
  wpList_plain hgd fun _ hK' => wp_append_sep_str s x t u ho e i ht hu hi hz hsize hby hs h hx h63 hbytes hN hys fun A' c' w' h2 h3 => hK' _ _ (hK A' c' w' h2 h3)

theorem step_append_sep_str {ops : Array Oper} {o : Oper} {a : Act} {K : Act → World → Prop} {Q : Exit → Act → World → Prop} {E : Prop} (hgd : o.guard = none) (s x : Operand) (t u : TypeId)
    (ho : o.op = .call { callee := .builtin .append, args := #[s, x], argTypes := #[t, u] })
    (e : TypeId) (i : TypeInfo) (ht : Pr.underlying t = some (.slice e)) (hu : Pr.underlying u = some .string) (hi : Pr.info? e = some i) (hz : i.zero = some (.int .u8 0))
    (hsize : i.size = 1) (hby : i.bytes = 1)
    {A : Option Addr} {n c : Nat} {xs : List Value} (hs : a.eval s = .slice A n c) (h : Sep w0 w O (own e 1 A n c xs :: L)) {str : ByteArray} (hx : a.eval x = .string str)
    (h63 : n + str.size ≤ maxLen) (hbytes : n + str.size ≤ 140737488355328) {N : Nat} {ys : List Value} (hN : n + str.size = N) (hys : xs ++ Lib.strCells str = ys)
    (hK : ∀ A' c' w', Sep w0 w' O (own e 1 A' N c' ys :: L) → w.heap.size ≤ w'.heap.size → K (a.put o.dst (.slice A' N c')) w') :
    if Region.wanted o (yielded ops a.tmps) = true then Oper.wp Pr o a w K Q else E := by
  have hw : Region.wanted o (yielded ops a.tmps) = true := by simp [Region.wanted, hgd]
  rw [if_pos hw]
  exact wp_append_sep_str s x t u ho e i ht hu hi hz hsize hby hs h hx h63 hbytes hN hys hK
end
end Go.Proofs.Ytankfmfenbhkgaa
