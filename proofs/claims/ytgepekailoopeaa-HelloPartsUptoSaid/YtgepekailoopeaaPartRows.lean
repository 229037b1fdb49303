/-
  Rows of options, and of replies, that come in: element by element; a talk.
-/
import Derived.Test.YtgepekailoopeaaPartLaw
import Derived.Test.YtgepekailoopeaaSees22
namespace Go.Proofs.Ytgepekailoopeaa
open Go.RowKit
set_option linter.unusedVariables false
set_option linter.unusedSimpArgs false

theorem flat_get {α : Type} (f : α → List Value) (k : Nat) (hf : ∀ x, (f x).length = k) : ∀ (l : List α) (i j : Nat), j < k → (l.flatMap f)[i * k + j]? = (l[i]?).bind fun x => (f x)[j]? := by
  intro l
  induction l with
  | nil => intro i j _; simp
  | cons x l ih =>
    intro i j hj
    rw [List.flatMap_cons]
    cases i with
    | zero =>
      rw [Nat.zero_mul, Nat.zero_add, List.getElem?_append_left (by rw [hf]; exact hj)]
      simp
    | succ i =>
      rw [List.getElem?_append_right (by rw [hf, Nat.succ_mul]; omega), hf, show (i + 1) * k + j - k = i * k + j by rw [Nat.succ_mul]; omega, ih i j hj]
      simp
theorem flat_len {α β : Type} (f : α → List β) (k : Nat) (hf : ∀ x, (f x).length = k) : ∀ l : List α, (l.flatMap f).length = l.length * k := by
  intro l
  induction l with
  | nil => simp
  | cons x l ih => rw [List.flatMap_cons, List.length_append, hf, ih, List.length_cons, Nat.succ_mul]; omega
theorem le_sum {x : Nat} : ∀ {l : List Nat}, x ∈ l → x ≤ l.sum := by
  intro l
  induction l with
  | nil => intro h; cases h
  | cons y l ih =>
    intro h
    rw [List.sum_cons]
    rcases List.mem_cons.1 h with h | h
    · omega
    · have := ih h; omega
theorem sum_eight {α : Type} (f : α → Nat) : ∀ l : List α, (l.map fun y => 8 * f y).sum = 8 * (l.map f).sum := by
  intro l
  induction l with
  | nil => rfl
  | cons x l ih => simp only [List.map_cons, List.sum_cons, ih]; omega
theorem sum_least {α : Type} (f : α → Nat) (k : Nat) : ∀ l : List α, l.length * k ≤ (l.map fun y => k + f y).sum := by
  intro l
  induction l with
  | nil => simp
  | cons x l ih => simp only [List.map_cons, List.sum_cons, List.length_cons, Nat.succ_mul]; omega
theorem bulk_ints (k : IntKind) (l : List Int) : (List.map (bulk (.int k)) l).sum = l.length := by
  induction l with
  | nil => rfl
  | cons x l ih => rw [List.map_cons, List.sum_cons, ih, List.length_cons]; show 1 + _ = _; omega

structure Ho where
  op : Int
  A : Option Addr
  c : Nat
  d : List Int
def Ho.cells (r : Ho) : List Value := [.int .u32 r.op, .slice r.A r.d.length r.c]
abbrev Ho.val (r : Ho) : Value := .agg #[.int .u32 r.op, .slice r.A r.d.length r.c]
def Ho.bytes (r : Ho) : List Int := rawL mOp [r.op] (r.d.take 256)
def Ho.Fit (r : Ho) : Prop := 0 ≤ r.op ∧ r.op < 4294967296
def Ho.Good (h : Array Obj) (r : Ho) : Prop := r.Fit ∧ Rd h (fun b => b < h.size) 1 r.A r.d.length (by8 r.d) ∧ Byt r.d ∧ r.d.length ≤ r.c ∧ r.d.length ≤ 1048576
theorem Ho.cells_len (r : Ho) : r.cells.length = 2 := rfl

set_option maxHeartbeats 1000000 in
theorem sees_Hos {h : Array Obj} {A : Option Addr} {n c : Nat} {x : Sh.V (.slice (.agg (.pair (.int .u32) (.pair (.slice (.int .u8) 1) .unit))) 32)} (hs : Sees h (.slice (.agg (.pair (.int .u32) (.pair (.slice (.int .u8) 1) .unit))) 32) [.slice A n c] x) (hb : bulk (.slice (.agg (.pair (.int .u32) (.pair (.slice (.int .u8) 1) .unit))) 32) x ≤ 1048576) :
    n ≤ c ∧ ∃ rs : List Ho, rs.length = n ∧ (∀ r ∈ rs, r.Good h) ∧ (rs.map fun r => 16 + r.d.length).sum ≤ 8388608 ∧ n ≤ 1048576 ∧ Rd h (fun b => b < h.size) 2 A n (rs.flatMap Ho.cells) := by
  obtain ⟨A', c', hc, h1, h2, h3⟩ := hs
  simp only [List.cons.injEq, and_true, Value.slice.injEq] at hc
  obtain ⟨rfl, rfl, rfl⟩ := hc
  have hbk : bulk (.slice (.agg (.pair (.int .u32) (.pair (.slice (.int .u8) 1) .unit))) 32) x = (List.map (bulk (.agg (.pair (.int .u32) (.pair (.slice (.int .u8) 1) .unit)))) x).sum + 1 := rfl
  rw [hbk] at hb
  have hel : ∀ i, i < List.length x → ∃ r : Ho, r.Good h ∧ (∀ y, x[i]? = some y → 3 + r.d.length ≤ bulk (.agg (.pair (.int .u32) (.pair (.slice (.int .u8) 1) .unit))) y) ∧ ∃ ad, A = some ad ∧ ∀ (j : Nat) u, r.cells[j]? = some u → cellH h (ad.add (i * 2 + j)) = some u := by
    intro i hi
    obtain ⟨ad, hA, hx⟩ := h3 (by omega)
    have hy : x[i]? = some x[i] := List.getElem?_eq_getElem hi
    have hmem : bulk (.agg (.pair (.int .u32) (.pair (.slice (.int .u8) 1) .unit))) x[i] ≤ (List.map (bulk (.agg (.pair (.int .u32) (.pair (.slice (.int .u8) 1) .unit)))) x).sum := le_sum (List.mem_map_of_mem (List.getElem_mem hi))
    generalize x[i] = y at *
    obtain ⟨cs', _, hcell, hse⟩ := hx i y hy
    obtain ⟨op, d, u⟩ := y
    have e : bulk (.agg (.pair (.int .u32) (.pair (.slice (.int .u8) 1) .unit))) (op, d, u) = 1 + ((List.map (bulk (.int .u8)) d).sum + 1 + 0) + 1 := rfl
    rw [bulk_ints] at e
    obtain ⟨q0, r0, rfl, _, ⟨rfl, hb0⟩, q9, r9, rfl, _, hs9, rfl⟩ := hse
    obtain ⟨A0, c0, rfl, _, _, _⟩ := id hs9
    obtain ⟨_, hr0, hc0, _, hw0⟩ := sees_ints hs9
    have g0 := bounds_u32 hb0
    dsimp only at g0 hr0 hc0 hw0
    refine ⟨⟨op, A0, c0, d⟩, ⟨⟨by dsimp only; omega, by dsimp only; omega⟩, hr0, kv_byt hw0, hc0, by dsimp only; omega⟩, fun y' hy' => ?_, ad, hA, fun j v hv => hcell j v hv⟩
    rw [hy] at hy'
    injection hy' with hy'
    subst hy'
    rw [e]
    dsimp only
    omega
  obtain ⟨rs, hlen, hR⟩ := list_of (List.length x) hel
  have hsum : (rs.map fun r => 16 + r.d.length).sum ≤ (x.map fun y => 8 * bulk (.agg (.pair (.int .u32) (.pair (.slice (.int .u8) 1) .unit))) y).sum := sum_le _ _ rs x hlen fun i r y hr hy => by
    have := (hR i r hr).2.1 y hy
    omega
  have hmul : (x.map fun y => 8 * bulk (.agg (.pair (.int .u32) (.pair (.slice (.int .u8) 1) .unit))) y).sum = 8 * (List.map (bulk (.agg (.pair (.int .u32) (.pair (.slice (.int .u8) 1) .unit)))) x).sum := sum_eight _ _
  have hn : rs.length * 16 ≤ (rs.map fun r => 16 + r.d.length).sum := sum_least _ _ _
  refine ⟨h1, rs, hlen, fun r hr => ?_, by omega, by omega, ?_, fun hpos => ?_⟩
  · obtain ⟨i, hi⟩ := List.getElem?_of_mem hr
    exact (hR i r hi).1
  · rw [flat_len Ho.cells 2 Ho.cells_len, hlen]
  · have h0 : rs[0]? = some rs[0] := List.getElem?_eq_getElem (by omega)
    obtain ⟨_, _, ad, hA, hc0⟩ := hR 0 _ h0
    refine ⟨ad, hA, ?_, fun j u hu => ?_⟩
    · have := cellH_lt (hc0 0 _ rfl)
      rwa [add_block] at this
    · have hj : j = j / 2 * 2 + j % 2 := by omega
      rw [hj, flat_get Ho.cells 2 Ho.cells_len _ _ _ (by omega)] at hu
      cases hi : rs[j / 2]? with
      | none => rw [hi] at hu; cases hu
      | some r =>
        rw [hi] at hu
        obtain ⟨_, _, ad', hA', hc⟩ := hR _ r hi
        rw [hA] at hA'
        injection hA' with hA'
        subst hA'
        rw [hj]
        exact hc _ u hu

structure Hr where
  op : Int
  kd : Int
  A : Option Addr
  c : Nat
  d : List Int
def Hr.cells (r : Hr) : List Value := [.int .u32 r.op, .int .u32 r.kd, .slice r.A r.d.length r.c]
abbrev Hr.val (r : Hr) : Value := .agg #[.int .u32 r.op, .int .u32 r.kd, .slice r.A r.d.length r.c]
def Hr.bytes (r : Hr) : List Int := rawL mRe [r.op, r.kd] (r.d.take 256)
def Hr.Fit (r : Hr) : Prop := 0 ≤ r.op ∧ r.op < 4294967296 ∧ 0 ≤ r.kd ∧ r.kd < 4294967296
def Hr.Good (h : Array Obj) (r : Hr) : Prop := r.Fit ∧ Rd h (fun b => b < h.size) 1 r.A r.d.length (by8 r.d) ∧ Byt r.d ∧ r.d.length ≤ r.c ∧ r.d.length ≤ 1048576
theorem Hr.cells_len (r : Hr) : r.cells.length = 3 := rfl

set_option maxHeartbeats 1000000 in
theorem sees_Hrs {h : Array Obj} {A : Option Addr} {n c : Nat} {x : Sh.V (.slice (.agg (.pair (.int .u32) (.pair (.int .u32) (.pair (.slice (.int .u8) 1) .unit)))) 32)} (hs : Sees h (.slice (.agg (.pair (.int .u32) (.pair (.int .u32) (.pair (.slice (.int .u8) 1) .unit)))) 32) [.slice A n c] x) (hb : bulk (.slice (.agg (.pair (.int .u32) (.pair (.int .u32) (.pair (.slice (.int .u8) 1) .unit)))) 32) x ≤ 1048576) :
    n ≤ c ∧ ∃ rs : List Hr, rs.length = n ∧ (∀ r ∈ rs, r.Good h) ∧ (rs.map fun r => 20 + r.d.length).sum ≤ 8388608 ∧ n ≤ 1048576 ∧ Rd h (fun b => b < h.size) 3 A n (rs.flatMap Hr.cells) := by
  obtain ⟨A', c', hc, h1, h2, h3⟩ := hs
  simp only [List.cons.injEq, and_true, Value.slice.injEq] at hc
  obtain ⟨rfl, rfl, rfl⟩ := hc
  have hbk : bulk (.slice (.agg (.pair (.int .u32) (.pair (.int .u32) (.pair (.slice (.int .u8) 1) .unit)))) 32) x = (List.map (bulk (.agg (.pair (.int .u32) (.pair (.int .u32) (.pair (.slice (.int .u8) 1) .unit))))) x).sum + 1 := rfl
  rw [hbk] at hb
  have hel : ∀ i, i < List.length x → ∃ r : Hr, r.Good h ∧ (∀ y, x[i]? = some y → 4 + r.d.length ≤ bulk (.agg (.pair (.int .u32) (.pair (.int .u32) (.pair (.slice (.int .u8) 1) .unit)))) y) ∧ ∃ ad, A = some ad ∧ ∀ (j : Nat) u, r.cells[j]? = some u → cellH h (ad.add (i * 3 + j)) = some u := by
    intro i hi
    obtain ⟨ad, hA, hx⟩ := h3 (by omega)
    have hy : x[i]? = some x[i] := List.getElem?_eq_getElem hi
    have hmem : bulk (.agg (.pair (.int .u32) (.pair (.int .u32) (.pair (.slice (.int .u8) 1) .unit)))) x[i] ≤ (List.map (bulk (.agg (.pair (.int .u32) (.pair (.int .u32) (.pair (.slice (.int .u8) 1) .unit))))) x).sum := le_sum (List.mem_map_of_mem (List.getElem_mem hi))
    generalize x[i] = y at *
    obtain ⟨cs', _, hcell, hse⟩ := hx i y hy
    obtain ⟨op, kd, d, u⟩ := y
    have e : bulk (.agg (.pair (.int .u32) (.pair (.int .u32) (.pair (.slice (.int .u8) 1) .unit)))) (op, kd, d, u) = 1 + (1 + ((List.map (bulk (.int .u8)) d).sum + 1 + 0)) + 1 := rfl
    rw [bulk_ints] at e
    obtain ⟨q0, r0, rfl, _, ⟨rfl, hb0⟩, q1, r1, rfl, _, ⟨rfl, hb1⟩, q9, r9, rfl, _, hs9, rfl⟩ := hse
    obtain ⟨A0, c0, rfl, _, _, _⟩ := id hs9
    obtain ⟨_, hr0, hc0, _, hw0⟩ := sees_ints hs9
    have g0 := bounds_u32 hb0
    have g1 := bounds_u32 hb1
    dsimp only at g0 g1 hr0 hc0 hw0
    refine ⟨⟨op, kd, A0, c0, d⟩, ⟨⟨by dsimp only; omega, by dsimp only; omega, by dsimp only; omega, by dsimp only; omega⟩, hr0, kv_byt hw0, hc0, by dsimp only; omega⟩, fun y' hy' => ?_, ad, hA, fun j v hv => hcell j v hv⟩
    rw [hy] at hy'
    injection hy' with hy'
    subst hy'
    rw [e]
    dsimp only
    omega
  obtain ⟨rs, hlen, hR⟩ := list_of (List.length x) hel
  have hsum : (rs.map fun r => 20 + r.d.length).sum ≤ (x.map fun y => 8 * bulk (.agg (.pair (.int .u32) (.pair (.int .u32) (.pair (.slice (.int .u8) 1) .unit)))) y).sum := sum_le _ _ rs x hlen fun i r y hr hy => by
    have := (hR i r hr).2.1 y hy
    omega
  have hmul : (x.map fun y => 8 * bulk (.agg (.pair (.int .u32) (.pair (.int .u32) (.pair (.slice (.int .u8) 1) .unit)))) y).sum = 8 * (List.map (bulk (.agg (.pair (.int .u32) (.pair (.int .u32) (.pair (.slice (.int .u8) 1) .unit))))) x).sum := sum_eight _ _
  have hn : rs.length * 20 ≤ (rs.map fun r => 20 + r.d.length).sum := sum_least _ _ _
  refine ⟨h1, rs, hlen, fun r hr => ?_, by omega, by omega, ?_, fun hpos => ?_⟩
  · obtain ⟨i, hi⟩ := List.getElem?_of_mem hr
    exact (hR i r hi).1
  · rw [flat_len Hr.cells 3 Hr.cells_len, hlen]
  · have h0 : rs[0]? = some rs[0] := List.getElem?_eq_getElem (by omega)
    obtain ⟨_, _, ad, hA, hc0⟩ := hR 0 _ h0
    refine ⟨ad, hA, ?_, fun j u hu => ?_⟩
    · have := cellH_lt (hc0 0 _ rfl)
      rwa [add_block] at this
    · have hj : j = j / 3 * 3 + j % 3 := by omega
      rw [hj, flat_get Hr.cells 3 Hr.cells_len _ _ _ (by omega)] at hu
      cases hi : rs[j / 3]? with
      | none => rw [hi] at hu; cases hu
      | some r =>
        rw [hi] at hu
        obtain ⟨_, _, ad', hA', hc⟩ := hR _ r hi
        rw [hA] at hA'
        injection hA' with hA'
        subst hA'
        rw [hj]
        exact hc _ u hu

theorem sees_talk {h : Array Obj} {cs0 : Array Value} {x0 : Sh.V (.agg (.pair (.int .u32) (.pair (.slice (.agg (.pair (.int .u32) (.pair (.slice (.int .u8) 1) .unit))) 32) (.pair (.slice (.agg (.pair (.int .u32) (.pair (.int .u32) (.pair (.slice (.int .u8) 1) .unit)))) 32) (.pair (.int .u64) (.pair .bool .unit))))))} (s0 : Sees h (.agg (.pair (.int .u32) (.pair (.slice (.agg (.pair (.int .u32) (.pair (.slice (.int .u8) 1) .unit))) 32) (.pair (.slice (.agg (.pair (.int .u32) (.pair (.int .u32) (.pair (.slice (.int .u8) 1) .unit)))) 32) (.pair (.int .u64) (.pair .bool .unit)))))) cs0.toList x0) (hb : bulk (.agg (.pair (.int .u32) (.pair (.slice (.agg (.pair (.int .u32) (.pair (.slice (.int .u8) 1) .unit))) 32) (.pair (.slice (.agg (.pair (.int .u32) (.pair (.int .u32) (.pair (.slice (.int .u8) 1) .unit)))) 32) (.pair (.int .u64) (.pair .bool .unit)))))) x0 ≤ 1048576) :
    ∃ (fl : Int) (Ao : Option Addr) (no co : Nat) (Ar : Option Addr) (nr cr : Nat) (sz : Int) (nn : Bool) (os : List Ho) (rs : List Hr), cs0 = #[.int .u32 fl, .slice Ao no co, .slice Ar nr cr, .int .u64 sz, .bool nn] ∧ (0 ≤ fl ∧ fl < 4294967296) ∧ (0 ≤ sz ∧ sz < 18446744073709551616) ∧
      os.length = no ∧ (∀ r ∈ os, r.Good h) ∧ (os.map fun r => 16 + r.d.length).sum ≤ 8388608 ∧ no ≤ 1048576 ∧ Rd h (fun b => b < h.size) 2 Ao no (os.flatMap Ho.cells) ∧
      rs.length = nr ∧ (∀ r ∈ rs, r.Good h) ∧ (rs.map fun r => 20 + r.d.length).sum ≤ 8388608 ∧ nr ≤ 1048576 ∧ Rd h (fun b => b < h.size) 3 Ar nr (rs.flatMap Hr.cells) := by
  obtain ⟨fl, xo, xr, sz, nn, u⟩ := x0
  have e : bulk (.agg (.pair (.int .u32) (.pair (.slice (.agg (.pair (.int .u32) (.pair (.slice (.int .u8) 1) .unit))) 32) (.pair (.slice (.agg (.pair (.int .u32) (.pair (.int .u32) (.pair (.slice (.int .u8) 1) .unit)))) 32) (.pair (.int .u64) (.pair .bool .unit)))))) (fl, xo, xr, sz, nn, u) = 1 + (bulk (.slice (.agg (.pair (.int .u32) (.pair (.slice (.int .u8) 1) .unit))) 32) xo + (bulk (.slice (.agg (.pair (.int .u32) (.pair (.int .u32) (.pair (.slice (.int .u8) 1) .unit)))) 32) xr + (1 + (1 + 0)))) + 1 := rfl
  rw [e] at hb
  have b2 : bulk (.slice (.agg (.pair (.int .u32) (.pair (.slice (.int .u8) 1) .unit))) 32) xo ≤ 1048576 := by omega
  have b3 : bulk (.slice (.agg (.pair (.int .u32) (.pair (.int .u32) (.pair (.slice (.int .u8) 1) .unit)))) 32) xr ≤ 1048576 := by omega
  obtain ⟨q1, r1, hcs, hl1, ⟨rfl, hb1⟩, q2, r2, rfl, hl2, hs2, q3, r3, rfl, hl3, hs3, q4, r4, rfl, hl4, ⟨rfl, hb4⟩, q5, r5, rfl, hl5, rfl, rfl⟩ := s0
  obtain ⟨Ao, co, rfl, _, _, _⟩ := id hs2
  obtain ⟨Ar, cr, rfl, _, _, _⟩ := id hs3
  obtain ⟨_, os, o1, o2, o3, o4, o5⟩ := sees_Hos hs2 b2
  obtain ⟨_, rs, p1, p2, p3, p4, p5⟩ := sees_Hrs hs3 b3
  have g1 := bounds_u32 hb1
  have g4 := bounds_u64 hb4
  exact ⟨fl, Ao, _, co, Ar, _, cr, sz, nn, os, rs, by apply Array.toList_inj.1; rw [hcs]; rfl, by dsimp only at g1; omega, by dsimp only at g4; omega, o1, o2, o3, o4, o5, p1, p2, p3, p4, p5⟩
end Go.Proofs.Ytgepekailoopeaa
