/-
  Rows of requests, and of replies, that come in: element by element.
-/
import Derived.Test.YtbfcnbggkcaolaaReqLaw2
import Derived.Test.YtbfcnbggkcaolaaReqSees
namespace Go.Proofs.Ytbfcnbggkcaolaa
open Go.RowKit
set_option linter.unusedVariables false
set_option linter.unusedSimpArgs false

theorem flat_get {α : Type} (f : α → List Value) (k : Nat) (hf : ∀ x, (f x).length = k) : ∀ (l : List α) (i j : Nat), j < k → (l.flatMap f)[i * k + j]? = (l[i]?).bind fun x => (f x)[j]? := by
  intro l
  induction l with
  | nil => intro i j _; simp
  | cons x l ih =>
    intro i j hj
    rw [List.flatMap_cons]
    cases i with
    | zero =>
      rw [Nat.zero_mul, Nat.zero_add, List.getElem?_append_left (by rw [hf]; exact hj)]
      simp
    | succ i =>
      rw [List.getElem?_append_right (by rw [hf, Nat.succ_mul]; omega), hf, show (i + 1) * k + j - k = i * k + j by rw [Nat.succ_mul]; omega, ih i j hj]
      simp
theorem flat_len {α β : Type} (f : α → List β) (k : Nat) (hf : ∀ x, (f x).length = k) : ∀ l : List α, (l.flatMap f).length = l.length * k := by
  intro l
  induction l with
  | nil => simp
  | cons x l ih => rw [List.flatMap_cons, List.length_append, hf, ih, List.length_cons, Nat.succ_mul]; omega
theorem le_sum {x : Nat} : ∀ {l : List Nat}, x ∈ l → x ≤ l.sum := by
  intro l
  induction l with
  | nil => intro h; cases h
  | cons y l ih =>
    intro h
    rw [List.sum_cons]
    rcases List.mem_cons.1 h with h | h
    · omega
    · have := ih h; omega
theorem sum_four {α : Type} (f : α → Nat) : ∀ l : List α, (l.map fun y => 4 * f y).sum = 4 * (l.map f).sum := by
  intro l
  induction l with
  | nil => rfl
  | cons x l ih => simp only [List.map_cons, List.sum_cons, ih]; omega
theorem sum_least {α : Type} (f : α → Nat) (k : Nat) : ∀ l : List α, l.length * k ≤ (l.map fun y => k + f y).sum := by
  intro l
  induction l with
  | nil => simp
  | cons x l ih => simp only [List.map_cons, List.sum_cons, List.length_cons, Nat.succ_mul]; omega
theorem bulk_ints (k : IntKind) (l : List Int) : (List.map (bulk (.int k)) l).sum = l.length := by
  induction l with
  | nil => rfl
  | cons x l ih => rw [List.map_cons, List.sum_cons, ih, List.length_cons]; show 1 + _ = _; omega

structure Rq where
  fl : Int
  kd : Int
  ck : Int
  off : Int
  len : Int
  A : Option Addr
  c : Nat
  d : List Int
def Rq.cells (r : Rq) : List Value := [.int .i64 r.fl, .int .i64 r.kd, .int .u64 r.ck, .int .u64 r.off, .int .u32 r.len, .slice r.A r.d.length r.c]
abbrev Rq.val (r : Rq) : Value := .agg #[.int .i64 r.fl, .int .i64 r.kd, .int .u64 r.ck, .int .u64 r.off, .int .u32 r.len, .slice r.A r.d.length r.c]
def Rq.bytes (r : Rq) : List Int := reqBytes r.fl r.kd r.ck r.off r.len r.d
def Rq.err (r : Rq) : Int := reqErr r.fl r.kd r.len r.d
def Rq.Fit (r : Rq) : Prop := -9223372036854775808 ≤ r.fl ∧ r.fl < 9223372036854775808 ∧ -9223372036854775808 ≤ r.kd ∧ r.kd < 9223372036854775808 ∧ 0 ≤ r.ck ∧ r.ck < 18446744073709551616 ∧ 0 ≤ r.off ∧ r.off < 18446744073709551616 ∧ 0 ≤ r.len ∧ r.len < 4294967296
def Rq.Good (h : Array Obj) (r : Rq) : Prop := r.Fit ∧ Rd h (fun b => b < h.size) 1 r.A r.d.length (by8 r.d) ∧ Byt r.d ∧ r.d.length ≤ r.c ∧ r.d.length ≤ 1048576
theorem Rq.cells_len (r : Rq) : r.cells.length = 6 := rfl

set_option maxHeartbeats 1000000 in
theorem sees_Rqs {h : Array Obj} {A : Option Addr} {n c : Nat} {x : Sh.V (.slice (.agg (.pair (.int .i64) (.pair (.int .i64) (.pair (.int .u64) (.pair (.int .u64) (.pair (.int .u32) (.pair (.slice (.int .u8) 1) .unit))))))) 64)} (hs : Sees h (.slice (.agg (.pair (.int .i64) (.pair (.int .i64) (.pair (.int .u64) (.pair (.int .u64) (.pair (.int .u32) (.pair (.slice (.int .u8) 1) .unit))))))) 64) [.slice A n c] x) (hb : bulk (.slice (.agg (.pair (.int .i64) (.pair (.int .i64) (.pair (.int .u64) (.pair (.int .u64) (.pair (.int .u32) (.pair (.slice (.int .u8) 1) .unit))))))) 64) x ≤ 1048576) :
    n ≤ c ∧ ∃ rs : List Rq, rs.length = n ∧ (∀ r ∈ rs, r.Good h) ∧ (rs.map fun r => 28 + r.d.length).sum ≤ 4194304 ∧ n ≤ 1048576 ∧ Rd h (fun b => b < h.size) 6 A n (rs.flatMap Rq.cells) := by
  obtain ⟨A', c', hc, h1, h2, h3⟩ := hs
  simp only [List.cons.injEq, and_true, Value.slice.injEq] at hc
  obtain ⟨rfl, rfl, rfl⟩ := hc
  have hbk : bulk (.slice (.agg (.pair (.int .i64) (.pair (.int .i64) (.pair (.int .u64) (.pair (.int .u64) (.pair (.int .u32) (.pair (.slice (.int .u8) 1) .unit))))))) 64) x = (List.map (bulk (.agg (.pair (.int .i64) (.pair (.int .i64) (.pair (.int .u64) (.pair (.int .u64) (.pair (.int .u32) (.pair (.slice (.int .u8) 1) .unit)))))))) x).sum + 1 := rfl
  rw [hbk] at hb
  have hel : ∀ i, i < List.length x → ∃ r : Rq, r.Good h ∧ (∀ y, x[i]? = some y → 7 + r.d.length ≤ bulk (.agg (.pair (.int .i64) (.pair (.int .i64) (.pair (.int .u64) (.pair (.int .u64) (.pair (.int .u32) (.pair (.slice (.int .u8) 1) .unit))))))) y) ∧ ∃ ad, A = some ad ∧ ∀ (j : Nat) u, r.cells[j]? = some u → cellH h (ad.add (i * 6 + j)) = some u := by
    intro i hi
    obtain ⟨ad, hA, hx⟩ := h3 (by omega)
    have hy : x[i]? = some x[i] := List.getElem?_eq_getElem hi
    have hmem : bulk (.agg (.pair (.int .i64) (.pair (.int .i64) (.pair (.int .u64) (.pair (.int .u64) (.pair (.int .u32) (.pair (.slice (.int .u8) 1) .unit))))))) x[i] ≤ (List.map (bulk (.agg (.pair (.int .i64) (.pair (.int .i64) (.pair (.int .u64) (.pair (.int .u64) (.pair (.int .u32) (.pair (.slice (.int .u8) 1) .unit)))))))) x).sum := le_sum (List.mem_map_of_mem (List.getElem_mem hi))
    generalize x[i] = y at *
    obtain ⟨cs', _, hcell, hse⟩ := hx i y hy
    obtain ⟨fl, kd, ck, off, len, d, u⟩ := y
    have e : bulk (.agg (.pair (.int .i64) (.pair (.int .i64) (.pair (.int .u64) (.pair (.int .u64) (.pair (.int .u32) (.pair (.slice (.int .u8) 1) .unit))))))) (fl, kd, ck, off, len, d, u) = 1 + (1 + (1 + (1 + (1 + ((List.map (bulk (.int .u8)) d).sum + 1 + 0))))) + 1 := rfl
    rw [bulk_ints] at e
    obtain ⟨q0, r0, rfl, _, ⟨rfl, hb0⟩, q1, r1, rfl, _, ⟨rfl, hb1⟩, q2, r2, rfl, _, ⟨rfl, hb2⟩, q3, r3, rfl, _, ⟨rfl, hb3⟩, q4, r4, rfl, _, ⟨rfl, hb4⟩, q9, r9, rfl, _, hs9, rfl⟩ := hse
    obtain ⟨A0, c0, rfl, _, _, _⟩ := id hs9
    obtain ⟨_, hr0, hc0, _, hw0⟩ := sees_ints hs9
    have g0 := bounds_i64 hb0
    have g1 := bounds_i64 hb1
    have g2 := bounds_u64 hb2
    have g3 := bounds_u64 hb3
    have g4 := bounds_u32 hb4
    dsimp only at g0 g1 g2 g3 g4 hr0 hc0 hw0
    refine ⟨⟨fl, kd, ck, off, len, A0, c0, d⟩, ⟨⟨by dsimp only; omega, by dsimp only; omega, by dsimp only; omega, by dsimp only; omega, by dsimp only; omega, by dsimp only; omega, by dsimp only; omega, by dsimp only; omega, by dsimp only; omega, by dsimp only; omega⟩, hr0, kv_byt hw0, hc0, by dsimp only; omega⟩, fun y' hy' => ?_, ad, hA, fun j v hv => hcell j v hv⟩
    rw [hy] at hy'
    injection hy' with hy'
    subst hy'
    rw [e]
    dsimp only
    omega
  obtain ⟨rs, hlen, hR⟩ := list_of (List.length x) hel
  have hsum : (rs.map fun r => 28 + r.d.length).sum ≤ (x.map fun y => 4 * bulk (.agg (.pair (.int .i64) (.pair (.int .i64) (.pair (.int .u64) (.pair (.int .u64) (.pair (.int .u32) (.pair (.slice (.int .u8) 1) .unit))))))) y).sum := sum_le _ _ rs x hlen fun i r y hr hy => by
    have := (hR i r hr).2.1 y hy
    omega
  have hmul : (x.map fun y => 4 * bulk (.agg (.pair (.int .i64) (.pair (.int .i64) (.pair (.int .u64) (.pair (.int .u64) (.pair (.int .u32) (.pair (.slice (.int .u8) 1) .unit))))))) y).sum = 4 * (List.map (bulk (.agg (.pair (.int .i64) (.pair (.int .i64) (.pair (.int .u64) (.pair (.int .u64) (.pair (.int .u32) (.pair (.slice (.int .u8) 1) .unit)))))))) x).sum := sum_four _ _
  have hn : rs.length * 28 ≤ (rs.map fun r => 28 + r.d.length).sum := sum_least _ _ _
  refine ⟨h1, rs, hlen, fun r hr => ?_, by omega, by omega, ?_, fun hpos => ?_⟩
  · obtain ⟨i, hi⟩ := List.getElem?_of_mem hr
    exact (hR i r hi).1
  · rw [flat_len Rq.cells 6 Rq.cells_len, hlen]
  · have h0 : rs[0]? = some rs[0] := List.getElem?_eq_getElem (by omega)
    obtain ⟨_, _, ad, hA, hc0⟩ := hR 0 _ h0
    refine ⟨ad, hA, ?_, fun j u hu => ?_⟩
    · have := cellH_lt (hc0 0 _ rfl)
      rwa [add_block] at this
    · have hj : j = j / 6 * 6 + j % 6 := by omega
      rw [hj, flat_get Rq.cells 6 Rq.cells_len _ _ _ (by omega)] at hu
      cases hi : rs[j / 6]? with
      | none => rw [hi] at hu; cases hu
      | some r =>
        rw [hi] at hu
        obtain ⟨_, _, ad', hA', hc⟩ := hR _ r hi
        rw [hA] at hA'
        injection hA' with hA'
        subst hA'
        rw [hj]
        exact hc _ u hu

structure Rr where
  er : Int
  ck : Int
  A : Option Addr
  c : Nat
  d : List Int
def Rr.cells (r : Rr) : List Value := [.int .u32 r.er, .int .u64 r.ck, .slice r.A r.d.length r.c]
abbrev Rr.val (r : Rr) : Value := .agg #[.int .u32 r.er, .int .u64 r.ck, .slice r.A r.d.length r.c]
def Rr.bytes (r : Rr) : List Int := repBytes r.er r.ck r.d
def Rr.err (r : Rr) : Int := repErr r.er r.d
def Rr.Fit (r : Rr) : Prop := 0 ≤ r.er ∧ r.er < 4294967296 ∧ 0 ≤ r.ck ∧ r.ck < 18446744073709551616
def Rr.Good (h : Array Obj) (r : Rr) : Prop := r.Fit ∧ Rd h (fun b => b < h.size) 1 r.A r.d.length (by8 r.d) ∧ Byt r.d ∧ r.d.length ≤ r.c ∧ r.d.length ≤ 1048576
theorem Rr.cells_len (r : Rr) : r.cells.length = 3 := rfl

set_option maxHeartbeats 1000000 in
theorem sees_Rrs {h : Array Obj} {A : Option Addr} {n c : Nat} {x : Sh.V (.slice (.agg (.pair (.int .u32) (.pair (.int .u64) (.pair (.slice (.int .u8) 1) .unit)))) 40)} (hs : Sees h (.slice (.agg (.pair (.int .u32) (.pair (.int .u64) (.pair (.slice (.int .u8) 1) .unit)))) 40) [.slice A n c] x) (hb : bulk (.slice (.agg (.pair (.int .u32) (.pair (.int .u64) (.pair (.slice (.int .u8) 1) .unit)))) 40) x ≤ 1048576) :
    n ≤ c ∧ ∃ rs : List Rr, rs.length = n ∧ (∀ r ∈ rs, r.Good h) ∧ (rs.map fun r => 16 + r.d.length).sum ≤ 4194304 ∧ n ≤ 1048576 ∧ Rd h (fun b => b < h.size) 3 A n (rs.flatMap Rr.cells) := by
  obtain ⟨A', c', hc, h1, h2, h3⟩ := hs
  simp only [List.cons.injEq, and_true, Value.slice.injEq] at hc
  obtain ⟨rfl, rfl, rfl⟩ := hc
  have hbk : bulk (.slice (.agg (.pair (.int .u32) (.pair (.int .u64) (.pair (.slice (.int .u8) 1) .unit)))) 40) x = (List.map (bulk (.agg (.pair (.int .u32) (.pair (.int .u64) (.pair (.slice (.int .u8) 1) .unit))))) x).sum + 1 := rfl
  rw [hbk] at hb
  have hel : ∀ i, i < List.length x → ∃ r : Rr, r.Good h ∧ (∀ y, x[i]? = some y → 4 + r.d.length ≤ bulk (.agg (.pair (.int .u32) (.pair (.int .u64) (.pair (.slice (.int .u8) 1) .unit)))) y) ∧ ∃ ad, A = some ad ∧ ∀ (j : Nat) u, r.cells[j]? = some u → cellH h (ad.add (i * 3 + j)) = some u := by
    intro i hi
    obtain ⟨ad, hA, hx⟩ := h3 (by omega)
    have hy : x[i]? = some x[i] := List.getElem?_eq_getElem hi
    have hmem : bulk (.agg (.pair (.int .u32) (.pair (.int .u64) (.pair (.slice (.int .u8) 1) .unit)))) x[i] ≤ (List.map (bulk (.agg (.pair (.int .u32) (.pair (.int .u64) (.pair (.slice (.int .u8) 1) .unit))))) x).sum := le_sum (List.mem_map_of_mem (List.getElem_mem hi))
    generalize x[i] = y at *
    obtain ⟨cs', _, hcell, hse⟩ := hx i y hy
    obtain ⟨er, ck, d, u⟩ := y
    have e : bulk (.agg (.pair (.int .u32) (.pair (.int .u64) (.pair (.slice (.int .u8) 1) .unit)))) (er, ck, d, u) = 1 + (1 + ((List.map (bulk (.int .u8)) d).sum + 1 + 0)) + 1 := rfl
    rw [bulk_ints] at e
    obtain ⟨q0, r0, rfl, _, ⟨rfl, hb0⟩, q1, r1, rfl, _, ⟨rfl, hb1⟩, q9, r9, rfl, _, hs9, rfl⟩ := hse
    obtain ⟨A0, c0, rfl, _, _, _⟩ := id hs9
    obtain ⟨_, hr0, hc0, _, hw0⟩ := sees_ints hs9
    have g0 := bounds_u32 hb0
    have g1 := bounds_u64 hb1
    dsimp only at g0 g1 hr0 hc0 hw0
    refine ⟨⟨er, ck, A0, c0, d⟩, ⟨⟨by dsimp only; omega, by dsimp only; omega, by dsimp only; omega, by dsimp only; omega⟩, hr0, kv_byt hw0, hc0, by dsimp only; omega⟩, fun y' hy' => ?_, ad, hA, fun j v hv => hcell j v hv⟩
    rw [hy] at hy'
    injection hy' with hy'
    subst hy'
    rw [e]
    dsimp only
    omega
  obtain ⟨rs, hlen, hR⟩ := list_of (List.length x) hel
  have hsum : (rs.map fun r => 16 + r.d.length).sum ≤ (x.map fun y => 4 * bulk (.agg (.pair (.int .u32) (.pair (.int .u64) (.pair (.slice (.int .u8) 1) .unit)))) y).sum := sum_le _ _ rs x hlen fun i r y hr hy => by
    have := (hR i r hr).2.1 y hy
    omega
  have hmul : (x.map fun y => 4 * bulk (.agg (.pair (.int .u32) (.pair (.int .u64) (.pair (.slice (.int .u8) 1) .unit)))) y).sum = 4 * (List.map (bulk (.agg (.pair (.int .u32) (.pair (.int .u64) (.pair (.slice (.int .u8) 1) .unit))))) x).sum := sum_four _ _
  have hn : rs.length * 16 ≤ (rs.map fun r => 16 + r.d.length).sum := sum_least _ _ _
  refine ⟨h1, rs, hlen, fun r hr => ?_, by omega, by omega, ?_, fun hpos => ?_⟩
  · obtain ⟨i, hi⟩ := List.getElem?_of_mem hr
    exact (hR i r hi).1
  · rw [flat_len Rr.cells 3 Rr.cells_len, hlen]
  · have h0 : rs[0]? = some rs[0] := List.getElem?_eq_getElem (by omega)
    obtain ⟨_, _, ad, hA, hc0⟩ := hR 0 _ h0
    refine ⟨ad, hA, ?_, fun j u hu => ?_⟩
    · have := cellH_lt (hc0 0 _ rfl)
      rwa [add_block] at this
    · have hj : j = j / 3 * 3 + j % 3 := by omega
      rw [hj, flat_get Rr.cells 3 Rr.cells_len _ _ _ (by omega)] at hu
      cases hi : rs[j / 3]? with
      | none => rw [hi] at hu; cases hu
      | some r =>
        rw [hi] at hu
        obtain ⟨_, _, ad', hA', hc⟩ := hR _ r hi
        rw [hA] at hA'
        injection hA' with hA'
        subst hA'
        rw [hj]
        exact hc _ u hu
end Go.Proofs.Ytbfcnbggkcaolaa
