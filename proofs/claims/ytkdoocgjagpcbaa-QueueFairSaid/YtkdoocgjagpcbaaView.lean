/-
  What comes in, as plain values: shapes of types, what a list of cells says in a shape, and that every datum that the form reads is seen so (with the form's two bounds: the reach, the bulk).
-/
import Derived.Test.YtkdoocgjagpcbaaRows
import Derived.Test.YtkdoocgjagpcbaaSep
import Derived.ProofKit
import Derived.OpenShut
import Derived.SizedLaws
import Derived.DataReads
import Derived.DataShut
namespace Go.Proofs.Ytkdoocgjagpcbaa
open Go.RowKit Go.WideShapes
set_option linter.unusedVariables false
set_option linter.unusedSimpArgs false

inductive Sh where
  | int (k : IntKind) | bool | str | slice (e : Sh) (bytes : Nat) | agg (c : Sh) | unit | pair (a b : Sh)

def Sh.cells : Sh → Nat
  | .int _ => 1 | .bool => 1 | .str => 1 | .slice _ _ => 1 | .agg c => c.cells | .unit => 0 | .pair a b => a.cells + b.cells
@[reducible] def Sh.V : Sh → Type
  | .int _ => Int | .bool => Bool | .str => ByteArray | .slice e _ => List e.V | .agg c => c.V | .unit => Unit | .pair a b => a.V × b.V

/-- the cells cs say v in this shape -/
def Sees (h : Array Obj) : (s : Sh) → List Value → s.V → Prop
  | .int k, cs, n => cs = [.int k n] ∧ (Lit.int k n).wf = true
  | .bool, cs, b => cs = [.bool b]
  | .str, cs, s => cs = [.string s] ∧ s.size ≤ maxLen
  | .slice e _, cs, xs => ∃ (A : Option Addr) (c : Nat), cs = [.slice A (List.length xs) c] ∧ List.length xs ≤ c ∧ c ≤ maxLen ∧
      (0 < List.length xs → ∃ ad, A = some ad ∧ ∀ (i : Nat) (x : e.V), xs[i]? = some x → ∃ cs', cs'.length = e.cells ∧ (∀ (j : Nat) u, cs'[j]? = some u → cellH h (ad.add (i * e.cells + j)) = some u) ∧ Sees h e cs' x)
  | .agg c, cs, x => Sees h c cs x
  | .unit, cs, _ => cs = []
  | .pair a b, cs, x => ∃ c1 c2, cs = c1 ++ c2 ∧ c1.length = a.cells ∧ Sees h a c1 x.1 ∧ Sees h b c2 x.2

def Sh.one : Sh → Bool
  | .unit => false | .pair _ _ => false | _ => true
def offs (P : Program) : List Field → Nat → Bool
  | [], _ => true
  | f :: fs, n => f.offset == n && offs P fs (n + P.cellsOf f.type)
def fits (P : Program) : Sh → List TypeId → Bool
  | .int k, [t] => match P.underlying t with | some (.int k') => decide (k' = k) | _ => false
  | .bool, [t] => match P.underlying t with | some .bool => true | _ => false
  | .str, [t] => match P.underlying t with | some .string => true | _ => false
  | .slice e b, [t] => match P.underlying t with | some (.slice e') => e.one && fits P e [e'] && P.cellsOf e' == e.cells && P.bytesOf e' == b | _ => false
  | .agg c, [t] => match P.underlying t with
    | some (.struct fs) => offs P fs.toList 0 && !c.one && fits P c (fs.toList.map (·.type)) && P.cellsOf t == c.cells
    | some (.array n e) => !c.one && fits P c (List.replicate n e) && P.cellsOf t == c.cells
    | _ => false
  | .pair a b, t :: ts => a.one && !b.one && P.cellsOf t == a.cells && fits P a [t] && fits P b ts
  | .unit, [] => true
  | _, _ => false

/-- the form's reach, of all that is seen -/
def Light : (s : Sh) → s.V → Prop
  | .int _, _ => True | .bool, _ => True
  | .str, s => ByteArray.size s ≤ 140737488351232
  | .slice e b, xs => List.length xs * b ≤ 140737488351232 ∧ ∀ x ∈ xs, Light e x
  | .agg c, x => Light c x
  | .unit, _ => True
  | .pair a b, x => Light a x.1 ∧ Light b x.2
def bulk : (s : Sh) → s.V → Nat
  | .int _, _ => 1 | .bool, _ => 1
  | .str, s => ByteArray.size s + 1
  | .slice e _, xs => (List.map (bulk e) xs).sum + 1
  | .agg c, x => bulk c x + 1
  | .unit, _ => 0
  | .pair a b, x => bulk a x.1 + bulk b x.2

theorem list_of {α : Type} {R : Nat → α → Prop} (n : Nat) (h : ∀ i, i < n → ∃ v, R i v) : ∃ xs : List α, xs.length = n ∧ ∀ i x, xs[i]? = some x → R i x := by
  induction n with
  | zero => exact ⟨[], rfl, fun i x hx => by simp at hx⟩
  | succ n ih =>
    obtain ⟨xs, hl, hx⟩ := ih fun i hi => h i (by omega)
    obtain ⟨v, hv⟩ := h n (by omega)
    refine ⟨xs ++ [v], by simp [hl], fun i x hi => ?_⟩
    rcases Nat.lt_or_ge i xs.length with h1 | h1
    · rw [List.getElem?_append_left h1] at hi; exact hx i x hi
    · rw [List.getElem?_append_right h1] at hi
      have h2 : i - xs.length = 0 := by
        rcases Nat.eq_zero_or_pos (i - xs.length) with h3 | h3
        · exact h3
        · rw [List.getElem?_eq_none (by simp; omega)] at hi; cases hi
      rw [h2] at hi
      simp at hi
      subst hi
      have : i = n := by omega
      subst this; exact hv

section
variable {H : Type} {enc : TypeId × Value → H} {P : Program} {w : World} {base : Nat} {spare : Nat → Bool} {held : Bool}

def offOf (P : Program) (ts : List TypeId) (i : Nat) : Nat := ((ts.take i).map P.cellsOf).sum
theorem offOf_zero (P : Program) (ts : List TypeId) : offOf P ts 0 = 0 := rfl
theorem offOf_succ (P : Program) (t : TypeId) (ts : List TypeId) (i : Nat) : offOf P (t :: ts) (i + 1) = P.cellsOf t + offOf P ts i := by simp [offOf]

def ViewA (H : Type) (enc : TypeId × Value → H) (P : Program) (w : World) (base : Nat) (spare : Nat → Bool) (held : Bool) (s : Sh) : Prop := s.one = true → ∀ (t : TypeId) (fuel : Nat) (cs : List Value) (x : DataW H × List MemPlace), fits P s [t] = true → DataW.trod enc P w base spare held fuel t cs = some x →
  ∃ v, Sees w.heap s cs v ∧ bulk s v ≤ Rows.uptoBulk x.1 ∧ ((∀ n ∈ x.1.weights P t, n ≤ reachBytes) → Light s v)
def ViewB (H : Type) (enc : TypeId × Value → H) (P : Program) (w : World) (base : Nat) (spare : Nat → Bool) (held : Bool) (s : Sh) : Prop := s.one = false → ∀ (ts : List TypeId) (n : Nat) (cs : List Value) (xs : List (DataW H × List MemPlace)), fits P s ts = true → cs.length = s.cells → xs.length = ts.length →
  (∀ (i : Nat) (t : TypeId), ts[i]? = some t → DataW.trod enc P w base spare held n t ((cs.drop (offOf P ts i)).take (P.cellsOf t)) = xs[i]?) →
  ∃ v, Sees w.heap s cs v ∧ bulk s v ≤ Rows.uptoBulkAll (xs.map (·.1)) ∧ ((∀ m ∈ DataW.weightsEach P ts (xs.map (·.1)), m ≤ reachBytes) → Light s v)

theorem offs_off : ∀ (fs : List Field) (n : Nat), offs P fs n = true → ∀ (i : Nat) (f : Field), fs[i]? = some f → f.offset = n + offOf P (fs.map (·.type)) i
  | [], _, _, _, _, hf => by simp at hf
  | g :: fs, n, h, 0, f, hf => by
    simp only [offs, Bool.and_eq_true, beq_iff_eq] at h
    simp only [List.getElem?_cons_zero, Option.some.injEq] at hf
    subst hf; simpa [offOf] using h.1
  | g :: fs, n, h, i + 1, f, hf => by
    simp only [offs, Bool.and_eq_true, beq_iff_eq] at h
    simp only [List.getElem?_cons_succ] at hf
    have := offs_off fs _ h.2 i f hf
    rw [List.map_cons, offOf_succ]; omega

theorem sum_le {α β : Type} (f : α → Nat) (g : β → Nat) : ∀ (l : List α) (m : List β), l.length = m.length → (∀ (i : Nat) x y, l[i]? = some x → m[i]? = some y → f x ≤ g y) → (l.map f).sum ≤ (m.map g).sum
  | [], [], _, _ => by simp
  | x :: l, y :: m, hl, h => by
    have h1 := h 0 x y rfl rfl
    have h2 := sum_le f g l m (by simpa using hl) fun i a b ha hb => h (i + 1) a b (by simpa using ha) (by simpa using hb)
    simp; omega
  | [], _ :: _, hl, _ => by simp at hl
  | _ :: _, [], hl, _ => by simp at hl
theorem bulkAll_sum {H : Type} : ∀ l : List (DataW H), Rows.uptoBulkAll l = (l.map Rows.uptoBulk).sum
  | [] => by simp [Rows.uptoBulkAll]
  | d :: l => by simp [Rows.uptoBulkAll, bulkAll_sum l]
theorem weightsAll_mem {e : TypeId} : ∀ (l : List (DataW H)) (d : DataW H), d ∈ l → ∀ n ∈ d.weights P e, n ∈ DataW.weightsAll P e l
  | x :: l, d, hd, n, hn => by
    simp only [DataW.weightsAll, List.mem_append]
    rcases List.mem_cons.1 hd with rfl | hd
    · exact .inl hn
    · exact .inr (weightsAll_mem l d hd n hn)
theorem weightsAll_each {e : TypeId} : ∀ (l : List (DataW H)), DataW.weightsAll P e l = DataW.weightsEach P (List.replicate l.length e) l
  | [] => by simp [DataW.weightsAll, DataW.weightsEach]
  | d :: l => by simp [DataW.weightsAll, DataW.weightsEach, List.replicate_succ, weightsAll_each l]
theorem offOf_rep (e : TypeId) : ∀ (n i : Nat), i ≤ n → offOf P (List.replicate n e) i = i * P.cellsOf e := by
  intro n i h
  simp [offOf, List.take_replicate, Nat.min_eq_left h]

theorem view (s : Sh) : ViewA H enc P w base spare held s ∧ ViewB H enc P w base spare held s := by
  induction s with
  | int k =>
    refine ⟨fun _ t fuel cs x hf h => ?_, fun h => by cases h⟩
    simp only [fits] at hf
    split at hf
    · rename_i k' hu
      have hk : k' = k := of_decide_eq_true hf
      subst hk
      obtain ⟨n, rfl, rfl, hw⟩ := DataW.trod_int hu h
      exact ⟨n, ⟨rfl, hw⟩, by simp [bulk, Rows.uptoBulk], fun _ => trivial⟩
    · cases hf
  | bool =>
    refine ⟨fun _ t fuel cs x hf h => ?_, fun h => by cases h⟩
    simp only [fits] at hf
    split at hf
    · rename_i hu
      obtain ⟨b, rfl, rfl⟩ := DataW.trod_bool hu h
      exact ⟨b, rfl, by simp [bulk, Rows.uptoBulk], fun _ => trivial⟩
    · cases hf
  | str =>
    refine ⟨fun _ t fuel cs x hf h => ?_, fun h => by cases h⟩
    simp only [fits] at hf
    split at hf
    · rename_i hu
      obtain ⟨s, rfl, rfl, hs⟩ := DataW.trod_string hu h
      have hl : s.data.toList.length = s.size := by rw [Array.length_toList]; rfl
      refine ⟨s, ⟨rfl, hs⟩, by simp only [bulk, Rows.uptoBulk, hl]; exact Nat.le_refl _, fun hw => ?_⟩
      have := hw s.data.toList.length (by simp [DataW.weights])
      rw [hl] at this
      exact this
    · cases hf
  | slice e b ih =>
    refine ⟨fun _ t fuel cs x hf h => ?_, fun h => by cases h⟩
    simp only [fits] at hf
    split at hf
    · rename_i e' hu
      simp only [Bool.and_eq_true, beq_iff_eq] at hf
      obtain ⟨⟨⟨hone, hfe⟩, hce⟩, hbe⟩ := hf
      rcases DataW.trod_slice hu h with ⟨rfl, rfl⟩ | ⟨a, len, cap, elems, rest, n, _, rfl, rfl, hb, hl, hm, hlen, hel, hsp, hns⟩
      · exact ⟨[], ⟨none, 0, rfl, Nat.le_refl _, Nat.zero_le _, fun h => absurd h (by simp)⟩, by simp [bulk, Rows.uptoBulk], fun _ => ⟨by simp, fun x hx => by cases hx⟩⟩
      · have key : ∀ i, i < len → ∃ v, (∃ cs' y, w.cells? base (a.add (i * e.cells)) e.cells = some cs' ∧ elems[i]? = some y ∧ Sees w.heap e cs' v ∧ bulk e v ≤ Rows.uptoBulk y.1 ∧ ((∀ n ∈ y.1.weights P e', n ≤ reachBytes) → Light e v)) := by
          intro i hi
          have h1 := hel i hi
          have hi' : i < elems.length := by omega
          rw [List.getElem?_eq_getElem hi', Option.bind_eq_some_iff, hce] at h1
          obtain ⟨cs', h2, h3⟩ := h1
          obtain ⟨v, h4, h5, h6⟩ := ih.1 hone e' n cs' _ hfe h3
          exact ⟨v, cs', _, h2, List.getElem?_eq_getElem hi', h4, h5, h6⟩
        obtain ⟨vs, hvl, hv⟩ := list_of len key
        have hseen : ∀ (i : Nat) (x : e.V), vs[i]? = some x → ∃ cs', cs'.length = e.cells ∧ (∀ (j : Nat) u, cs'[j]? = some u → cellH w.heap (a.add (i * e.cells + j)) = some u) ∧ Sees w.heap e cs' x := by
          intro i x hx
          obtain ⟨cs', y, h1, h2, h3, _⟩ := hv i x hx
          obtain ⟨_, h5, h6⟩ := World.cells?_some h1
          refine ⟨cs', h5, fun j u hu => ?_, h3⟩
          have hj : j < e.cells := by
            rcases Nat.lt_or_ge j cs'.length with h7 | h7
            · omega
            · rw [List.getElem?_eq_none h7] at hu; cases hu
          have := h6 j hj
          rw [hu, add_add] at this
          exact this
        refine ⟨vs, ⟨some a, cap, by rw [hvl], by rw [hvl]; exact hl, hm, fun hpos => ⟨a, rfl, hseen⟩⟩, ?_, fun hw => ⟨?_, fun x hx => ?_⟩⟩
        · simp only [bulk, Rows.uptoBulk, bulkAll_sum]
          have := sum_le (bulk e) Rows.uptoBulk vs (elems.map (·.1)) (by simp; omega) (fun i x y hx hy => by
            obtain ⟨cs', z, _, h2, _, h3, _⟩ := hv i x hx
            rw [List.getElem?_map, h2] at hy
            simp at hy; subst hy; exact h3)
          have e1 : List.map Rows.uptoBulk (elems.map (·.1)) = List.map Rows.uptoBulk (elems.map (·.1)) := rfl
          show (List.map (bulk e) vs).sum + 1 ≤ _
          omega
        · have := hw (((elems.map (·.1)).length + (rest.map (·.1)).length) * P.bytesOf e') (by simp [DataW.weights, hu])
          rw [hbe] at this
          simp only [List.length_map, reachBytes] at this
          have h2 : vs.length * b ≤ (elems.length + rest.length) * b := Nat.mul_le_mul_right _ (by omega)
          exact Nat.le_trans h2 this
        · obtain ⟨i, hi, rfl⟩ := List.getElem_of_mem hx
          obtain ⟨cs', z, _, h2, _, _, h4⟩ := hv i _ (List.getElem?_eq_getElem hi)
          refine h4 fun n hn => hw n ?_
          simp only [DataW.weights, hu, List.mem_cons, List.mem_append]
          exact .inr (.inl (weightsAll_mem _ z.1 (List.mem_map.2 ⟨z, List.mem_of_getElem? h2, rfl⟩) n hn))
    · cases hf
  | agg c ih =>
    refine ⟨fun _ t fuel cs x hf h => ?_, fun h => by cases h⟩
    simp only [fits] at hf
    split at hf
    · rename_i fs hu
      simp only [Bool.and_eq_true, beq_iff_eq, Bool.not_eq_true'] at hf
      obtain ⟨⟨⟨hoff, hone⟩, hfc⟩, hcc⟩ := hf
      obtain ⟨xs, n, _, rfl, hcl, hxl, hx⟩ := DataW.trod_struct hu h
      obtain ⟨v, h1, h2, h3⟩ := ih.2 hone (fs.toList.map (·.type)) n cs xs hfc (by omega) (by simpa using hxl) (fun i t ht => by
        rw [List.getElem?_map, Option.map_eq_some_iff] at ht
        obtain ⟨f, hf1, rfl⟩ := ht
        have := offs_off fs.toList 0 hoff i f hf1
        rw [Nat.zero_add] at this
        rw [← this]
        exact hx i f (by simpa using hf1))
      refine ⟨v, h1, by simp only [bulk, Rows.uptoBulk]; omega, fun hw => h3 fun m hm => hw m ?_⟩
      simp only [DataW.weights, hu]
      exact hm
    · rename_i n e hu
      simp only [Bool.and_eq_true, beq_iff_eq, Bool.not_eq_true'] at hf
      obtain ⟨⟨hone, hfc⟩, hcc⟩ := hf
      obtain ⟨xs, m, _, rfl, hcl, hxl, hx⟩ := DataW.trod_array hu h
      obtain ⟨v, h1, h2, h3⟩ := ih.2 hone (List.replicate n e) m cs xs hfc (by omega) (by simpa using hxl) (fun i t ht => by
        rw [List.getElem?_replicate] at ht
        split at ht
        · rename_i hi
          injection ht with ht; subst ht
          rw [offOf_rep e n i (by omega)]
          exact hx i hi
        · cases ht)
      refine ⟨v, h1, by simp only [bulk, Rows.uptoBulk]; omega, fun hw => h3 fun m hm => hw m ?_⟩
      simp only [DataW.weights, hu, weightsAll_each]
      rw [← hxl] at hm
      simpa using hm
    · cases hf
  | unit =>
    refine ⟨(fun h => by cases h), fun _ ts n cs xs hf hl hx _ => ?_⟩
    cases ts with
    | nil =>
      obtain rfl : xs = [] := List.eq_nil_of_length_eq_zero hx
      obtain rfl : cs = [] := List.eq_nil_of_length_eq_zero hl
      exact ⟨(), rfl, by simp [bulk, Rows.uptoBulkAll], fun _ => trivial⟩
    | cons t ts => simp [fits] at hf
  | pair a b iha ihb =>
    refine ⟨(fun h => by cases h), fun _ ts n cs xs hf hl hx ht => ?_⟩
    cases ts with
    | nil => simp [fits] at hf
    | cons t ts =>
      cases xs with
      | nil => simp at hx
      | cons x xs =>
        simp only [fits, Bool.and_eq_true, beq_iff_eq, Bool.not_eq_true'] at hf
        obtain ⟨⟨⟨⟨hao, hbo⟩, hca⟩, hfa⟩, hfb⟩ := hf
        have h0 := ht 0 t rfl
        rw [offOf_zero, List.drop_zero] at h0
        obtain ⟨va, a1, a2, a3⟩ := iha.1 hao t n _ x hfa h0
        obtain ⟨vb, b1, b2, b3⟩ := ihb.2 hbo ts n (cs.drop (P.cellsOf t)) xs hfb (by rw [List.length_drop, hl, hca]; simp [Sh.cells]) (by simpa using hx) (fun i u hu => by
          have := ht (i + 1) u (by simpa using hu)
          rw [offOf_succ, ← List.drop_drop] at this
          simpa using this)
        refine ⟨(va, vb), ⟨cs.take (P.cellsOf t), cs.drop (P.cellsOf t), (List.take_append_drop _ _).symm, by rw [List.length_take, hl, hca]; simp [Sh.cells], a1, b1⟩, ?_, fun hw => ⟨a3 fun m hm => hw m ?_, b3 fun m hm => hw m ?_⟩⟩
        · simp only [bulk, List.map_cons, Rows.uptoBulkAll]; omega
        · simp only [List.map_cons, DataW.weightsEach, List.mem_append]; exact .inl hm
        · simp only [List.map_cons, DataW.weightsEach, List.mem_append]; exact .inr hm

/-- one argument, whatever its type -/
theorem view_arg {s : Sh} {t : TypeId} {v : Value} {d : DataW H} {p : List MemPlace} (hs : s.one = true) (hf : fits P s [t] = true) (h : DataW.Trod enc P w base spare held t v d p) :
    ∃ x, Sees w.heap s v.cells.toList x ∧ bulk s x ≤ Rows.uptoBulk d ∧ ((∀ n ∈ d.weights P t, n ≤ reachBytes) → Light s x) := by
  obtain ⟨fuel, hf'⟩ := h
  exact (view s).1 hs t fuel _ _ hf hf'
end

/-! ### slices of whole numbers -/
theorem sees_ints {h : Array Obj} {k : IntKind} {b n c : Nat} {A : Option Addr} {l : List Int} (hs : Sees h (.slice (.int k) b) [.slice A n c] l) :
    n = l.length ∧ Rd h (fun b => b < h.size) 1 A n (kv k l) ∧ n ≤ c ∧ c ≤ maxLen ∧ ∀ x ∈ l, (Lit.int k x).wf = true := by
  obtain ⟨A', c', hc, h1, h2, h3⟩ := hs
  simp only [List.cons.injEq, and_true, Value.slice.injEq] at hc
  obtain ⟨rfl, rfl, rfl⟩ := hc
  refine ⟨rfl, ⟨by simp [kv], fun hn => ?_⟩, h1, h2, fun x hx => ?_⟩
  · obtain ⟨ad, hA, hx⟩ := h3 hn
    have hcell : ∀ j u, (kv k l)[j]? = some u → cellH h (ad.add j) = some u := by
      intro j u hu
      rw [kv, List.getElem?_map, Option.map_eq_some_iff] at hu
      obtain ⟨x, hx', rfl⟩ := hu
      obtain ⟨cs', _, h5, h6, _⟩ := hx j x hx'
      have := h5 0 (.int k x) (by rw [h6]; rfl)
      simpa [Sh.cells] using this
    refine ⟨ad, hA, ?_, hcell⟩
    have h0 : l[0]? = some l[0] := List.getElem?_eq_getElem (by simpa using hn)
    have := cellH_lt (hcell 0 (.int k l[0]) (by simp [kv, h0]))
    rwa [add_block] at this
  · obtain ⟨i, hi, rfl⟩ := List.getElem_of_mem hx
    obtain ⟨ad, hA, hx⟩ := h3 (by omega)
    obtain ⟨cs', _, _, _, h7⟩ := hx i _ (List.getElem?_eq_getElem hi)
    exact h7
theorem kv_byt {l : List Int} (h : ∀ x ∈ l, (Lit.int .u8 x).wf = true) : ∀ x ∈ l, 0 ≤ x ∧ x < 256 := fun x hx => by
  have := bounds_u8 (h x hx)
  omega
/-- what came in, for a walk that begins in w -/
theorem Rb.came {w : World} {size n : Nat} {A : Option Addr} {xs : List Value} {L : List Asr} (h : Rd w.heap (fun b => b < w.heap.size) size A n xs) : Rb w (fun _ => False) L size A n xs :=
  .inl (h.mono fun _ hb => ⟨hb, fun e => e⟩)
end Go.Proofs.Ytkdoocgjagpcbaa
