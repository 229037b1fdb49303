/-
  A small separation logic over the model's heap: assertions with footprints (sets of blocks), a list of assertions that hold apart, and the steps that the walks use. No program is named here.
-/
import Derived.WalkKit
import Derived.Below
import Derived.Laws.OwnMore
import Derived.Laws.Rows
import Derived.Deep.Draws
import Derived.Maps.AppendAt
import Derived.RegionTactic
import Derived.OwnWalk
namespace Go.Proofs.Ytkdoocgjagpcbaa
open Go.RowKit
set_option linter.unusedVariables false
set_option linter.unusedSimpArgs false

/-- a fact that the walk does not look into -/
structure Aside (p : Prop) : Prop where mk :: (out : p)
theorem hid {p : Prop} (h : p) : Aside p := ⟨h⟩

/-! ### cells of a heap -/
def cellH (h : Array Obj) (a : Addr) : Option Value :=
  match h[a.block]? with
  | some (.cells c _ _) => if a.spot.isSome then none else c[a.off]?
  | _ => none
theorem cellH_same {h h' : Array Obj} {a : Addr} (e : h'[a.block]? = h[a.block]?) : cellH h' a = cellH h a := by unfold cellH; rw [e]
theorem add_block (a : Addr) (n : Nat) : (a.add n).block = a.block := by unfold Addr.add; split <;> rfl
theorem add_add (a : Addr) (i j : Nat) : (a.add i).add j = a.add (i + j) := by
  unfold Addr.add
  by_cases hi : i = 0 <;> by_cases hj : j = 0 <;> simp [hi, hj, Nat.add_assoc]
theorem add_at (g i : Nat) : (⟨g, 0, none⟩ : Addr).add i = ⟨g, i, none⟩ := by unfold Addr.add; split <;> simp_all
theorem cellH_lt {h : Array Obj} {a : Addr} {v : Value} (e : cellH h a = some v) : a.block < h.size := by
  rcases Nat.lt_or_ge a.block h.size with hlt | hge
  · exact hlt
  · unfold cellH at e; rw [Array.getElem?_eq_none hge] at e; cases e

/-! ### assertions -/
structure Asr where
  holds : Array Obj → (Nat → Prop) → Prop
  loc : ∀ h h' F, (∀ b, F b → h'[b]? = h[b]?) → holds h F → holds h' F

def blk (g : Nat) (t : TypeId) (cs : Array Value) : Asr where
  holds h F := (∀ b, F b ↔ b = g) ∧ h[g]? = some (.cells cs t (0, 0))
  loc h h' F hs := fun ⟨h1, h2⟩ => ⟨h1, (hs g ((h1 g).2 rfl)).trans h2⟩

def ownH (h : Array Obj) (e : TypeId) (size : Nat) (A : Option Addr) (n c : Nat) (xs : List Value) : Prop :=
  xs.length = n * size ∧
  ((A = none ∧ n = 0 ∧ c = 0) ∨
   ∃ g cur, A = some ⟨g, 0, none⟩ ∧ h[g]? = some (.cells cur e (0, 0)) ∧ n ≤ c ∧ c ≤ maxLen ∧ cur.size = c * size ∧ cur.toList.take (n * size) = xs)

def own (e : TypeId) (size : Nat) (A : Option Addr) (n c : Nat) (xs : List Value) : Asr where
  holds h F := (∀ b, F b ↔ ∃ a, A = some a ∧ b = a.block) ∧ ownH h e size A n c xs
  loc h h' F hs := fun ⟨h1, h2, h3⟩ => ⟨h1, h2, by
    rcases h3 with h3 | ⟨g, cur, hA, hg, h4⟩
    · exact .inl h3
    · exact .inr ⟨g, cur, hA, (hs g ((h1 g).2 ⟨_, hA, rfl⟩)).trans hg, h4⟩⟩

def star (P Q : Asr) : Asr where
  holds h F := ∃ F1 F2 : Nat → Prop, (∀ b, F b ↔ F1 b ∨ F2 b) ∧ (∀ b, F1 b → ¬ F2 b) ∧ P.holds h F1 ∧ Q.holds h F2
  loc h h' F hs := fun ⟨F1, F2, e, d, p, q⟩ => ⟨F1, F2, e, d, P.loc h h' F1 (fun b hb => hs b ((e b).2 (.inl hb))) p, Q.loc h h' F2 (fun b hb => hs b ((e b).2 (.inr hb))) q⟩

def ex {α : Type} (P : α → Asr) : Asr where
  holds h F := ∃ x, (P x).holds h F
  loc h h' F hs := fun ⟨x, p⟩ => ⟨x, (P x).loc h h' F hs p⟩

def with_ (p : Prop) (P : Asr) : Asr where
  holds h F := p ∧ P.holds h F
  loc h h' F hs := fun ⟨q, p⟩ => ⟨q, P.loc h h' F hs p⟩

def emp : Asr where
  holds _ F := ∀ b, ¬ F b
  loc _ _ _ _ := fun p => p

/-- a slice that may be read -/
def Rd (h : Array Obj) (F : Nat → Prop) (size : Nat) (A : Option Addr) (n : Nat) (xs : List Value) : Prop :=
  xs.length = n * size ∧ (0 < n → ∃ ad, A = some ad ∧ F ad.block ∧ ∀ j u, xs[j]? = some u → cellH h (ad.add j) = some u)

def ro (size : Nat) (A : Option Addr) (n : Nat) (xs : List Value) : Asr where
  holds h F := Rd h F size A n xs
  loc h h' F hs := fun ⟨h1, h2⟩ => ⟨h1, fun hn => by
    obtain ⟨ad, e, hF, hc⟩ := h2 hn
    exact ⟨ad, e, hF, fun j u hu => (cellH_same (by rw [add_block]; exact hs _ hF)).trans (hc j u hu)⟩⟩

/-! ### apart -/
def SepL (h : Array Obj) : (Nat → Prop) → List Asr → Prop
  | _, [] => True
  | A, P :: L => ∃ F : Nat → Prop, P.holds h F ∧ (∀ b, F b → A b ∧ b < h.size) ∧ SepL h (fun b => A b ∧ ¬ F b) L

theorem SepL.step {h h' : Array Obj} : ∀ {L : List Asr} {A A' : Nat → Prop}, (∀ b, b < h.size → A b → A' b ∧ h'[b]? = h[b]?) → SepL h A L → SepL h' A' L
  | [], _, _, _, _ => trivial
  | P :: L, A, A', hs, ⟨F, hp, hF, hL⟩ => by
    refine ⟨F, P.loc h h' F (fun b hb => (hs b (hF b hb).2 (hF b hb).1).2) hp, fun b hb => ?_, SepL.step (fun b hb ⟨ha, hn⟩ => ⟨⟨(hs b hb ha).1, hn⟩, (hs b hb ha).2⟩) hL⟩
    have h1 := hs b (hF b hb).2 (hF b hb).1
    refine ⟨h1.1, ?_⟩
    rcases Nat.lt_or_ge b h'.size with hlt | hge
    · exact hlt
    · have h2 := h1.2
      rw [Array.getElem?_eq_none hge, Array.getElem?_eq_getElem (hF b hb).2] at h2
      cases h2

theorem SepL.mem {h : Array Obj} {P : Asr} : ∀ {L : List Asr} {A : Nat → Prop}, P ∈ L → SepL h A L → ∃ F, P.holds h F ∧ ∀ b, F b → A b ∧ b < h.size
  | [], _, hm, _ => by cases hm
  | Q :: L, A, hm, ⟨F, hp, hF, hL⟩ => by
    rcases List.mem_cons.1 hm with rfl | hm
    · exact ⟨F, hp, hF⟩
    · obtain ⟨F', p, hF'⟩ := SepL.mem hm hL
      exact ⟨F', p, fun b hb => ⟨(hF' b hb).1.1, (hF' b hb).2⟩⟩

theorem SepL.perm {h : Array Obj} {L L' : List Asr} (hp : L.Perm L') : ∀ {A : Nat → Prop}, SepL h A L → SepL h A L' := by
  induction hp with
  | nil => exact fun h => h
  | cons x _ ih => exact fun ⟨F, p, hF, hL⟩ => ⟨F, p, hF, ih hL⟩
  | swap x y l =>
    rintro A ⟨F, p, hF, F', q, hF', hL⟩
    refine ⟨F', q, fun b hb => ⟨(hF' b hb).1.1, (hF' b hb).2⟩, F, p, fun b hb => ⟨⟨(hF b hb).1, fun hb' => (hF' b hb').1.2 hb⟩, (hF b hb).2⟩, ?_⟩
    exact SepL.step (fun b _ ⟨⟨h1, h2⟩, h3⟩ => ⟨⟨⟨h1, h3⟩, h2⟩, rfl⟩) hL
  | trans _ _ ih1 ih2 => exact fun h => ih2 (ih1 h)

theorem SepL.fam {h : Array Obj} : ∀ {L : List Asr} {A : Nat → Prop}, SepL h A L → ∃ Fs : Nat → Nat → Prop, (∀ (i : Nat) P, L[i]? = some P → P.holds h (Fs i) ∧ ∀ b, Fs i b → A b ∧ b < h.size) ∧
    (∀ i j b, i ≠ j → i < L.length → j < L.length → Fs i b → ¬ Fs j b)
  | [], _, _ => ⟨fun _ _ => False, fun i P h => by simp at h, fun i j b _ h => by simp at h⟩
  | P :: L, A, ⟨F, hp, hF, hL⟩ => by
    obtain ⟨Fs, h1, h2⟩ := SepL.fam hL
    refine ⟨fun i => match i with | 0 => F | i + 1 => Fs i, ?_, ?_⟩
    · intro i Q hi
      cases i with
      | zero => simp at hi; subst hi; exact ⟨hp, hF⟩
      | succ i => simp at hi; exact ⟨(h1 i Q hi).1, fun b hb => ⟨((h1 i Q hi).2 b hb).1.1, ((h1 i Q hi).2 b hb).2⟩⟩
    · intro i j b hij hi hj hb
      cases i with
      | zero =>
        cases j with
        | zero => exact absurd rfl hij
        | succ j =>
          have hj' : j < L.length := by simpa using hj
          exact fun hb' => ((h1 j _ (List.getElem?_eq_getElem hj')).2 b hb').1.2 hb
      | succ i =>
        have hi' : i < L.length := by simpa using hi
        cases j with
        | zero => exact ((h1 i _ (List.getElem?_eq_getElem hi')).2 b hb).1.2
        | succ j => exact h2 i j b (by omega) hi' (by simpa using hj) hb
theorem SepL.of_fam {h : Array Obj} : ∀ {L : List Asr} {A : Nat → Prop} (Fs : Nat → Nat → Prop), (∀ (i : Nat) P, L[i]? = some P → P.holds h (Fs i) ∧ ∀ b, Fs i b → A b ∧ b < h.size) →
    (∀ i j b, i ≠ j → i < L.length → j < L.length → Fs i b → ¬ Fs j b) → SepL h A L
  | [], _, _, _, _ => trivial
  | P :: L, A, Fs, h1, h2 => by
    refine ⟨Fs 0, (h1 0 P rfl).1, (h1 0 P rfl).2, SepL.of_fam (fun i => Fs (i + 1)) (fun i Q hi => ?_) (fun i j b hij hi hj => h2 (i + 1) (j + 1) b (by omega) (by simpa using hi) (by simpa using hj))⟩
    have h3 := h1 (i + 1) Q (by simpa using hi)
    have hi' : i < L.length := by
      rcases Nat.lt_or_ge i L.length with h4 | h4
      · exact h4
      · rw [List.getElem?_eq_none h4] at hi; cases hi
    exact ⟨h3.1, fun b hb => ⟨⟨(h3.2 b hb).1, h2 (i + 1) 0 b (by omega) (by simpa using hi') (by simp) hb⟩, (h3.2 b hb).2⟩⟩
theorem SepL.sel {h : Array Obj} {L L' : List Asr} {A : Nat → Prop} (f : Nat → Nat) (hf : ∀ (k : Nat) P, L'[k]? = some P → L[f k]? = some P) (hi : ∀ i j, i < L'.length → j < L'.length → f i = f j → i = j) (hS : SepL h A L) : SepL h A L' := by
  obtain ⟨Fs, h1, h2⟩ := hS.fam
  have hlt : ∀ k, k < L'.length → f k < L.length := fun k hk => by
    have := hf k _ (List.getElem?_eq_getElem hk)
    rcases Nat.lt_or_ge (f k) L.length with h4 | h4
    · exact h4
    · rw [List.getElem?_eq_none h4] at this; cases this
  exact SepL.of_fam (fun k => Fs (f k)) (fun k P hk => h1 _ P (hf k P hk)) fun i j b hij hi' hj' => h2 _ _ b (fun e => hij (hi i j hi' hj' e)) (hlt i hi') (hlt j hj')

structure SepC (h0 : Array Obj) (os0 : Os) (tape0 : Nat → Question → Nat) (out0 : Array (Nat × ByteArray)) (h : Array Obj) (os : Os) (tape : Nat → Question → Nat) (out : Array (Nat × ByteArray)) (O : Nat → Prop) (L : List Asr) : Prop where
  os : os = os0
  tape : tape = tape0
  output : out = out0
  size : h0.size ≤ h.size
  old : ∀ b, b < h0.size → ¬ O b → h[b]? = h0[b]?
  sep : SepL h (fun b => O b ∨ h0.size ≤ b) L

/-- From w0 on (of which only the blocks of O may have been changed) the assertions of L hold, apart, in w. -/
def Sep (w0 w : World) (O : Nat → Prop) (L : List Asr) : Prop := SepC w0.heap w0.os w0.tape w0.output w.heap w.os w.tape w.output O L

section
variable {w0 w w' : World} {O : Nat → Prop} {L L' : List Asr} {P Q : Asr}

theorem Sep.perm (h : Sep w0 w O L) (hp : L.Perm L') : Sep w0 w O L' := ⟨h.os, h.tape, h.output, h.size, h.old, SepL.perm hp h.sep⟩
theorem places_get (L : List Asr) : ∀ (l : List Nat), (∀ i ∈ l, i < L.length) → (l.filterMap (fun i => L[i]?)).length = l.length ∧ ∀ (k : Nat) (hk : k < l.length), (l.filterMap (fun i => L[i]?))[k]? = L[l[k]]?
  | [], _ => ⟨rfl, fun k hk => by simp at hk⟩
  | x :: l, hl => by
    obtain ⟨h1, h2⟩ := places_get L l fun i hi => hl i (by simp [hi])
    have e : (x :: l).filterMap (fun i => L[i]?) = L[x]'(hl x (by simp)) :: l.filterMap (fun i => L[i]?) := List.filterMap_cons_some (List.getElem?_eq_getElem _)
    rw [e]
    refine ⟨by simp [h1], fun k hk => ?_⟩
    cases k with
    | zero => simp
    | succ k => simpa using h2 k (by simpa using hk)
/-- the assertions at the places 'is' among the first n, in that order; the other ones of the first n are dropped; the rest stays -/
theorem Sep.sel (h : Sep w0 w O L) (n : Nat) (is : List Nat) (hs : (is.Nodup ∧ ∀ i ∈ is, i < n) := by decide) (hn : n ≤ L.length := by simp) : Sep w0 w O (is.filterMap (fun i => L[i]?) ++ L.drop n) := by
  obtain ⟨hlen, hget⟩ := places_get L is fun i hi => Nat.lt_of_lt_of_le (hs.2 i hi) hn
  refine ⟨h.os, h.tape, h.output, h.size, h.old, SepL.sel (fun k => if hk : k < is.length then is[k] else n + (k - is.length)) ?_ ?_ h.sep⟩
  · intro k P hk
    by_cases hk' : k < is.length
    · simp only [hk', dif_pos]
      rw [List.getElem?_append_left (by omega), hget k hk'] at hk
      exact hk
    · simp only [hk', dif_neg, not_false_iff]
      rw [List.getElem?_append_right (by omega), hlen, List.getElem?_drop] at hk
      exact hk
  · intro i j hi hj
    rw [List.length_append, hlen, List.length_drop] at hi hj
    by_cases hi' : i < is.length <;> by_cases hj' : j < is.length
    · simp only [hi', hj', dif_pos]
      intro e
      have hp := List.pairwise_iff_getElem.1 hs.1
      rcases Nat.lt_trichotomy i j with h1 | h1 | h1
      · exact absurd e (hp i j hi' hj' h1)
      · exact h1
      · exact absurd e.symm (hp j i hj' hi' h1)
    · simp only [hi', hj', dif_pos, dif_neg, not_false_iff]
      intro e
      have := hs.2 is[i] (List.getElem_mem _)
      omega
    · simp only [hi', hj', dif_pos, dif_neg, not_false_iff]
      intro e
      have := hs.2 is[j] (List.getElem_mem _)
      omega
    · simp only [hi', hj', dif_neg, not_false_iff]
      intro e; omega
theorem Sep.drewN (h : Sep w0 w O L) (n : Nat) : Sep w0 (w.drewN n) O L := h
theorem Sep.drew (h : Sep w0 w O L) : Sep w0 w.drew O L := h
theorem Sep.wsize (h : Sep w0 w O L) : w0.heap.size ≤ w.heap.size := h.size
theorem Sep.below (h : Sep w0 w (fun _ => False) L) : Below w0.heap.size w0 w := ⟨h.os, h.tape, h.output, h.size, fun k hk => h.old k hk (fun e => e)⟩
theorem Sep.start (w : World) : Sep w w (fun _ => False) [] := ⟨rfl, rfl, rfl, Nat.le_refl _, fun _ _ _ => rfl, trivial⟩

/-- THE STEP: what the first assertion owned has become what Q owns; nothing else has turned. -/
theorem Sep.upd (h : Sep w0 w O (P :: L)) (hos : w'.os = w.os) (htape : w'.tape = w.tape) (hout : w'.output = w.output) (hsz : w.heap.size ≤ w'.heap.size)
    (hu : ∀ F, P.holds w.heap F → (∀ b, F b → b < w.heap.size) → (∃ F', Q.holds w'.heap F' ∧ (∀ b, F' b → (F b ∨ w.heap.size ≤ b) ∧ b < w'.heap.size)) ∧ (∀ b, b < w.heap.size → ¬ F b → w'.heap[b]? = w.heap[b]?)) : Sep w0 w' O (Q :: L) := by
  obtain ⟨F, hp, hF, hL⟩ := h.sep
  obtain ⟨⟨F', hq, hF'⟩, hk⟩ := hu F hp (fun b hb => (hF b hb).2)
  have hsize : w0.heap.size ≤ w.heap.size := h.size
  refine ⟨hos.trans h.os, htape.trans h.tape, hout.trans h.output, Nat.le_trans h.size hsz, fun b hb hO => ?_, F', hq, fun b hb => ?_, ?_⟩
  · refine (hk b (by omega) (fun hb' => ?_)).trans (h.old b hb hO)
    rcases (hF b hb').1 with h1 | h1
    · exact hO h1
    · omega
  · obtain ⟨h1, h2⟩ := hF' b hb
    refine ⟨?_, h2⟩
    rcases h1 with h1 | h1
    · exact (hF b h1).1
    · exact .inr (by omega)
  · refine SepL.step (fun b hb ⟨h1, h2⟩ => ⟨⟨h1, fun hb' => ?_⟩, hk b hb h2⟩) hL
    rcases (hF' b hb').1 with h3 | h3
    · exact h2 h3
    · omega

theorem Sep.imp (h : Sep w0 w O (P :: L)) (hi : ∀ hp F, P.holds hp F → Q.holds hp F) : Sep w0 w O (Q :: L) := by
  obtain ⟨F, hp, hF, hL⟩ := h.sep
  exact ⟨h.os, h.tape, h.output, h.size, h.old, F, hi _ _ hp, hF, hL⟩
theorem Sep.drop (h : Sep w0 w O (P :: L)) : Sep w0 w O L := by
  obtain ⟨F, hp, hF, hL⟩ := h.sep
  exact ⟨h.os, h.tape, h.output, h.size, h.old, SepL.step (fun b _ h => ⟨h.1, rfl⟩) hL⟩
theorem Sep.dropN (h : Sep w0 w O L) : ∀ n, Sep w0 w O (L.drop n) := by
  intro n
  induction n generalizing L with
  | zero => exact h
  | succ n ih => cases L with
    | nil => exact h
    | cons P L => exact ih h.drop
theorem Sep.get (h : Sep w0 w O (P :: L)) : ∃ F, P.holds w.heap F ∧ ∀ b, F b → b < w.heap.size := by
  obtain ⟨F, hp, hF, hL⟩ := h.sep
  exact ⟨F, hp, fun b hb => (hF b hb).2⟩
theorem Sep.emp (h : Sep w0 w O L) : Sep w0 w O (emp :: L) :=
  ⟨h.os, h.tape, h.output, h.size, h.old, fun _ => False, fun _ hb => hb, fun _ hb => hb.elim, SepL.step (fun b _ h => ⟨⟨h, fun e => e⟩, rfl⟩) h.sep⟩
theorem Sep.unstar (h : Sep w0 w O (star P Q :: L)) : Sep w0 w O (P :: Q :: L) := by
  obtain ⟨F, ⟨F1, F2, e, d, p, q⟩, hF, hL⟩ := h.sep
  refine ⟨h.os, h.tape, h.output, h.size, h.old, F1, p, fun b hb => hF b ((e b).2 (.inl hb)), F2, q, fun b hb => ⟨⟨(hF b ((e b).2 (.inr hb))).1, fun hb' => d b hb' hb⟩, (hF b ((e b).2 (.inr hb))).2⟩, ?_⟩
  exact SepL.step (fun b _ ⟨h1, h2⟩ => ⟨⟨⟨h1, fun h3 => h2 ((e b).2 (.inl h3))⟩, fun h3 => h2 ((e b).2 (.inr h3))⟩, rfl⟩) hL
theorem Sep.star (h : Sep w0 w O (P :: Q :: L)) : Sep w0 w O (star P Q :: L) := by
  obtain ⟨F1, p, hF1, F2, q, hF2, hL⟩ := h.sep
  refine ⟨h.os, h.tape, h.output, h.size, h.old, fun b => F1 b ∨ F2 b, ⟨F1, F2, fun _ => Iff.rfl, fun b h1 h2 => (hF2 b h2).1.2 h1, p, q⟩, fun b hb => ?_, ?_⟩
  · rcases hb with hb | hb
    · exact hF1 b hb
    · exact ⟨(hF2 b hb).1.1, (hF2 b hb).2⟩
  · exact SepL.step (fun b _ ⟨⟨h1, h2⟩, h3⟩ => ⟨⟨h1, fun h4 => h4.elim h2 h3⟩, rfl⟩) hL
theorem Sep.unex {α : Type} {P : α → Asr} (h : Sep w0 w O (ex P :: L)) : ∃ x, Sep w0 w O (P x :: L) := by
  obtain ⟨F, ⟨x, p⟩, hF, hL⟩ := h.sep
  exact ⟨x, h.os, h.tape, h.output, h.size, h.old, F, p, hF, hL⟩
theorem Sep.ex {α : Type} {P : α → Asr} (x : α) (h : Sep w0 w O (P x :: L)) : Sep w0 w O (ex P :: L) := h.imp fun _ _ p => ⟨x, p⟩
theorem Sep.unwith {p : Prop} (h : Sep w0 w O (with_ p P :: L)) : p ∧ Sep w0 w O (P :: L) := by
  obtain ⟨F, ⟨q, p⟩, hF, hL⟩ := h.sep
  exact ⟨q, h.os, h.tape, h.output, h.size, h.old, F, p, hF, hL⟩
theorem Sep.with_ {p : Prop} (q : p) (h : Sep w0 w O (P :: L)) : Sep w0 w O (with_ p P :: L) := h.imp fun _ _ p => ⟨q, p⟩

variable {a b c d e f g' i' : Asr}
theorem Sep.up1 (h : Sep w0 w O (a :: b :: L)) : Sep w0 w O (b :: a :: L) := h.perm (List.perm_middle (l₁ := [a]))
theorem Sep.up2 (h : Sep w0 w O (a :: b :: c :: L)) : Sep w0 w O (c :: a :: b :: L) := h.perm (List.perm_middle (l₁ := [a, b]))
theorem Sep.up3 (h : Sep w0 w O (a :: b :: c :: d :: L)) : Sep w0 w O (d :: a :: b :: c :: L) := h.perm (List.perm_middle (l₁ := [a, b, c]))
theorem Sep.up4 (h : Sep w0 w O (a :: b :: c :: d :: e :: L)) : Sep w0 w O (e :: a :: b :: c :: d :: L) := h.perm (List.perm_middle (l₁ := [a, b, c, d]))
theorem Sep.up5 (h : Sep w0 w O (a :: b :: c :: d :: e :: f :: L)) : Sep w0 w O (f :: a :: b :: c :: d :: e :: L) := h.perm (List.perm_middle (l₁ := [a, b, c, d, e]))
theorem Sep.up6 (h : Sep w0 w O (a :: b :: c :: d :: e :: f :: g' :: L)) : Sep w0 w O (g' :: a :: b :: c :: d :: e :: f :: L) := h.perm (List.perm_middle (l₁ := [a, b, c, d, e, f]))
theorem Sep.dn1 (h : Sep w0 w O (a :: b :: L)) : Sep w0 w O (b :: a :: L) := h.up1
theorem Sep.dn2 (h : Sep w0 w O (a :: b :: c :: L)) : Sep w0 w O (b :: c :: a :: L) := h.perm (List.perm_middle (l₁ := [b, c])).symm
theorem Sep.dn3 (h : Sep w0 w O (a :: b :: c :: d :: L)) : Sep w0 w O (b :: c :: d :: a :: L) := h.perm (List.perm_middle (l₁ := [b, c, d])).symm

/-! ### blocks -/
theorem Sep.alloc (h : Sep w0 w O L) (cs : Array Value) (t : TypeId) : Sep w0 (w.alloc (.cells cs t)) O (blk w.heap.size t cs :: L) :=
  h.emp.upd rfl rfl rfl (by simp) fun F hF _ => ⟨⟨fun b => b = w.heap.size, ⟨fun _ => Iff.rfl, heap_alloc_new w _⟩, fun b hb => ⟨.inr (by omega), by simp; omega⟩⟩, fun b hb _ => Below.heap_alloc w _ b hb⟩
theorem Sep.alloc_ (h : Sep w0 w O L) (o : Obj) : Sep w0 (w.alloc o) O L :=
  (Sep.upd (Q := Go.Proofs.Ytkdoocgjagpcbaa.emp) (w' := w.alloc o) h.emp rfl rfl rfl (by simp) fun F hF _ => ⟨⟨fun _ => False, fun _ hb => hb, fun b hb => hb.elim⟩, fun b hb _ => Below.heap_alloc w _ b hb⟩).drop
theorem Sep.blk_heap {g : Nat} {t : TypeId} {cs : Array Value} (h : Sep w0 w O (blk g t cs :: L)) : w.heap[g]? = some (.cells cs t (0, 0)) := by
  obtain ⟨F, ⟨_, p⟩, _⟩ := h.get
  exact p
theorem Sep.blk_cell {g : Nat} {t : TypeId} {cs : Array Value} (h : Sep w0 w O (blk g t cs :: L)) (i : Nat) : w.cell? ⟨g, i, none⟩ = cs[i]? := cell_of_row w g i cs t (0, 0) h.blk_heap
theorem Sep.blk_frozen {g : Nat} {t : TypeId} {cs : Array Value} (h : Sep w0 w O (blk g t cs :: L)) (i : Nat) : w.frozen? ⟨g, i, none⟩ = false := frozen_of_row w g i cs t h.blk_heap
theorem Sep.blk_lt {g : Nat} {t : TypeId} {cs : Array Value} (h : Sep w0 w O (blk g t cs :: L)) : g < w.heap.size := by
  obtain ⟨F, ⟨e, _⟩, hF⟩ := h.get
  exact hF g ((e g).2 rfl)
theorem Sep.blk_set {g : Nat} {t : TypeId} {cs : Array Value} (h : Sep w0 w O (blk g t cs :: L)) (i : Nat) (u : Value) : Sep w0 (w.setCell ⟨g, i, none⟩ u) O (blk g t (cs.setIfInBounds i u) :: L) :=
  h.upd rfl rfl rfl (by simp [World.setCell]) fun F ⟨e, p⟩ hlt => ⟨⟨F, ⟨e, heap_setCell_same w g i cs t u p⟩, fun b hb => ⟨.inl hb, by simpa [World.setCell] using hlt b hb⟩⟩,
    fun b _ hn => heap_setCell_other w _ b u (fun e' => hn ((e b).2 e'))⟩

/-! ### rows of the call's own -/
theorem ownH_row {w : World} {e : TypeId} {size : Nat} {A : Option Addr} {n c : Nat} {xs : List Value} : ownH w.heap e size A n c xs ↔ w.ownsRow 0 e size (.slice A n c) n xs := by
  constructor
  · rintro ⟨h1, ⟨rfl, rfl, rfl⟩ | ⟨g, cur, rfl, hg, h2, h3, h4, h5⟩⟩
    · exact ⟨h1, .inl ⟨rfl, rfl⟩⟩
    · exact ⟨h1, .inr ⟨g, c, cur, rfl, Nat.zero_le _, hg, h2, h3, h4, h5⟩⟩
  · rintro ⟨h1, ⟨h2, rfl⟩ | ⟨g, cap, cur, h2, _, hg, h3⟩⟩
    · injection h2 with h2 h3 h4; subst h2; subst h4
      exact ⟨h1, .inl ⟨rfl, rfl, rfl⟩⟩
    · injection h2 with h2 h4 h5; subst h2; subst h5
      exact ⟨h1, .inr ⟨g, cur, rfl, hg, h3⟩⟩
theorem Sep.own_row {e : TypeId} {size : Nat} {A : Option Addr} {n c : Nat} {xs : List Value} (h : Sep w0 w O (own e size A n c xs :: L)) : w.ownsRow 0 e size (.slice A n c) n xs := by
  obtain ⟨F, ⟨_, p⟩, _⟩ := h.get
  exact ownH_row.1 p
theorem Sep.nil (h : Sep w0 w O L) (e : TypeId) (size : Nat) : Sep w0 w O (own e size none 0 0 [] :: L) :=
  h.emp.imp fun _ F hF => ⟨fun b => ⟨fun hb => (hF b hb).elim, fun ⟨a, ha, _⟩ => by cases ha⟩, by simp, .inl ⟨rfl, rfl, rfl⟩⟩
theorem Sep.own_grown {e e' : TypeId} {size size' : Nat} {A A' : Option Addr} {n c n' c' : Nat} {xs xs' : List Value} (h : Sep w0 w O (own e size A n c xs :: L))
    (ho : w'.ownsRow 0 e' size' (.slice A' n' c') n' xs') (hg : w.grownBy w' (Value.slice A n c).ownBlock)
    (hat : (Value.slice A' n' c').ownBlock = (Value.slice A n c).ownBlock ∨ (Value.slice A' n' c').ownBlock = some w.heap.size) : Sep w0 w' O (own e' size' A' n' c' xs' :: L) := by
  refine h.upd hg.os hg.tape hg.output hg.size fun F ⟨hF, p⟩ hlt => ⟨⟨fun b => ∃ a, A' = some a ∧ b = a.block, ⟨fun _ => Iff.rfl, ownH_row.2 ho⟩, ?_⟩, ?_⟩
  · rintro b ⟨a, rfl, rfl⟩
    refine ⟨?_, (ho.lt a.block rfl).2⟩
    rcases hat with h1 | h1
    · cases A with
      | none => simp [Value.ownBlock] at h1
      | some a' => exact .inl ((hF _).2 ⟨a', rfl, by simpa [Value.ownBlock] using h1⟩)
    · exact .inr (by simp [Value.ownBlock] at h1; omega)
  · intro b hb hn
    refine hg.block b hb fun e1 => hn ((hF b).2 ?_)
    cases A with
    | none => simp [Value.ownBlock] at e1
    | some a => exact ⟨a, rfl, by simpa [Value.ownBlock] using e1⟩
/-- a new row (make; append onto nil) -/
theorem Sep.own_new {e' : TypeId} {size' : Nat} {A' : Option Addr} {n' c' : Nat} {xs' : List Value} (h : Sep w0 w O L)
    (ho : w'.ownsRow 0 e' size' (.slice A' n' c') n' xs') (hg : w.grownBy w' none) (hat : (Value.slice A' n' c').ownBlock = none ∨ (Value.slice A' n' c').ownBlock = some w.heap.size) : Sep w0 w' O (own e' size' A' n' c' xs' :: L) :=
  (h.nil e' size').own_grown ho hg hat
theorem blk_own {g : Nat} {t : TypeId} {cs : Array Value} {size n : Nat} (hs : cs.size = n * size) (hn : n ≤ maxLen) : ∀ hp F, (blk g t cs).holds hp F → (own t size (some ⟨g, 0, none⟩) n n cs.toList).holds hp F :=
  fun hp F ⟨e, p⟩ => ⟨fun b => by rw [e b]; exact ⟨fun h => ⟨_, rfl, h⟩, fun ⟨a, ha, hb⟩ => by injection ha with ha; subst ha; exact hb⟩, by simpa using hs, .inr ⟨g, cs, rfl, p, Nat.le_refl _, hn, hs, List.take_of_length_le (by simp [hs])⟩⟩
/-- a slice literal: the block that was laid is a row of the call's own -/
theorem Sep.lit (h : Sep w0 w O L) (cs : Array Value) (t : TypeId) (size n : Nat) (hs : cs.size = n * size) (hn : n ≤ maxLen) : Sep w0 (w.alloc (.cells cs t)) O (own t size (some ⟨w.heap.size, 0, none⟩) n n cs.toList :: L) :=
  (h.alloc cs t).imp (blk_own hs hn)
/-- the same, the block's number as the walk spells it -/
theorem Sep.litB (h : Sep w0 w O L) (cs : Array Value) (t : TypeId) (size n : Nat) (hs : cs.size = n * size) (hn : n ≤ maxLen) {B : Nat} (hB : w.heap.size = B) : Sep w0 (w.alloc (.cells cs t)) O (own t size (some ⟨B, 0, none⟩) n n cs.toList :: L) := by
  subst hB; exact h.lit cs t size n hs hn
theorem Sep.own_set {e : TypeId} {size : Nat} {g n c : Nat} {xs : List Value} (h : Sep w0 w O (own e size (some ⟨g, 0, none⟩) n c xs :: L)) (j : Nat) (u : Value) :
    Sep w0 (w.setCell ⟨g, j, none⟩ u) O (own e size (some ⟨g, 0, none⟩) n c (xs.set j u) :: L) :=
  h.own_grown (h.own_row.stored j u).1 (h.own_row.stored j u).2 (.inl rfl)

/-! ### reading -/
def Gives (P : Asr) (size : Nat) (A : Option Addr) (n : Nat) (xs : List Value) : Prop := ∀ h F, P.holds h F → Rd h F size A n xs
theorem Sep.own_some {e : TypeId} {size : Nat} {A : Option Addr} {n c : Nat} {xs : List Value} (h : Sep w0 w O (own e size A n c xs :: L)) (hn : 0 < n) : ∃ g, A = some ⟨g, 0, none⟩ := by
  obtain ⟨F, ⟨_, _, h⟩, _⟩ := h.get
  rcases h with ⟨_, rfl, _⟩ | ⟨g, cur, rfl, _⟩
  · omega
  · exact ⟨g, rfl⟩
theorem Sep.own_cell {e : TypeId} {g n c : Nat} {xs : List Value} (h : Sep w0 w O (own e 1 (some ⟨g, 0, none⟩) n c xs :: L)) {j : Nat} (hj : j < n) : w.cell? ⟨g, j, none⟩ = xs[j]? := h.own_row.cellAt j (by omega)
theorem Sep.own_frozen {e : TypeId} {size g n c : Nat} {xs : List Value} (h : Sep w0 w O (own e size (some ⟨g, 0, none⟩) n c xs :: L)) (j : Nat) : w.frozen? ⟨g, j, none⟩ = false := h.own_row.frozenAt j
theorem own_gives (e : TypeId) (size : Nat) (A : Option Addr) (n c : Nat) (xs : List Value) : Gives (own e size A n c xs) size A n xs := by
  rintro h F ⟨hF, h1, h2⟩
  refine ⟨h1, fun hn => ?_⟩
  rcases h2 with ⟨_, rfl, _⟩ | ⟨g, cur, rfl, hg, h3, h4, h5, h6⟩
  · omega
  · refine ⟨_, rfl, (hF _).2 ⟨_, rfl, rfl⟩, fun j u hu => ?_⟩
    rw [add_at]
    rw [← h6, List.getElem?_take] at hu
    split at hu
    · simp only [cellH, hg]; simpa using hu
    · cases hu
theorem ro_gives (size : Nat) (A : Option Addr) (n : Nat) (xs : List Value) : Gives (ro size A n xs) size A n xs := fun _ _ h => h
theorem Rd.mono {h : Array Obj} {F F' : Nat → Prop} {size : Nat} {A : Option Addr} {n : Nat} {xs : List Value} (hr : Rd h F size A n xs) (hF : ∀ b, F b → F' b) : Rd h F' size A n xs :=
  ⟨hr.1, fun hn => by obtain ⟨ad, e, h1, h2⟩ := hr.2 hn; exact ⟨ad, e, hF _ h1, h2⟩⟩

/-- A slice that came in from w0 (no block of O), or one that an assertion of L gives. -/
def Rb (w0 : World) (O : Nat → Prop) (L : List Asr) (size : Nat) (A : Option Addr) (n : Nat) (xs : List Value) : Prop :=
  Rd w0.heap (fun b => b < w0.heap.size ∧ ¬ O b) size A n xs ∨ ∃ P ∈ L, Gives P size A n xs
variable {size : Nat} {A : Option Addr} {n : Nat} {xs : List Value}
theorem Rb.own {e : TypeId} {c : Nat} (h : own e size A n c xs ∈ L) : Rb w0 O L size A n xs := .inr ⟨_, h, own_gives _ _ _ _ _ _⟩
theorem Rb.ro (h : Go.Proofs.Ytkdoocgjagpcbaa.ro size A n xs ∈ L) : Rb w0 O L size A n xs := .inr ⟨_, h, ro_gives _ _ _ _⟩
theorem Rb.sub (h : Rb w0 O L size A n xs) (hs : ∀ P, P ∈ L → P ∈ L') : Rb w0 O L' size A n xs := by
  rcases h with h | ⟨P, hm, h⟩
  · exact .inl h
  · exact .inr ⟨P, hs P hm, h⟩
theorem Rb.cons (h : Rb w0 O L size A n xs) : Rb w0 O (P :: L) size A n xs := h.sub fun _ hm => List.mem_cons_of_mem _ hm
theorem Rb.nil : Rb w0 O L size A 0 [] := .inl ⟨by simp, fun h => absurd h (by omega)⟩
theorem Rb.len (h : Rb w0 O L size A n xs) (hS : Sep w0 w O L) : xs.length = n * size := by
  rcases h with h | ⟨P, hm, h⟩
  · exact h.1
  · obtain ⟨F, p, _⟩ := SepL.mem hm hS.sep
    exact (h _ _ p).1
theorem Rb.read (h : Rb w0 O L size A n xs) (hS : Sep w0 w O L) : Rd w.heap (fun b => b < w.heap.size) size A n xs := by
  rcases h with h | ⟨P, hm, h⟩
  · refine ⟨h.1, fun hn => ?_⟩
    obtain ⟨ad, e, ⟨h1, h2⟩, h3⟩ := h.2 hn
    refine ⟨ad, e, Nat.lt_of_lt_of_le h1 hS.size, fun j u hu => (cellH_same ?_).trans (h3 j u hu)⟩
    rw [add_block]
    exact hS.old _ h1 h2
  · obtain ⟨F, p, hF⟩ := SepL.mem hm hS.sep
    exact (h _ _ p).mono fun b hb => (hF b hb).2
/-- the element k, of one cell -/
theorem Rb.at_ (h : Rb w0 O L 1 A n xs) (hS : Sep w0 w O L) {k : Nat} (hk : k < n) : ∃ ad u, A = some ad ∧ xs[k]? = some u ∧ w.cell? (ad.add k) = some u := by
  have hr := h.read hS
  obtain ⟨ad, e, _, hc⟩ := hr.2 (by omega)
  have hl : k < xs.length := by have := hr.1; omega
  exact ⟨ad, xs[k], e, List.getElem?_eq_getElem hl, hc k _ (List.getElem?_eq_getElem hl)⟩
theorem Rd.cut {h : Array Obj} {F : Nat → Prop} (hr : Rd h F size A n xs) {k m cap : Nat} (hk : k ≤ m) (hm : m ≤ n) (hc : n ≤ cap) :
    Rd h F size (if cap = k then A else A.map (·.add (k * size))) (m - k) ((xs.drop (k * size)).take ((m - k) * size)) := by
  have hl := hr.1
  refine ⟨?_, fun hn => ?_⟩
  · rw [List.length_take, List.length_drop, hl, ← Nat.sub_mul]
    exact Nat.min_eq_left (Nat.mul_le_mul_right _ (by omega))
  · obtain ⟨ad, rfl, hb, hcell⟩ := hr.2 (by omega)
    rw [if_neg (by omega)]
    refine ⟨ad.add (k * size), rfl, by rw [add_block]; exact hb, fun j u hu => ?_⟩
    rw [add_add]
    rw [List.getElem?_take] at hu
    split at hu
    · exact hcell _ u (by rw [← hu, List.getElem?_drop])
    · cases hu
theorem Rb.cut (h : Rb w0 O L size A n xs) {k m cap : Nat} (hk : k ≤ m) (hm : m ≤ n) (hc : n ≤ cap) :
    Rb w0 O L size (if cap = k then A else A.map (·.add (k * size))) (m - k) ((xs.drop (k * size)).take ((m - k) * size)) := by
  rcases h with h | ⟨P, hm', h⟩
  · exact .inl (h.cut hk hm hc)
  · exact .inr ⟨P, hm', fun hp F p => (h hp F p).cut hk hm hc⟩
theorem Rb.take (h : Rb w0 O L size A n xs) {m : Nat} (hm : m ≤ n) : Rb w0 O L size A m (xs.take (m * size)) := by
  have key : ∀ {h : Array Obj} {F : Nat → Prop}, Rd h F size A n xs → Rd h F size A m (xs.take (m * size)) := by
    intro h F hr
    refine ⟨?_, fun hn => ?_⟩
    · rw [List.length_take, hr.1]
      exact Nat.min_eq_left (Nat.mul_le_mul_right _ hm)
    · obtain ⟨ad, e, hF, hc⟩ := hr.2 (by omega)
      refine ⟨ad, e, hF, fun j u hu => hc j u ?_⟩
      rw [List.getElem?_take] at hu
      split at hu
      · exact hu
      · cases hu
  rcases h with h | ⟨P, hm', h⟩
  · exact .inl (key h)
  · exact .inr ⟨P, hm', fun hp F p => key (h hp F p)⟩
theorem Rb.cut1 (h : Rb w0 O L 1 A n xs) {k m cap : Nat} (hk : k ≤ m) (hm : m ≤ n) (hc : n ≤ cap) :
    Rb w0 O L 1 (if cap = k then A else A.map (·.add k)) (m - k) ((xs.drop k).take (m - k)) := by simpa only [Nat.mul_one] using h.cut hk hm hc
theorem Rb.tail1 (h : Rb w0 O L 1 A n xs) (hl : xs.length = n) {k cap : Nat} (hk : k ≤ n) (hc : n ≤ cap) :
    Rb w0 O L 1 (if cap = k then A else A.map (·.add k)) (n - k) (xs.drop k) := by
  have := h.cut1 hk (Nat.le_refl _) hc
  rwa [List.take_of_length_le (by rw [List.length_drop, hl]; exact Nat.le_refl _)] at this
theorem Rb.take1 (h : Rb w0 O L 1 A n xs) {m : Nat} (hm : m ≤ n) : Rb w0 O L 1 A m (xs.take m) := by simpa only [Nat.mul_one] using h.take hm
end

section
variable {w0 w : World} {O : Nat → Prop} {L : List Asr} {a b c d f : Asr} {e : TypeId} {size : Nat} {A : Option Addr} {n k : Nat} {xs : List Value}
theorem Rb.i0 : Rb w0 O (Go.Proofs.Ytkdoocgjagpcbaa.own e size A n k xs :: L) size A n xs := .inr ⟨_, List.mem_cons_self .., own_gives _ _ _ _ _ _⟩
theorem Rb.i1 : Rb w0 O (a :: Go.Proofs.Ytkdoocgjagpcbaa.own e size A n k xs :: L) size A n xs := Rb.i0.cons
theorem Rb.i2 : Rb w0 O (a :: b :: Go.Proofs.Ytkdoocgjagpcbaa.own e size A n k xs :: L) size A n xs := Rb.i1.cons
theorem Rb.i3 : Rb w0 O (a :: b :: c :: Go.Proofs.Ytkdoocgjagpcbaa.own e size A n k xs :: L) size A n xs := Rb.i2.cons
theorem Rb.i4 : Rb w0 O (a :: b :: c :: d :: Go.Proofs.Ytkdoocgjagpcbaa.own e size A n k xs :: L) size A n xs := Rb.i3.cons
theorem Rb.i5 : Rb w0 O (a :: b :: c :: d :: f :: Go.Proofs.Ytkdoocgjagpcbaa.own e size A n k xs :: L) size A n xs := Rb.i4.cons
theorem Sep.rd0 (h : Sep w0 w O (own e size A n k xs :: L)) : Rd w.heap (fun b => b < w.heap.size) size A n xs := Rb.i0.read h
theorem Sep.rd1 (h : Sep w0 w O (a :: own e size A n k xs :: L)) : Rd w.heap (fun b => b < w.heap.size) size A n xs := Rb.i1.read h
theorem Sep.rd2 (h : Sep w0 w O (a :: b :: own e size A n k xs :: L)) : Rd w.heap (fun b => b < w.heap.size) size A n xs := Rb.i2.read h
end

/-! ### whole numbers in a row -/
def kv (k : IntKind) (l : List Int) : List Value := l.map (Value.int k)
theorem kv_len (k : IntKind) (l : List Int) : (kv k l).length = l.length := List.length_map ..
theorem kv_one (k : IntKind) (l : List Int) : ∀ u ∈ kv k l, u.oneCell' = true := by
  intro u hu; obtain ⟨x, _, rfl⟩ := List.mem_map.1 hu; rfl
theorem kv_append (k : IntKind) (a b : List Int) : kv k a ++ kv k b = kv k (a ++ b) := List.map_append.symm
theorem kv_take (k : IntKind) (l : List Int) (n : Nat) : (kv k l).take n = kv k (l.take n) := List.map_take.symm
theorem kv_drop (k : IntKind) (l : List Int) (n : Nat) : (kv k l).drop n = kv k (l.drop n) := List.map_drop.symm
theorem kv_get (k : IntKind) (l : List Int) (j : Nat) (hj : j < l.length) : (kv k l)[j]? = some (.int k l[j]) := by simp [kv, hj]
theorem kv_set (k : IntKind) (l : List Int) (j : Nat) (x : Int) : (kv k l).set j (.int k x) = kv k (l.set j x) := List.map_set.symm
section
variable {w0 w : World} {O : Nat → Prop} {L : List Asr} {k : IntKind} {A : Option Addr} {n : Nat} {l : List Int}
theorem Rb.klen (hr : Rb w0 O L 1 A n (kv k l)) (HS : Sep w0 w O L) : l.length = n := by have := hr.len HS; simpa [kv] using this
theorem Rb.elem (hr : Rb w0 O L 1 A n (kv k l)) (HS : Sep w0 w O L) {j : Nat} (hj : j < l.length) : ∃ ad, A = some ad ∧ w.cell? (ad.add j) = some (.int k l[j]) := by
  have hl := hr.klen HS
  obtain ⟨ad, u, hA, hu, hc⟩ := hr.at_ HS (show j < n by omega)
  rw [kv_get k l j hj] at hu
  injection hu with hu
  exact ⟨ad, hA, by rw [hc, ← hu]⟩
theorem Rb.elemn (hr : Rb w0 O L 1 A n (kv k l)) (HS : Sep w0 w O L) {j : Nat} (hj : j < n) : ∃ ad y, A = some ad ∧ l[j]? = some y ∧ y ∈ l ∧ w.cell? (ad.add j) = some (.int k y) := by
  have hl := hr.klen HS
  obtain ⟨ad, hA, hc⟩ := hr.elem HS (show j < l.length by omega)
  exact ⟨ad, l[j], hA, List.getElem?_eq_getElem _, List.getElem_mem _, hc⟩
theorem Rb.ktake (hr : Rb w0 O L 1 A n (kv k l)) {m : Nat} (hm : m ≤ n) : Rb w0 O L 1 A m (kv k (l.take m)) := by have := hr.take1 hm; rwa [kv_take] at this
theorem Rb.ktail (hr : Rb w0 O L 1 A n (kv k l)) (hl : l.length = n) {j cap : Nat} (hj : j ≤ n) (hc : n ≤ cap) :
    Rb w0 O L 1 (if cap = j then A else A.map (·.add j)) (n - j) (kv k (l.drop j)) := by have := hr.tail1 (by rw [kv_len, hl]) hj hc; rwa [kv_drop] at this
theorem Rb.kcut (hr : Rb w0 O L 1 A n (kv k l)) {j m cap : Nat} (hj : j ≤ m) (hm : m ≤ n) (hc : n ≤ cap) :
    Rb w0 O L 1 (if cap = j then A else A.map (·.add j)) (m - j) (kv k ((l.drop j).take (m - j))) := by have := hr.cut1 hj hm hc; rwa [kv_drop, kv_take] at this
theorem Sep.kcell {e : TypeId} {g c : Nat} (h : Sep w0 w O (own e 1 (some ⟨g, 0, none⟩) n c (kv k l) :: L)) {j : Nat} (hj : j < l.length) (hn : l.length = n) : w.cell? ⟨g, j, none⟩ = some (.int k l[j]) :=
  (h.own_cell (by omega)).trans (kv_get k l j hj)
theorem Sep.klen {e : TypeId} {c : Nat} (h : Sep w0 w O (own e 1 A n c (kv k l) :: L)) : l.length = n := Rb.klen Rb.i0 h
end

/-! ### append -/
section
variable {Pr : Program} {w0 w : World} {O : Nat → Prop} {L : List Asr}

theorem run_append_sep (t ty e : TypeId) (i : TypeInfo) (z : Value) (size bytes : Nat) (ht : Pr.underlying t = some (.slice e)) (hi : Pr.info? e = some i) (hz : i.zero = some z)
    (hsize : i.size = size) (hby : i.bytes = bytes) (hzs : z.cells.size = size) (hsz : 0 < size)
    {A : Option Addr} {n c : Nat} {xs : List Value} (h : Sep w0 w O (own e size A n c xs :: L))
    {F : Nat → Prop} {A2 : Option Addr} {m c2 : Nat} {news : List Value} (hr : Rd w.heap F size A2 m news) (h1 : ∀ u ∈ news, u.oneCell' = true)
    (h63 : n + m ≤ maxLen) (hbytes : (n + m) * bytes ≤ 140737488355328) :
    ∃ A' c' w', (Builtin.append_ #[t, t] ty #[.slice A n c, .slice A2 m c2]).run Pr w = .ok (.slice A' (n + m) c') w' ∧ Sep w0 w' O (own e size A' (n + m) c' (xs ++ news) :: L) ∧ w.heap.size ≤ w'.heap.size := by
  have hown := h.own_row
  rcases A2 with _ | ad
  · have hm : m = 0 := by
      rcases Nat.eq_zero_or_pos m with h0 | h0
      · exact h0
      · obtain ⟨ad, h, _⟩ := hr.2 h0
        cases h
    subst hm
    have hn : news = [] := List.eq_nil_of_length_eq_zero (by simpa using hr.1)
    subst hn
    refine ⟨A, c, w, ?_, by simpa using h, Nat.le_refl _⟩
    rcases hown.2 with ⟨hv, rfl⟩ | ⟨g, cap, cur, hv, _, _, hnc, _⟩
    · injection hv with h2 h3 h4; subst h2; subst h4
      simp [Builtin.append_, run_underlying ht, sizeOf, typeInfo, hi, Builtin.lenOf, Builtin.firstCells]
    · injection hv with h2 h3 h4; subst h2; subst h4
      simp [Builtin.append_, run_underlying ht, sizeOf, typeInfo, hi, Builtin.lenOf, Builtin.firstCells, hnc, storeCells]
  · have hcells : ∀ j u, news[j]? = some u → w.cell? (ad.add j) = some u := by
      intro j u hu
      rcases Nat.eq_zero_or_pos m with h0 | h0
      · subst h0
        have hn : news = [] := List.eq_nil_of_length_eq_zero (by simpa using hr.1)
        subst hn
        simp at hu
      · obtain ⟨ad', h, _, hc⟩ := hr.2 h0
        injection h with h
        subst h
        exact hc j u hu
    obtain ⟨v', w', hrun, h2, h3, _, h5⟩ := run_append_own_at (P := Pr) w 0 t ty e i z size bytes ht hi hz hsize hby hzs hsz (.slice A n c) n xs hown ad m c2 news hr.1 hcells h1 h63 hbytes (Nat.zero_le _)
    have hv : ∃ A' c', v' = .slice A' (n + m) c' := by
      rcases h2.2 with ⟨rfl, h0⟩ | ⟨g, cap, cur, rfl, _⟩
      · exact ⟨none, 0, by rw [h0]⟩
      · exact ⟨_, _, rfl⟩
    obtain ⟨A', c', rfl⟩ := hv
    exact ⟨A', c', w', hrun, h.own_grown h2 h3 h5, h3.size⟩

theorem wp_append_sep {o : Oper} {a : Act} {K : Act → World → Prop} {Q : Exit → Act → World → Prop} (s x : Operand) (t : TypeId)
    (ho : o.op = .call { callee := .builtin .append, args := #[s, x], argTypes := #[t, t] })
    (e : TypeId) (i : TypeInfo) (z : Value) (size bytes : Nat) (ht : Pr.underlying t = some (.slice e)) (hi : Pr.info? e = some i) (hz : i.zero = some z)
    (hsize : i.size = size) (hby : i.bytes = bytes) (hzs : z.cells.size = size) (hsz : 0 < size)
    {A : Option Addr} {n c : Nat} {xs : List Value} (hs : a.eval s = .slice A n c) (h : Sep w0 w O (own e size A n c xs :: L))
    {F : Nat → Prop} {A2 : Option Addr} {m c2 : Nat} {news : List Value} (hx : a.eval x = .slice A2 m c2) (hr : Rd w.heap F size A2 m news) (h1 : ∀ u ∈ news, u.oneCell' = true)
    (h63 : n + m ≤ maxLen) (hbytes : (n + m) * bytes ≤ 140737488355328) {N : Nat} {ys : List Value} (hN : n + m = N) (hys : xs ++ news = ys)
    (hK : ∀ A' c' w', Sep w0 w' O (own e size A' N c' ys :: L) → w.heap.size ≤ w'.heap.size → K (a.put o.dst (.slice A' N c')) w') : o.wp Pr a w K Q := by
  subst hN; subst hys
  obtain ⟨A', c', w', hrun, h2, h3⟩ := run_append_sep (Pr := Pr) t o.type e i z size bytes ht hi hz hsize hby hzs hsz h (c2 := c2) hr h1 h63 hbytes
  unfold Oper.wp execOp
  simp only [ho, resolve, invoke, builtin, Sem.run_bind, Sem.run_pure, Result.andThen_ok, List.map_toArray, List.map_cons, List.map_nil, hs, hx, hrun]
  exact hK A' c' w' h2 h3

theorem wpList_append_sep {ops : Array Oper} {rest : List Oper} {o : Oper} {a : Act} {Q : Exit → Act → World → Prop} (hgd : o.guard = none) (s x : Operand) (t : TypeId)
    (ho : o.op = .call { callee := .builtin .append, args := #[s, x], argTypes := #[t, t] })
    (e : TypeId) (i : TypeInfo) (z : Value) (size bytes : Nat) (ht : Pr.underlying t = some (.slice e)) (hi : Pr.info? e = some i) (hz : i.zero = some z)
    (hsize : i.size = size) (hby : i.bytes = bytes) (hzs : z.cells.size = size) (hsz : 0 < size)
    {A : Option Addr} {n c : Nat} {xs : List Value} (hs : a.eval s = .slice A n c) (h : Sep w0 w O (own e size A n c xs :: L))
    {F : Nat → Prop} {A2 : Option Addr} {m c2 : Nat} {news : List Value} (hx : a.eval x = .slice A2 m c2) (hr : Rd w.heap F size A2 m news) (h1 : ∀ u ∈ news, u.oneCell' = true)
    (h63 : n + m ≤ maxLen) (hbytes : (n + m) * bytes ≤ 140737488355328) {N : Nat} {ys : List Value} (hN : n + m = N) (hys : xs ++ news = ys)
    (hK : ∀ A' c' w', Sep w0 w' O (own e size A' N c' ys :: L) → w.heap.size ≤ w'.heap.size → wpList Pr ops Q rest (a.put o.dst (.slice A' N c')) w') : wpList Pr ops Q (o :: rest) a w :=
  wpList_plain hgd fun _ hK' => wp_append_sep s x t ho e i z size bytes ht hi hz hsize hby hzs hsz hs h hx hr h1 h63 hbytes hN hys fun A' c' w' h2 h3 => hK' _ _ (hK A' c' w' h2 h3)

theorem step_append_sep {ops : Array Oper} {o : Oper} {a : Act} {K : Act → World → Prop} {Q : Exit → Act → World → Prop} {E : Prop} (hgd : o.guard = none) (s x : Operand) (t : TypeId)
    (ho : o.op = .call { callee := .builtin .append, args := #[s, x], argTypes := #[t, t] })
    (e : TypeId) (i : TypeInfo) (z : Value) (size bytes : Nat) (ht : Pr.underlying t = some (.slice e)) (hi : Pr.info? e = some i) (hz : i.zero = some z)
    (hsize : i.size = size) (hby : i.bytes = bytes) (hzs : z.cells.size = size) (hsz : 0 < size)
    {A : Option Addr} {n c : Nat} {xs : List Value} (hs : a.eval s = .slice A n c) (h : Sep w0 w O (own e size A n c xs :: L))
    {F : Nat → Prop} {A2 : Option Addr} {m c2 : Nat} {news : List Value} (hx : a.eval x = .slice A2 m c2) (hr : Rd w.heap F size A2 m news) (h1 : ∀ u ∈ news, u.oneCell' = true)
    (h63 : n + m ≤ maxLen) (hbytes : (n + m) * bytes ≤ 140737488355328) {N : Nat} {ys : List Value} (hN : n + m = N) (hys : xs ++ news = ys)
    (hK : ∀ A' c' w', Sep w0 w' O (own e size A' N c' ys :: L) → w.heap.size ≤ w'.heap.size → K (a.put o.dst (.slice A' N c')) w') :
    if Region.wanted o (yielded ops a.tmps) = true then Oper.wp Pr o a w K Q else E := by
  have hw : Region.wanted o (yielded ops a.tmps) = true := by simp [Region.wanted, hgd]
  rw [if_pos hw]
  exact wp_append_sep s x t ho e i z size bytes ht hi hz hsize hby hzs hsz hs h hx hr h1 h63 hbytes hN hys hK
end

end Go.Proofs.Ytkdoocgjagpcbaa
