/-
  Plain laws of a fair queue: what it holds, in order; what its calls tell and leave.
-/
import Derived.Test.YtkdoocgjagpcbaaQueueM
namespace Go.Proofs.Ytkdoocgjagpcbaa
set_option linter.unusedVariables false
set_option linter.unusedSimpArgs false
theorem gat_mem {α : Type} [Inhabited α] {l : List α} {k : Nat} (h : k < l.length) : gat l k ∈ l := List.mem_of_getElem? (gat_get h)
/-- in the order of a queue's heap, no two alike -/
def Srt (S : List Hd) : Prop := S.Pairwise fun a b => ltH a b = true
theorem srt_head {x : Hd} {R S : List Hd} (h : Srt S) (hp : (x :: R).Perm S) (hl : ∀ y ∈ R, ltH y x = false) : ∃ S', S = x :: S' ∧ R.Perm S' ∧ Srt S' := by
  cases S with
  | nil => exact absurd hp.length_eq (by simp)
  | cons s S0 =>
    obtain ⟨h1, h2⟩ := List.pairwise_cons.1 h
    by_cases e : x = s
    · subst e
      exact ⟨S0, rfl, (List.perm_cons x).1 hp, h2⟩
    · have h3 : x ∈ s :: S0 := hp.subset (List.mem_cons_self ..)
      have h4 : s ∈ x :: R := hp.symm.subset (List.mem_cons_self ..)
      have h5 : s ∈ R := by
        rcases List.mem_cons.1 h4 with h | h
        · exact absurd h.symm e
        · exact h
      have h6 : x ∈ S0 := by
        rcases List.mem_cons.1 h3 with h | h
        · exact absurd h e
        · exact h
      have := h1 x h6
      rw [hl s h5] at this
      cases this
/-- what comes of popping all -/
def popsL : Nat → List Hd → List Hd
  | 0, _ => []
  | k + 1, xs => gat (popL ltH xs) k :: popsL k ((popL ltH xs).take k)
theorem pops_eq : ∀ (n : Nat) (xs S : List Hd), xs.length = n → Heap ltH xs n → xs.Perm S → Srt S → popsL n xs = S := by
  intro n
  induction n with
  | zero =>
    intro xs S hn _ hp _
    have : xs = [] := List.eq_nil_of_length_eq_zero hn
    subst this
    rw [List.nil_perm.1 hp]
    rfl
  | succ n ih =>
    intro xs S hn hh hp hs
    obtain ⟨p1, p2, p3, p4⟩ := pop_ok ltH_ordr (l := xs) (by rw [hn]; exact hh) (by omega)
    rw [hn, Nat.add_sub_cancel] at p2 p3 p4
    have hle := hh.least ltH_ordr
    have hl : ∀ y ∈ (popL ltH xs).take n, ltH y (gat xs 0) = false := by
      intro y hy
      have hy2 : y ∈ xs := p4.symm.subset (List.mem_cons_of_mem _ hy)
      obtain ⟨k, hk, rfl⟩ := List.getElem_of_mem hy2
      have := hle k (by omega)
      unfold gat at this
      rw [List.getElem?_eq_getElem hk] at this
      exact this
    obtain ⟨S', rfl, hp2, hs2⟩ := srt_head hs (p4.symm.trans hp) hl
    rw [popsL, p2, ih _ S' (by rw [List.length_take, p1]; omega) p3 hp2 hs2]
/-- an item behind those that have no greater tag -/
def insH (x : Hd) : List Hd → List Hd
  | [] => [x]
  | y :: S => if x.tag < y.tag then x :: y :: S else y :: insH x S
theorem insH_perm (x : Hd) : ∀ S : List Hd, (insH x S).Perm (x :: S) := by
  intro S
  induction S with
  | nil => exact .refl _
  | cons y S ih =>
    rw [insH]
    split
    · exact .refl _
    · exact (ih.cons y).trans (List.Perm.swap x y S)
theorem insH_srt {x : Hd} : ∀ {S : List Hd}, Srt S → (∀ y ∈ S, y.n < x.n) → Srt (insH x S) := by
  intro S
  induction S with
  | nil => intro _ _; exact List.pairwise_singleton ..
  | cons y S ih =>
    intro h hn
    obtain ⟨h1, h2⟩ := List.pairwise_cons.1 h
    rw [insH]
    split
    · rename_i hlt
      refine List.pairwise_cons.2 ⟨fun z hz => ?_, h⟩
      have hxy : ltH x y = true := by unfold ltH; rw [if_neg (by omega)]; simpa using hlt
      rcases List.mem_cons.1 hz with rfl | hz
      · exact hxy
      · exact ltH_ordr.trans hxy (h1 z hz)
    · rename_i hlt
      refine List.pairwise_cons.2 ⟨fun z hz => ?_, ih h2 fun z hz => hn z (List.mem_cons_of_mem _ hz)⟩
      rcases List.mem_cons.1 ((insH_perm x S).subset hz) with rfl | hz
      · have hyn := hn y (List.mem_cons_self ..)
        unfold ltH
        by_cases e : y.tag = z.tag
        · rw [if_pos e]; simpa using hyn
        · rw [if_neg e]; simp; omega
      · exact h1 z hz
theorem erase_perm {S : List Hd} : ∀ {i : Nat}, i < S.length → S.Perm (gat S i :: S.eraseIdx i) := by
  induction S with
  | nil => intro i h; simp at h
  | cons y S ih =>
    intro i h
    cases i with
    | zero => exact .refl _
    | succ i =>
      have := ih (i := i) (by simpa using h)
      exact (this.cons y).trans (List.Perm.swap _ y _)
theorem erase_srt {S : List Hd} (h : Srt S) (i : Nat) : Srt (S.eraseIdx i) := List.Pairwise.sublist (List.eraseIdx_sublist ..) h
theorem filter_srt {S : List Hd} (h : Srt S) (p : Hd → Bool) : Srt (S.filter p) := List.Pairwise.filter _ h
/-- how many of a flow -/
def cntF (S : List Hd) (f : Int) : Nat := S.countP fun h => h.flow == f
theorem cntF_perm {A B : List Hd} (h : A.Perm B) (f : Int) : cntF A f = cntF B f := h.countP_eq _
theorem cntF_cons (x : Hd) (S : List Hd) (f : Int) : cntF (x :: S) f = cntF S f + if x.flow = f then 1 else 0 := by
  unfold cntF
  rw [List.countP_cons]
  by_cases h : x.flow = f
  · simp [h]
  · simp [h]
theorem cntF_filter (S : List Hd) (f g : Int) : cntF (S.filter fun h => !(h.flow == f)) g = if g = f then 0 else cntF S g := by
  induction S with
  | nil => simp [cntF]
  | cons x S ih =>
    rw [List.filter_cons]
    by_cases hx : x.flow = f
    · have : (!(x.flow == f)) = false := by simp [hx]
      rw [this, if_neg (by simp), ih, cntF_cons]
      by_cases hg : g = f
      · rw [if_pos hg, if_pos hg]
      · rw [if_neg hg, if_neg hg, if_neg (by omega)]; rfl
    · have : (!(x.flow == f)) = true := by simp [hx]
      rw [this, if_pos rfl, cntF_cons, ih, cntF_cons]
      by_cases hg : g = f
      · rw [if_pos hg, if_pos hg, if_neg (by omega)]
      · rw [if_neg hg, if_neg hg]
/-- all flows in bounds, none with more than 16: no more than 128 -/
theorem len_cnt {S : List Hd} (h : ∀ y ∈ S, 0 ≤ y.flow ∧ y.flow < 8) : S.length = cntF S 0 + cntF S 1 + cntF S 2 + cntF S 3 + cntF S 4 + cntF S 5 + cntF S 6 + cntF S 7 := by
  induction S with
  | nil => rfl
  | cons x S ih =>
    have h1 := ih fun y hy => h y (List.mem_cons_of_mem _ hy)
    have h2 := h x (List.mem_cons_self ..)
    simp only [cntF_cons, List.length_cons]
    rcases (show x.flow = 0 ∨ x.flow = 1 ∨ x.flow = 2 ∨ x.flow = 3 ∨ x.flow = 4 ∨ x.flow = 5 ∨ x.flow = 6 ∨ x.flow = 7 by omega) with e | e | e | e | e | e | e | e <;> rw [e] <;> simp <;> omega
/-- a queue: its time, how many were added, each flow's last tag, what it holds in order -/
structure Qu where
  time : Int
  n : Int
  last : List Int
  S : List Hd
/-- a queue behind at most b adds -/
structure QuOk (b : Nat) (q : Qu) : Prop where
  srt : Srt q.S
  len : q.last.length = 8
  flow : ∀ y ∈ q.S, 0 ≤ y.flow ∧ y.flow < 8
  cost : ∀ y ∈ q.S, 1 ≤ y.cost ∧ y.cost ≤ 1048576
  num : ∀ y ∈ q.S, y.n ≤ q.n
  cnt : ∀ f, cntF q.S f ≤ 16
  n0 : 0 ≤ q.n ∧ q.n ≤ b
  t0 : 0 ≤ q.time ∧ q.time ≤ b * 1048576
  l0 : ∀ x ∈ q.last, 0 ≤ x ∧ x ≤ b * 1048576
  tag : ∀ y ∈ q.S, 0 ≤ y.tag ∧ y.tag ≤ b * 1048576
theorem QuOk.small {b : Nat} {q : Qu} (h : QuOk b q) : q.S.length ≤ 128 := by
  have := len_cnt h.flow
  have h0 := h.cnt 0
  have h1 := h.cnt 1
  have h2 := h.cnt 2
  have h3 := h.cnt 3
  have h4 := h.cnt 4
  have h5 := h.cnt 5
  have h6 := h.cnt 6
  have h7 := h.cnt 7
  omega
theorem QuOk.more {b c : Nat} {q : Qu} (h : QuOk b q) (hc : b ≤ c) : QuOk c q where
  srt := h.srt
  len := h.len
  flow := h.flow
  cost := h.cost
  num := h.num
  cnt := h.cnt
  n0 := by have := h.n0; omega
  t0 := by have := h.t0; omega
  l0 := fun x hx => by have := h.l0 x hx; omega
  tag := fun y hy => by have := h.tag y hy; omega
def noQu : Qu := ⟨0, 0, [0, 0, 0, 0, 0, 0, 0, 0], []⟩
theorem noQu_ok : QuOk 0 noQu where
  srt := List.Pairwise.nil
  len := rfl
  flow := fun _ h => by cases h
  cost := fun _ h => by cases h
  num := fun _ h => by cases h
  cnt := fun _ => by simp [noQu, cntF]
  n0 := by simp [noQu]
  t0 := by simp [noQu]
  l0 := fun x hx => by simp [noQu] at hx; omega
  tag := fun _ h => by cases h
def adE (q : Qu) (f c : Int) : Int := if f < 0 ∨ 8 ≤ f ∨ c < 1 ∨ 1048576 < c then 1 else if 16 ≤ cntF q.S f then 8 else 0
def adTag (q : Qu) (f c : Int) : Int := max q.time (gat q.last f.toNat) + c
def adQ (q : Qu) (f c id : Int) : Qu := if adE q f c = 0 then ⟨q.time, q.n + 1, q.last.set f.toNat (adTag q f c), insH ⟨f, c, id, adTag q f c, q.n + 1⟩ q.S⟩ else q
theorem adE_ok {q : Qu} {f c : Int} (h : adE q f c = 0) : 0 ≤ f ∧ f < 8 ∧ 1 ≤ c ∧ c ≤ 1048576 ∧ cntF q.S f < 16 := by
  unfold adE at h
  split at h
  · cases h
  · split at h
    · cases h
    · omega
theorem adTag_bd {b : Nat} {q : Qu} (h : QuOk b q) {f c : Int} (hf : 0 ≤ f ∧ f < 8) (hc : 1 ≤ c ∧ c ≤ 1048576) : 0 ≤ adTag q f c ∧ adTag q f c ≤ ((b : Int) + 1) * 1048576 := by
  have h1 := h.t0
  have h2 := h.l0 (gat q.last f.toNat) (gat_mem (by rw [h.len]; omega))
  unfold adTag
  omega
theorem adQ_ok {b : Nat} {q : Qu} (h : QuOk b q) (f c id : Int) : QuOk (b + 1) (adQ q f c id) := by
  unfold adQ
  split
  · rename_i he
    obtain ⟨e1, e2, e3, e4, e5⟩ := adE_ok he
    have ht := adTag_bd h ⟨e1, e2⟩ ⟨e3, e4⟩
    have hm : ∀ {p : Hd → Prop}, p ⟨f, c, id, adTag q f c, q.n + 1⟩ → (∀ y ∈ q.S, p y) → ∀ y ∈ insH ⟨f, c, id, adTag q f c, q.n + 1⟩ q.S, p y := fun h1 h2 y hy => by
      rcases List.mem_cons.1 ((insH_perm _ _).subset hy) with rfl | hy
      · exact h1
      · exact h2 y hy
    exact {
      srt := insH_srt h.srt fun y hy => by have := h.num y hy; show y.n < q.n + 1; omega
      len := by rw [List.length_set]; exact h.len
      flow := hm ⟨e1, e2⟩ h.flow
      cost := hm ⟨e3, e4⟩ h.cost
      num := hm (Int.le_refl _) fun y hy => by have := h.num y hy; show y.n ≤ q.n + 1; omega
      cnt := fun g => by
        show cntF (insH _ q.S) g ≤ 16
        rw [cntF_perm (insH_perm _ _), cntF_cons]
        have := h.cnt g
        split
        · rename_i e; have e : f = g := e; subst e; omega
        · omega
      n0 := by have := h.n0; show 0 ≤ q.n + 1 ∧ q.n + 1 ≤ ((b + 1 : Nat) : Int); omega
      t0 := by have := h.t0; show 0 ≤ q.time ∧ q.time ≤ ((b + 1 : Nat) : Int) * 1048576; omega
      l0 := fun x hx => by
        rcases List.mem_or_eq_of_mem_set hx with hx | rfl
        · have := h.l0 x hx; omega
        · omega
      tag := hm (by show 0 ≤ adTag q f c ∧ adTag q f c ≤ ((b + 1 : Nat) : Int) * 1048576; omega) fun y hy => by have := h.tag y hy; omega }
  · exact h.more (Nat.le_succ _)
/-- what is taken at i -/
def tkQ (q : Qu) (i : Int) : Qu := if i < 0 ∨ (q.S.length : Int) ≤ i then q else ⟨max q.time (gat q.S i.toNat).tag, q.n, q.last, q.S.eraseIdx i.toNat⟩
def tkIs (q : Qu) (i : Int) : Bool := if i < 0 ∨ (q.S.length : Int) ≤ i then false else true
def tkAt (q : Qu) (i : Int) : Hd := if i < 0 ∨ (q.S.length : Int) ≤ i then ⟨0, 0, 0, 0, 0⟩ else gat q.S i.toNat
theorem tkQ_ok {b : Nat} {q : Qu} (h : QuOk b q) (i : Int) : QuOk b (tkQ q i) := by
  unfold tkQ
  split
  · exact h
  · rename_i hi
    have hl : i.toNat < q.S.length := by omega
    have hs : ∀ y ∈ q.S.eraseIdx i.toNat, y ∈ q.S := fun y hy => (List.eraseIdx_sublist ..).subset hy
    have hx : gat q.S i.toNat ∈ q.S := gat_mem hl
    have hc : ∀ f, cntF q.S f = cntF (q.S.eraseIdx i.toNat) f + if (gat q.S i.toNat).flow = f then 1 else 0 := fun f => by rw [cntF_perm (erase_perm hl), cntF_cons]
    exact {
      srt := erase_srt h.srt _
      len := h.len
      flow := fun y hy => h.flow y (hs y hy)
      cost := fun y hy => h.cost y (hs y hy)
      num := fun y hy => h.num y (hs y hy)
      cnt := fun f => by have := hc f; have := h.cnt f; show cntF (q.S.eraseIdx i.toNat) f ≤ 16; omega
      n0 := h.n0
      t0 := by have := h.t0; have := h.tag _ hx; show 0 ≤ max q.time (gat q.S i.toNat).tag ∧ max q.time (gat q.S i.toNat).tag ≤ (b : Int) * 1048576; omega
      l0 := h.l0
      tag := fun y hy => h.tag y (hs y hy) }
/-- what is dropped of a flow -/
def drQ (q : Qu) (f : Int) : Qu := if f < 0 ∨ 8 ≤ f then q else ⟨q.time, q.n, q.last.set f.toNat 0, q.S.filter fun h => !(h.flow == f)⟩
def ofQ (q : Qu) (f : Int) : Nat := if f < 0 ∨ 8 ≤ f then 0 else cntF q.S f
theorem drQ_ok {b : Nat} {q : Qu} (h : QuOk b q) (f : Int) : QuOk b (drQ q f) := by
  unfold drQ
  split
  · exact h
  · have hs : ∀ y ∈ q.S.filter (fun h => !(h.flow == f)), y ∈ q.S := fun y hy => (List.mem_filter.1 hy).1
    exact {
      srt := filter_srt h.srt _
      len := by rw [List.length_set]; exact h.len
      flow := fun y hy => h.flow y (hs y hy)
      cost := fun y hy => h.cost y (hs y hy)
      num := fun y hy => h.num y (hs y hy)
      cnt := fun g => by show cntF (q.S.filter _) g ≤ 16; rw [cntF_filter]; have := h.cnt g; split <;> omega
      n0 := h.n0
      t0 := h.t0
      l0 := fun x hx => by
        rcases List.mem_or_eq_of_mem_set hx with hx | rfl
        · exact h.l0 x hx
        · omega
      tag := fun y hy => h.tag y (hs y hy) }
end Go.Proofs.Ytkdoocgjagpcbaa
