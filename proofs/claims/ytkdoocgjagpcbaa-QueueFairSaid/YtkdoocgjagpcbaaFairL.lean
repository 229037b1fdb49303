/-
  Plain laws of fairness: what is taken of another flow and was added behind an item costs less than it and those of its flow that were there.
-/
import Derived.Test.YtkdoocgjagpcbaaQueueL
namespace Go.Proofs.Ytkdoocgjagpcbaa
set_option linter.unusedVariables false
set_option linter.unusedSimpArgs false
def sumC (p : Hd → Bool) : List Hd → Int
  | [] => 0
  | y :: S => (if p y = true then y.cost else 0) + sumC p S
theorem sumC_perm {p : Hd → Bool} {A B : List Hd} (h : A.Perm B) : sumC p A = sumC p B := by
  induction h with
  | nil => rfl
  | cons x _ ih => simp only [sumC, ih]
  | swap x y l => simp only [sumC]; omega
  | trans _ _ ih1 ih2 => exact ih1.trans ih2
theorem sumC_congr {p r : Hd → Bool} {A : List Hd} (h : ∀ y ∈ A, p y = r y) : sumC p A = sumC r A := by
  induction A with
  | nil => rfl
  | cons x A ih =>
    simp only [sumC]
    rw [h x (List.mem_cons_self ..), ih fun y hy => h y (List.mem_cons_of_mem _ hy)]
theorem sumC_none {p : Hd → Bool} {A : List Hd} (h : ∀ y ∈ A, p y = false) : sumC p A = 0 := by
  induction A with
  | nil => rfl
  | cons x A ih =>
    simp only [sumC]
    rw [h x (List.mem_cons_self ..), ih fun y hy => h y (List.mem_cons_of_mem _ hy)]
    rfl
theorem sumC_nn {p : Hd → Bool} {A : List Hd} (h : ∀ y ∈ A, 1 ≤ y.cost) : 0 ≤ sumC p A := by
  induction A with
  | nil => exact Int.le_refl _
  | cons x A ih =>
    simp only [sumC]
    have h1 := h x (List.mem_cons_self ..)
    have h2 := ih fun y hy => h y (List.mem_cons_of_mem _ hy)
    split <;> omega
theorem sumC_le {p : Hd → Bool} {A : List Hd} (h : ∀ y ∈ A, y.cost ≤ 1048576) : sumC p A ≤ A.length * 1048576 := by
  induction A with
  | nil => simp [sumC]
  | cons x A ih =>
    simp only [sumC, List.length_cons]
    have h1 := h x (List.mem_cons_self ..)
    have h2 := ih fun y hy => h y (List.mem_cons_of_mem _ hy)
    split <;> omega
def ofFlow (f : Int) (y : Hd) : Bool := y.flow == f
def behind (x : Hd) (y : Hd) : Bool := y.flow == x.flow && decide (x.n < y.n)
/-- an item that waits: all that it may wait for, what was taken of each flow, and when it came -/
structure Wt where
  y : Hd
  all : Int
  tk : List Int
  t : Int
structure WtOk (q : Qu) (w : Wt) : Prop where
  len : w.tk.length = 8
  up : w.y.tag ≤ w.t + w.all
  bd : w.all ≤ 135266304
  nn : ∀ g, g < 8 → 0 ≤ gat w.tk g
  lt : ∀ g, g < 8 → gat w.tk g ≤ 135266304
  now : ∀ g, g < 8 → w.t + gat w.tk g ≤ q.time
  next : ∀ z ∈ q.S, ¬ z.flow = w.y.flow → w.y.n < z.n → w.t + gat w.tk z.flow.toNat + z.cost ≤ z.tag
structure Fair (q : Qu) (ws : List Wt) : Prop where
  i0 : ∀ y ∈ q.S, q.time ≤ y.tag
  l1 : ∀ y ∈ q.S, y.tag ≤ gat q.last y.flow.toNat
  ch : ∀ y ∈ q.S, ∀ z ∈ q.S, y.flow = z.flow → y.n < z.n → y.tag + z.cost ≤ z.tag
  ub : ∀ f : Nat, f < 8 → gat q.last f ≤ q.time + sumC (ofFlow f) q.S
  ex : ∀ y ∈ q.S, gat q.last y.flow.toNat ≤ y.tag + sumC (behind y) q.S
  ids : ∀ y ∈ q.S, y.id = y.n - 1
  pos : ∀ y ∈ q.S, 1 ≤ y.n
  dis : ∀ y ∈ q.S, ∀ z ∈ q.S, y.n = z.n → y = z
  wp : (ws.map (·.y)).Perm q.S
  wo : ws.Pairwise fun a b => a.y.n < b.y.n
  wt : ∀ w ∈ ws, WtOk q w
theorem noFair : Fair noQu [] where
  i0 := fun _ h => by cases h
  l1 := fun _ h => by cases h
  ch := fun _ h => by cases h
  ub := fun f hf => by
    rcases (show f = 0 ∨ f = 1 ∨ f = 2 ∨ f = 3 ∨ f = 4 ∨ f = 5 ∨ f = 6 ∨ f = 7 by omega) with rfl | rfl | rfl | rfl | rfl | rfl | rfl | rfl <;> decide
  ex := fun _ h => by cases h
  ids := fun _ h => by cases h
  pos := fun _ h => by cases h
  dis := fun _ h => by cases h
  wp := .refl _
  wo := List.Pairwise.nil
  wt := fun _ h => by cases h
theorem gat_set {l : List Int} {i j : Nat} {x : Int} (hj : i < l.length) : gat (l.set i x) j = if i = j then x else gat l j := by
  unfold gat
  rw [List.getElem?_set]
  by_cases h : i = j
  · rw [if_pos h, if_pos hj, if_pos h]; rfl
  · rw [if_neg h, if_neg h]
/-- the wait of an item that is added -/
def newWt (q : Qu) (k : Nat) (c id : Int) : Wt := ⟨⟨k, c, id, adTag q k c, q.n + 1⟩, sumC (ofFlow k) q.S + c, [0, 0, 0, 0, 0, 0, 0, 0], q.time⟩
theorem fair_add {b : Nat} {q : Qu} {ws : List Wt} (hok : QuOk b q) (hf : Fair q ws) {k : Nat} {c : Int} (he : adE q k c = 0) (hn : q.n < 18446744073709551616) : Fair (adQ q k c q.n) (ws ++ [newWt q k c q.n]) := by
  obtain ⟨e1, e2, e3, e4, e5⟩ := adE_ok he
  have hk : k < 8 := by omega
  have hkl : k < q.last.length := by rw [hok.len]; exact hk
  have hq : adQ q k c q.n = ⟨q.time, q.n + 1, q.last.set k (adTag q k c), insH ⟨k, c, q.n, adTag q k c, q.n + 1⟩ q.S⟩ := by unfold adQ; rw [if_pos he, Int.toNat_natCast]
  obtain ⟨z, hz⟩ : ∃ z : Hd, z = ⟨k, c, q.n, adTag q k c, q.n + 1⟩ := ⟨_, rfl⟩
  obtain ⟨tg, htg⟩ : ∃ tg, tg = adTag q k c := ⟨_, rfl⟩
  have hw : newWt q k c q.n = ⟨z, sumC (ofFlow k) q.S + c, [0, 0, 0, 0, 0, 0, 0, 0], q.time⟩ := by rw [hz]; rfl
  rw [hq, hw, ← hz, ← htg]
  have ht : tg = max q.time (gat q.last k) + c := by rw [htg]; unfold adTag; rw [Int.toNat_natCast]
  have zf : z.flow = k := by rw [hz]
  have zc : z.cost = c := by rw [hz]
  have zt : z.tag = tg := by rw [hz, htg]
  have zn : z.n = q.n + 1 := by rw [hz]
  have zi : z.id = q.n := by rw [hz]
  have hm : ∀ y, y ∈ insH z q.S ↔ y = z ∨ y ∈ q.S := fun y => by rw [(insH_perm z q.S).mem_iff, List.mem_cons]
  have hs : ∀ p, sumC p (insH z q.S) = (if p z = true then c else 0) + sumC p q.S := fun p => by rw [sumC_perm (insH_perm z q.S), sumC, zc]
  have hl : ∀ y, y ∈ q.S → y.n < z.n := fun y hy => by have := hok.num y hy; omega
  have h0 := hok.n0
  clear hq hw hz htg
  have hub := hf.ub k hk
  exact {
    i0 := fun y hy => by
      rcases (hm y).1 hy with rfl | hy
      · show q.time ≤ _; omega
      · exact hf.i0 y hy
    l1 := fun y hy => by
      show y.tag ≤ gat (q.last.set k tg) y.flow.toNat
      rw [gat_set hkl]
      rcases (hm y).1 hy with rfl | hy
      · rw [zf, Int.toNat_natCast, if_pos rfl]; omega
      · have h1 := hf.l1 y hy
        split
        · rename_i h; rw [← h] at h1; omega
        · exact h1
    ch := fun y hy x hx hyx hn => by
      rcases (hm y).1 hy with hyz | hy2
      · rcases (hm x).1 hx with hxz | hx2
        · rw [hyz, hxz] at hn; omega
        · have := hl x hx2; rw [hyz] at hn; omega
      · rcases (hm x).1 hx with hxz | hx2
        · have h1 := hf.l1 y hy2
          rw [hyx, hxz, zf, Int.toNat_natCast] at h1
          rw [hxz]
          omega
        · exact hf.ch y hy2 x hx2 hyx hn
    ub := fun f hf8 => by
      show gat (q.last.set k tg) f ≤ q.time + sumC (ofFlow f) (insH z q.S)
      rw [gat_set hkl, hs]
      unfold ofFlow
      have hu := hf.ub f hf8
      have hs0 := sumC_nn (p := ofFlow f) fun y hy => (hok.cost y hy).1
      by_cases h : k = f
      · subst h
        rw [if_pos rfl, if_pos (by rw [zf]; simp)]
        unfold ofFlow at hu hs0
        omega
      · rw [if_neg h, if_neg (by rw [zf]; simp; omega)]
        unfold ofFlow at hu
        omega
    ex := fun y hy => by
      show gat (q.last.set k tg) y.flow.toNat ≤ y.tag + sumC (behind y) (insH z q.S)
      rw [gat_set hkl, hs]
      rcases (hm y).1 hy with rfl | hy
      · rw [zf, Int.toNat_natCast, if_pos rfl, sumC_none (p := behind y) fun x hx => by
          unfold behind
          have := hl x hx
          rw [decide_eq_false (by omega), Bool.and_false]]
        split <;> omega
      · have h1 := hf.ex y hy
        have h2 := hf.l1 y hy
        have h3 := hf.i0 y hy
        have h4 := hl y hy
        have hfl := hok.flow y hy
        by_cases h : k = y.flow.toNat
        · rw [← h] at h1 h2 ⊢
          rw [if_pos rfl, if_pos (by unfold behind; rw [zf, decide_eq_true h4, Bool.and_true]; simp; omega)]
          omega
        · rw [if_neg h, if_neg (by unfold behind; rw [zf]; simp; omega)]
          omega
    ids := fun y hy => by
      rcases (hm y).1 hy with rfl | hy
      · omega
      · exact hf.ids y hy
    pos := fun y hy => by
      rcases (hm y).1 hy with rfl | hy
      · omega
      · exact hf.pos y hy
    dis := fun y hy x hx hyx => by
      rcases (hm y).1 hy with hyz | hy2
      · rcases (hm x).1 hx with hxz | hx2
        · rw [hyz, hxz]
        · have := hl x hx2; rw [hyz] at hyx; omega
      · rcases (hm x).1 hx with hxz | hx2
        · have := hl y hy2; rw [hxz] at hyx; omega
        · exact hf.dis y hy2 x hx2 hyx
    wp := by
      rw [List.map_append]
      exact (List.perm_append_comm (l₂ := [z])).trans ((hf.wp.cons z).trans (insH_perm z q.S).symm)
    wo := by
      refine List.pairwise_append.2 ⟨hf.wo, List.pairwise_singleton .., fun a ha x hx => ?_⟩
      rw [List.mem_singleton] at hx
      subst hx
      exact hl a.y (hf.wp.subset (List.mem_map_of_mem ha))
    wt := fun w hw => by
      rcases List.mem_append.1 hw with hw | hw
      · have h := hf.wt w hw
        have hwy := hl w.y (hf.wp.subset (List.mem_map_of_mem hw))
        exact {
          len := h.len
          up := h.up
          bd := h.bd
          nn := h.nn
          lt := h.lt
          now := h.now
          next := fun x hx hne hlt => by
            rcases (hm x).1 hx with rfl | hx
            · have := h.now k hk
              rw [zf, Int.toNat_natCast]
              omega
            · exact h.next x hx hne hlt }
      · rw [List.mem_singleton] at hw
        subst hw
        have hsl := sumC_le (p := ofFlow k) fun y hy => (hok.cost y hy).2
        have hsm := hok.small
        have hz0 : ∀ g, g < 8 → gat ([0, 0, 0, 0, 0, 0, 0, 0] : List Int) g = 0 := fun g hg => by
          rcases (show g = 0 ∨ g = 1 ∨ g = 2 ∨ g = 3 ∨ g = 4 ∨ g = 5 ∨ g = 6 ∨ g = 7 by omega) with rfl | rfl | rfl | rfl | rfl | rfl | rfl | rfl <;> rfl
        exact {
          len := rfl
          up := by show z.tag ≤ q.time + (sumC (ofFlow k) q.S + c); have := sumC_nn (p := ofFlow k) fun y hy => (hok.cost y hy).1; omega
          bd := by show sumC (ofFlow k) q.S + c ≤ 135266304; omega
          nn := fun g hg => by rw [hz0 g hg]; exact Int.le_refl _
          lt := fun g hg => by rw [hz0 g hg]; decide
          now := fun g hg => by rw [hz0 g hg]; show q.time + 0 ≤ q.time; omega
          next := fun x hx hne hlt => by
            exfalso
            rcases (hm x).1 hx with rfl | hx
            · exact hne rfl
            · have := hl x hx
              have hlt : z.n < x.n := hlt
              omega } }
end Go.Proofs.Ytkdoocgjagpcbaa
