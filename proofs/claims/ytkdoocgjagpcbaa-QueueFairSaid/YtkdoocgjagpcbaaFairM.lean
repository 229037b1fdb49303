/-
  Plain laws of fairness: what a take leaves.
-/
import Derived.Test.YtkdoocgjagpcbaaFairL
namespace Go.Proofs.Ytkdoocgjagpcbaa
set_option linter.unusedVariables false
set_option linter.unusedSimpArgs false
/-- a wait behind a take of x -/
def updWt (x : Hd) (w : Wt) : Wt := if w.y.n < x.n ∧ ¬ w.y.flow = x.flow then ⟨w.y, w.all, w.tk.set x.flow.toNat (gat w.tk x.flow.toNat + x.cost), w.t⟩ else w
theorem updWt_y (x : Hd) (w : Wt) : (updWt x w).y = w.y := by unfold updWt; split <;> rfl
def keepWt (x : Hd) (w : Wt) : Bool := !decide (w.y = x)
def leftWt (x : Hd) (ws : List Wt) : List Wt := (ws.filter (keepWt x)).map (updWt x)
theorem leftWt_y (x : Hd) (ws : List Wt) : (leftWt x ws).map (·.y) = (ws.map (·.y)).filter fun y => !decide (y = x) := by
  unfold leftWt
  rw [List.map_map]
  induction ws with
  | nil => rfl
  | cons w ws ih =>
    rw [List.filter_cons, List.map_cons, List.filter_cons]
    unfold keepWt at ih ⊢
    cases decide (w.y = x)
    · simp only [Bool.not_false, if_true, List.map_cons, ih, Function.comp_apply, updWt_y]
    · simp only [Bool.not_true, Bool.false_eq_true, if_false, ih]
structure TakeOk (x : Hd) (w : Wt) : Prop where
  elder : w.y.flow = x.flow → x.n < w.y.n
  less : w.y.n < x.n → ¬ w.y.flow = x.flow → gat w.tk x.flow.toNat + x.cost < w.all
theorem fair_take {b : Nat} {q : Qu} {ws : List Wt} {x : Hd} {R : List Hd} (hok : QuOk b q) (hf : Fair q ws) (hS : q.S = x :: R) :
    Fair ⟨max q.time x.tag, q.n, q.last, R⟩ (leftWt x ws) ∧ ∀ w ∈ ws, ¬ w.y = x → TakeOk x w := by
  have hxm : x ∈ q.S := by rw [hS]; exact List.mem_cons_self ..
  have hR : ∀ y ∈ R, y ∈ q.S := fun y hy => by rw [hS]; exact List.mem_cons_of_mem _ hy
  have hsr := hok.srt
  rw [hS] at hsr
  have hmin := (List.pairwise_cons.1 hsr).1
  have hmin2 : ∀ y ∈ R, x.tag < y.tag ∨ (x.tag = y.tag ∧ x.n < y.n) := fun y hy => by
    have h := hmin y hy
    unfold ltH at h
    split at h
    · rename_i e; exact .inr ⟨e, by simpa using h⟩
    · exact .inl (by simpa using h)
  have hne : ∀ y ∈ R, ¬ y = x := fun y hy e => by
    subst e
    have h := hmin y hy
    rw [ltH_ordr.irr] at h
    cases h
  have hfi : ∀ y ∈ R, y.flow = x.flow → x.n < y.n := fun y hy e => by
    rcases Int.lt_trichotomy y.n x.n with h | h | h
    · have h1 := hf.ch y (hR y hy) x hxm e h
      have h2 := (hok.cost x hxm).1
      rcases hmin2 y hy with h3 | ⟨h3, -⟩ <;> omega
    · exact absurd (hf.dis y (hR y hy) x hxm h) (hne y hy)
    · exact h
  have htm : max q.time x.tag = x.tag := by have := hf.i0 x hxm; omega
  have hti := hf.i0 x hxm
  have hsum : ∀ p, sumC p q.S = (if p x = true then x.cost else 0) + sumC p R := fun p => by rw [hS, sumC]
  have hxf := hok.flow x hxm
  obtain ⟨k, hk⟩ := Int.eq_ofNat_of_zero_le hxf.1
  have hk8 : k < 8 := by omega
  have hxc := hok.cost x hxm
  have hwm : ∀ w ∈ ws, ¬ w.y = x → w.y ∈ R := fun w hw hwx => by
    have h := hf.wp.subset (List.mem_map_of_mem hw)
    rw [hS] at h
    rcases List.mem_cons.1 h with h | h
    · exact absurd h hwx
    · exact h
  have htk : ∀ w ∈ ws, ¬ w.y = x → TakeOk x w := fun w hw hwx => by
    have hy := hwm w hw hwx
    refine ⟨fun e => hfi w.y hy e, fun hn hfl => ?_⟩
    have h1 := (hf.wt w hw).next x hxm (fun e => hfl e.symm) hn
    have h2 := (hf.wt w hw).up
    rcases hmin2 w.y hy with h3 | ⟨-, h3⟩ <;> omega
  rw [htm]
  refine ⟨?_, htk⟩
  exact {
    i0 := fun y hy => by
      show x.tag ≤ y.tag
      rcases hmin2 y hy with h | ⟨h, -⟩ <;> omega
    l1 := fun y hy => hf.l1 y (hR y hy)
    ch := fun y hy z hz => hf.ch y (hR y hy) z (hR z hz)
    ub := fun f hf8 => by
      show gat q.last f ≤ x.tag + sumC (ofFlow f) R
      by_cases h : f = k
      · subst h
        have h1 := hf.ex x hxm
        rw [hk, Int.toNat_natCast, hsum, if_neg (by unfold behind; simp)] at h1
        have h2 : sumC (behind x) R = sumC (ofFlow f) R := sumC_congr fun y hy => by
          unfold behind ofFlow
          rw [hk]
          by_cases e : y.flow = f
          · rw [decide_eq_true (hfi y hy (by rw [e, hk])), Bool.and_true]
          · rw [beq_eq_false_iff_ne.2 e]; rfl
        omega
      · have h1 := hf.ub f hf8
        rw [hsum, if_neg (by unfold ofFlow; rw [hk]; simp; omega)] at h1
        omega
    ex := fun y hy => by
      show gat q.last y.flow.toNat ≤ y.tag + sumC (behind y) R
      have h1 := hf.ex y (hR y hy)
      rw [hsum, if_neg (by
        unfold behind
        intro h
        simp only [Bool.and_eq_true, beq_iff_eq, decide_eq_true_eq] at h
        have := hfi y hy h.1.symm
        omega)] at h1
      omega
    ids := fun y hy => hf.ids y (hR y hy)
    pos := fun y hy => hf.pos y (hR y hy)
    dis := fun y hy z hz => hf.dis y (hR y hy) z (hR z hz)
    wp := by
      rw [leftWt_y]
      have h1 := hf.wp.filter fun y => !decide (y = x)
      rw [hS, List.filter_cons, if_neg (by simp)] at h1
      have h2 : R.filter (fun y => !decide (y = x)) = R := List.filter_eq_self.2 fun y hy => by simp [hne y hy]
      rwa [h2] at h1
    wo := by
      have h1 : ((leftWt x ws).map (·.y)).Pairwise fun a b => a.n < b.n := by
        rw [leftWt_y]
        exact List.Pairwise.filter _ ((List.pairwise_map (f := fun w : Wt => w.y) (R := fun a b : Hd => a.n < b.n)).2 hf.wo)
      exact (List.pairwise_map (f := fun w : Wt => w.y) (R := fun a b : Hd => a.n < b.n)).1 h1
    wt := fun w' hw' => by
      obtain ⟨w, hw, rfl⟩ := List.mem_map.1 hw'
      obtain ⟨hw, hkp⟩ := List.mem_filter.1 hw
      have hwx : ¬ w.y = x := by unfold keepWt at hkp; simpa using hkp
      have h := hf.wt w hw
      have hT := htk w hw hwx
      have hy := hwm w hw hwx
      unfold updWt
      split
      · rename_i hc
        have hls := hT.less hc.1 hc.2
        have hnx := h.next x hxm (fun e => hc.2 e.symm) hc.1
        rw [hk, Int.toNat_natCast] at hls hnx ⊢
        have hkl : k < w.tk.length := by rw [h.len]; exact hk8
        have hbd := h.bd
        have hnn := h.nn k hk8
        exact {
          len := by rw [List.length_set]; exact h.len
          up := h.up
          bd := h.bd
          nn := fun g hg => by
            show 0 ≤ gat (w.tk.set k _) g
            rw [gat_set hkl]
            have := h.nn g hg
            split <;> omega
          lt := fun g hg => by
            show gat (w.tk.set k _) g ≤ _
            rw [gat_set hkl]
            have := h.lt g hg
            split <;> omega
          now := fun g hg => by
            show w.t + gat (w.tk.set k _) g ≤ x.tag
            rw [gat_set hkl]
            have := h.now g hg
            split <;> omega
          next := fun z hz hzf hzn => by
            show w.t + gat (w.tk.set k _) z.flow.toNat + z.cost ≤ z.tag
            rw [gat_set hkl]
            have h1 := h.next z (hR z hz) hzf hzn
            split
            · rename_i e
              have hzf8 := hok.flow z (hR z hz)
              have e2 : z.flow = x.flow := by omega
              have h2 := hf.ch x hxm z (hR z hz) e2.symm (hfi z hz e2)
              omega
            · exact h1 }
      · exact {
          len := h.len
          up := h.up
          bd := h.bd
          nn := h.nn
          lt := h.lt
          now := fun g hg => by have := h.now g hg; show _ ≤ x.tag; omega
          next := fun z hz => h.next z (hR z hz) } }
end Go.Proofs.Ytkdoocgjagpcbaa
