/-
  Regions that draw their order: what only reads (a load, a convert, a call that leaves the world as it was) may be taken first, as long as the operation m has not come up, ahead of which S holds. No program is named here.
-/
import Derived.OrdersHeld
import Derived.Deep.RegionHeld
import Derived.WalkKit
namespace Go.Proofs.Ytkdoocgjagpcbaa
open Go.RowKit
set_option linter.unusedVariables false
set_option linter.unusedSimpArgs false
section
variable {P : Program} {ops : Array Oper} {Q : Exit → Act → World → Prop} {md : Region.Mode} {m : Nat} {S : World → Prop}

/-- in every world of S the operation gives v, and leaves that world -/
def YieldsG (P : Program) (ops : Array Oper) (S : World → Prop) (o : Oper) (v : Value) (a : Act) : Prop :=
  (Region.wanted o (yielded ops a.tmps) = true ∧ ∀ w, S w → ((execOp a.eval o).run P w = .ok (.value v) w ∨ ∃ f args, (execOp a.eval o).run P w = .ok (.enter f args) w ∧ Calls P f args w (fun e w'' => e = .returned v ∧ w'' = w))) ∨
  (Region.wanted o (yielded ops a.tmps) = false ∧ v = undef)

theorem YieldsG.at_ {i : Nat} {o : Oper} {v : Value} {a : Act} (hi : ops[i]? = some o) (hy : YieldsG P ops S o v a) {K : Act → World → Prop} {w : World} (hS : S w) (h : K (a.put o.dst v) w) : wpOp P ops Q i K a w := by
  unfold Go.wpOp
  simp only [hi]
  rcases hy with ⟨hw, hv⟩ | ⟨hw, rfl⟩
  · rw [if_pos hw]
    left
    unfold Oper.wp
    rcases hv w hS with hv | ⟨f, args, hv, hc⟩
    · rw [hv]; exact h
    · rw [hv]
      exact Calls.mono hc fun e w'' ⟨he, hw''⟩ => by subst he; subst hw''; exact h
  · rw [if_neg (by rw [hw]; exact Bool.false_ne_true)]; exact h

/-- what may stand behind an operation -/
theorem wpOp_frame {j : Nat} {oj : Oper} {K : Act → World → Prop} {a : Act} {w : World} (hj : ops[j]? = some oj) (h : wpOp P ops Q j K a w) :
    wpOp P ops Q j (fun a' w' => ((∃ u, a' = a.put oj.dst u) ∨ ∃ d u, a' = ({ a with defers := d :: a.defers } : Act).put oj.dst u) ∧ K a' w') a w := by
  unfold Go.wpOp at *
  simp only [hj] at *
  by_cases hw : Region.wanted oj (yielded ops a.tmps) = true
  · rw [if_pos hw] at h ⊢
    rcases h with h | h
    · left
      unfold Oper.wp at *
      generalize (execOp a.eval oj).run P w = r at *
      cases r with
      | ok n w' =>
        cases n <;> simp only [Oper.upon] at h ⊢
        case value u => exact ⟨.inl ⟨u, rfl⟩, h⟩
        case skip => exact ⟨.inl ⟨_, rfl⟩, h⟩
        case defer d => exact ⟨.inr ⟨d, _, rfl⟩, h⟩
        case enter f args =>
          refine Calls.mono h fun e w'' he => ?_
          cases e with
          | returned u => exact ⟨.inl ⟨u, rfl⟩, he⟩
          | panicked c => exact he
          | outgrown => exact he
        case row row args => exact Rows.mono h fun u w'' he => ⟨.inl ⟨u, rfl⟩, he⟩
      | halt x w' => cases x <;> exact h
    · exact .inr h
  · rw [if_neg hw] at h ⊢
    exact ⟨.inl ⟨_, rfl⟩, h⟩

/-- whatever order is picked from here on; as long as number m has not come up, S is shown behind each operation that is carried out -/
def wpAnyG (P : Program) (md : Region.Mode) (ops : Array Oper) (Q : Exit → Act → World → Prop) (m : Nat) (S : World → Prop) : Nat → Array Bool → Act → World → Prop
  | 0, listed, a, w => Region.ready md ops listed = [] ∧ Q .normal a w
  | fuel + 1, listed, a, w =>
    (Region.ready md ops listed = [] → Q .normal a w) ∧
    ∀ i ∈ Region.ready md ops listed, wpOp P ops Q i (fun a' w' => (listed.getD m false = false → i ≠ m → S w') ∧ wpAnyG P md ops Q m S fuel (listed.setIfInBounds i true) a' w') a w

theorem wpAny_of_G : ∀ (fuel : Nat) (listed : Array Bool) (a : Act) (w : World), wpAnyG P md ops Q m S fuel listed a w → wpAny P md ops Q fuel listed a w
  | 0, _, _, _, h => h
  | fuel + 1, _, _, _, h => ⟨h.1, fun i hi => wpOp_mono (fun a' w' h' => wpAny_of_G fuel _ a' w' h'.2) (h.2 i hi)⟩

/-- what has come up is closed: what it waited for has come up -/
def ShutB (md : Region.Mode) (ops : Array Oper) (listed : Array Bool) : Prop :=
  ∀ j oj, ops[j]? = some oj → listed.getD j false = true → ∀ e ∈ oj.after, Region.binds md e = true → listed.getD e.on false = true
def shutB (md : Region.Mode) (ops : Array Oper) (listed : Array Bool) : Bool :=
  (List.range ops.size).all fun j => match ops[j]? with
    | some oj => !listed.getD j false || oj.after.all fun e => !Region.binds md e || listed.getD e.on false
    | none => true
theorem shutB_spec {listed : Array Bool} (h : shutB md ops listed = true) : ShutB md ops listed := by
  intro j oj hj hl e he hb
  unfold shutB at h
  rw [List.all_eq_true] at h
  have h1 := h j (List.mem_range.2 (Array.getElem?_eq_some_iff.1 hj).1)
  simp only [hj, hl, Bool.not_true, Bool.false_or] at h1
  have h2 := (Array.all_eq_true'.1 h1) e he
  simpa [hb] using h2

/-- number j waits, at once or through others, for number i -/
def reachB (md : Region.Mode) (ops : Array Oper) : Nat → Nat → Nat → Bool
  | 0, _, _ => false
  | k + 1, j, i => match ops[j]? with
    | some oj => oj.after.any fun e => Region.binds md e && (e.on == i || reachB md ops k e.on i)
    | none => false
theorem getD_both {l : Array Bool} {k : Nat} (h : l.getD k false = true) : l.getD k true = true := by
  rcases Nat.lt_or_ge k l.size with h' | h'
  · simp [h'] at h ⊢; exact h
  · simp [Array.getElem?_eq_none h'] at h
theorem reach_listed {listed : Array Bool} (hc : ShutB md ops listed) : ∀ (k j i : Nat), reachB md ops k j i = true → listed.getD j false = true → listed.getD i false = true
  | 0, _, _, h, _ => by cases h
  | k + 1, j, i, h, hl => by
    unfold reachB at h
    split at h
    · rename_i oj hj
      obtain ⟨e, he, hb⟩ := Array.any_eq_true'.1 h
      simp only [Bool.and_eq_true, Bool.or_eq_true, beq_iff_eq] at hb
      have h1 := hc j oj hj hl e he hb.1
      rcases hb.2 with rfl | h2
      · exact h1
      · exact reach_listed hc k _ i h2 h1
    · cases h
theorem reach_ready {listed : Array Bool} (hc : ShutB md ops listed) {k j i : Nat} (h : reachB md ops k j i = true) (hr : j ∈ Region.ready md ops listed) : listed.getD i false = true := by
  obtain ⟨_, oj, hoj, hall⟩ := mem_ready.1 hr
  cases k with
  | zero => cases h
  | succ k =>
    unfold reachB at h
    rw [hoj] at h
    obtain ⟨e, he, hb⟩ := Array.any_eq_true'.1 h
    simp only [Bool.and_eq_true, Bool.or_eq_true, beq_iff_eq] at hb
    have h1 := hall e he hb.1
    rcases hb.2 with rfl | h2
    · exact h1
    · exact reach_listed hc k _ i h2 h1
theorem getD_set_same {l : Array Bool} {j : Nat} (h : (l.setIfInBounds j true).getD j false = true ∨ j < l.size) : (l.setIfInBounds j true).getD j false = true := by
  rcases h with h | h
  · exact h
  · simp [Array.getD, h]
theorem getD_set_off {l : Array Bool} {j k : Nat} (h : j ≠ k) (d : Bool) : (l.setIfInBounds j true).getD k d = l.getD k d := getD_set_ne d h
theorem ShutB.next {listed : Array Bool} (hc : ShutB md ops listed) {j : Nat} (hj : j ∈ Region.ready md ops listed) : ShutB md ops (listed.setIfInBounds j true) := by
  intro k ok hk hl e he hb
  have hold : listed.getD e.on false = true → (listed.setIfInBounds j true).getD e.on false = true := fun h => by
    by_cases h1 : j = e.on
    · subst h1
      refine getD_set_same (.inr ?_)
      rcases Nat.lt_or_ge e.on listed.size with h' | h'
      · exact h'
      · simp [Array.getElem?_eq_none h'] at h
    · rw [getD_set_off h1]; exact h
  by_cases hjk : j = k
  · subst hjk
    obtain ⟨_, oj, hoj, hall⟩ := mem_ready.1 hj
    rw [hk] at hoj
    injection hoj with hoj
    subst hoj
    exact hold (hall e he hb)
  · rw [getD_set_off hjk] at hl
    exact hold (hc k ok hk hl e he hb)

theorem wpAnyG_first {i : Nat} {oi : Oper} {v : Value} (hi : ops[i]? = some oi) (hsel : ∀ (j : Nat) (o : Oper) cs b, ops[j]? = some o → o.op ≠ .select cs b)
    (hQ : ∀ c a w, Q (.panic c) (a.put oi.dst v) w → Q (.panic c) a w) {kk : Nat} (hm : reachB md ops kk m i = true) :
    ∀ (fuel : Nat) (listed : Array Bool) (a : Act) (w : World), ShutB md ops listed →
      (∀ j oj, ops[j]? = some oj → j ≠ i → listed.getD j true = false → (∀ e ∈ oj.after, Region.binds md e = true → e.on ≠ i) → oi.apart ops oj = true) →
      i ∈ Region.ready md ops listed → YieldsG P ops S oi v a → S w →
      wpAnyG P md ops Q m S fuel (listed.setIfInBounds i true) (a.put oi.dst v) w → wpAnyG P md ops Q m S (fuel + 1) listed a w := by
  intro fuel
  induction fuel with
  | zero =>
    intro listed a w hc _ hr hy hS H
    refine ⟨fun h => (by rw [h] at hr; cases hr), fun j hj => ?_⟩
    by_cases hji : j = i
    · subst hji; exact hy.at_ hi hS ⟨fun _ _ => hS, H⟩
    · have := ready_mono hj hji
      rw [H.1] at this
      cases this
  | succ fuel ih =>
    intro listed a w hc hfree hr hy hS H
    refine ⟨fun h => (by rw [h] at hr; cases hr), fun j hj => ?_⟩
    have hi0 := (mem_ready.1 hr).1
    have hil : listed.getD i false = false := by
      cases h : listed.getD i false with
      | false => rfl
      | true => rw [getD_both h] at hi0; cases hi0
    have hml : listed.getD m false = false := by
      cases h : listed.getD m false with
      | false => rfl
      | true => rw [reach_listed hc kk m i hm h] at hil; cases hil
    by_cases hji : j = i
    · subst hji; exact hy.at_ hi hS ⟨fun _ _ => hS, H⟩
    · have hjm : j ≠ m := fun h => by
        subst h
        rw [reach_ready hc hm hj] at hil
        cases hil
      have him : i ≠ m := fun h => by
        subst h
        rw [reach_ready hc hm hr] at hil
        cases hil
      have h1 := H.2 j (ready_mono hj hji)
      obtain ⟨hjun, oj, hoj, hall⟩ := mem_ready.1 hj
      have hnot : ∀ e ∈ oj.after, Region.binds md e = true → e.on ≠ i := fun e he hb heq => by
        have h1 := hall e he hb
        rw [heq, hil] at h1
        cases h1
      have hap := hfree j oj hoj hji hjun hnot
      have hy0 : YieldsIf P ops (fun _ => False) oi v a := hy.imp (fun h => ⟨h.1, fun _ h => h.elim⟩) id
      have h2 := wpOp_frame hoj (wpOp_putIf hoj hap (fun cs b => hsel i oi cs b hi) (fun cs b => hsel j oj cs b hoj) hQ hy0 h1)
      have hfree' : ∀ k ok, ops[k]? = some ok → k ≠ i → (listed.setIfInBounds j true).getD k true = false →
          (∀ e ∈ ok.after, Region.binds md e = true → e.on ≠ i) → oi.apart ops ok = true := fun k ok hk hki hun hno => by
        refine hfree k ok hk hki ?_ hno
        by_cases hjk : j = k
        · subst hjk; exact hjun
        · rw [getD_set_ne true hjk] at hun; exact hun
      obtain ⟨e1, e2, e3⟩ := Oper.apart_spec hap
      refine wpOp_mono (fun a' w' h3 => ?_) h2
      obtain ⟨hfr, _, hSj, hK⟩ := h3
      have hy' : YieldsG P ops S oi v a' := by
        have hsame : execOp a'.eval oi = execOp a.eval oi ∧ Region.wanted oi (yielded ops a'.tmps) = Region.wanted oi (yielded ops a.tmps) := by
          rcases hfr with ⟨u, rfl⟩ | ⟨d, u, rfl⟩
          · exact ⟨execOp_put oi (fun cs b => hsel i oi cs b hi) a oj.dst u e3, wanted_put oi a oj.dst u e3⟩
          · exact ⟨execOp_put oi (fun cs b => hsel i oi cs b hi) { a with defers := d :: a.defers } oj.dst u e3, wanted_put oi { a with defers := d :: a.defers } oj.dst u e3⟩
        unfold YieldsG at *
        rw [hsame.1, hsame.2]
        exact hy
      have hS' : S w' := hSj (by rw [getD_set_off him]; exact hml) hjm
      refine ⟨fun _ _ => hS', ih (listed.setIfInBounds j true) a' w' (hc.next hj) hfree' (ready_mono hr (Ne.symm hji)) hy' hS' ?_⟩
      rw [Array.setIfInBounds_comm _ _ hji]
      exact hK

theorem at_drop {i : Nat} {oi : Oper} {rest : List Oper} (h : ops.toList.drop i = oi :: rest) : ops[i]? = some oi := by
  have h1 : (ops.toList.drop i)[0]? = some oi := by rw [h]; rfl
  rw [List.getElem?_drop, Nat.add_zero, Array.getElem?_toList] at h1
  exact h1
/-- the same, the conditions as Bools; everything is given as it is to stand -/
theorem wpAnyG_take {i fuel fuel1 : Nat} {oi : Oper} {rest : List Oper} {d : Option Tmp} {v : Value} {listed listed' : Array Bool} {a : Act} {w : World} (hi : ops.toList.drop i = oi :: rest)
    (hd : oi.dst = d) (hf : fuel1 = fuel + 1) (hl : listed.setIfInBounds i true = listed')
    (hb : (Region.noSelect ops && (Region.free md ops listed i && ((Region.ready md ops listed).contains i && (shutB md ops listed && reachB md ops ops.size m i)))) = true)
    (hQ : ∀ c a w, Q (.panic c) (a.put d v) w → Q (.panic c) a w) (hS : S w) (hy : YieldsG P ops S oi v a)
    (h : wpAnyG P md ops Q m S fuel listed' (a.put d v) w) : wpAnyG P md ops Q m S fuel1 listed a w := by
  subst hd; subst hf; subst hl
  simp only [Bool.and_eq_true] at hb
  exact wpAnyG_first (at_drop hi) (Region.noSelect_spec hb.1) hQ hb.2.2.2.2 fuel listed a w (shutB_spec hb.2.2.2.1) (Region.free_spec (at_drop hi) hb.2.1) (by simpa using hb.2.2.1) hy hS h

/-- only number j may come up -/
theorem wpAnyG_one {j fuel fuel1 : Nat} {oj : Oper} {rest : List Oper} {listed listed' : Array Bool} {a : Act} {w : World} (hj : ops.toList.drop j = oj :: rest) (hf : fuel1 = fuel + 1) (hl : listed.setIfInBounds j true = listed') (hr : Region.ready md ops listed = [j])
    (h : ∀ K' : Act → World → Prop, Shut (∀ a w, (j ≠ m → S w) → wpAnyG P md ops Q m S fuel listed' a w → K' a w) → if Region.wanted oj (yielded ops a.tmps) = true then Oper.wp P oj a w K' Q else K' (a.put oj.dst undef) w) : wpAnyG P md ops Q m S fuel1 listed a w := by
  subst hf; subst hl
  refine ⟨fun h0 => (by rw [hr] at h0; cases h0), fun i hi => ?_⟩
  rw [hr] at hi
  obtain rfl : i = j := by simpa using hi
  exact wpOp_step (at_drop hj) fun K' hK => h K' fun a w h1 h2 => hK a w ⟨fun _ => h1, h2⟩

theorem wpAnyG_done {listed : Array Bool} {a : Act} {w : World} (hr : Region.ready md ops listed = []) (h : Q .normal a w) : ∀ fuel, wpAnyG P md ops Q m S fuel listed a w
  | 0 => ⟨hr, h⟩
  | _ + 1 => ⟨fun _ => h, by rw [hr]; simp⟩

theorem wp_region_G {id n : Nat} {a : Act} {w : World} (m : Nat) (S : World → Prop) (listed : Array Bool) (hm : P.follows .mixedOrders = true) (hn : ops.size = n) (hl : Array.replicate ops.size false = listed) (hS : S w.drew)
    (h : S w.drew → wpAnyG P .any ops Q m S n listed a w.drew) : (Code.region id ops true).wp P Q a w := by
  subst hn; subst hl
  exact wp_region_any hm (wpAny_of_G _ _ _ _ (h hS))
end
end Go.Proofs.Ytkdoocgjagpcbaa
