/-
  Results in a cell; small blocks that are stored whole; numbers at a place.
-/
import Derived.Test.YtankfmfenbhkgaaOrdC
import Derived.Test.YtankfmfenbhkgaaTapePT
namespace Go.Proofs.Ytankfmfenbhkgaa
open Go.RowKit
set_option linter.unusedVariables false
set_option linter.unusedSimpArgs false
theorem results_row2 {P : Program} {fn : Func} {p q r : Tmp} {ty : TypeId} (h : fn.results = #[.cell p ty, .tmp q, .tmp r]) (tmps : Array Value) (w : World) (g : Nat) (t : TypeId) (cs : Array Value) (fr : Nat × Nat) (d : TypeDesc)
    (hp : tmps.getD p undef = .pointer (some ⟨g, 0, none⟩)) (hg : w.heap[g]? = some (.cells cs t fr))
    (hu : P.underlying ty = some d) (hd : (match d with | .struct _ | .array _ _ => true | _ => false) = true) (hi : (P.info? ty).map (·.size) = some cs.size) :
    (results fn tmps).run P w = .ok (.tuple #[.agg cs, tmps.getD q undef, tmps.getD r undef]) w := by
  have hp' : tmps[p]?.getD undef = .pointer (some ⟨g, 0, none⟩) := by simpa using hp
  simp [results, h, hp', asAddr, run_loadVar_row w g t ty cs fr d hg hu hd hi]
theorem results_row1 {P : Program} {fn : Func} {p : Tmp} {ty : TypeId} (h : fn.results = #[.cell p ty]) (tmps : Array Value) (w : World) (g : Nat) (t : TypeId) (cs : Array Value) (fr : Nat × Nat) (d : TypeDesc)
    (hp : tmps.getD p undef = .pointer (some ⟨g, 0, none⟩)) (hg : w.heap[g]? = some (.cells cs t fr))
    (hu : P.underlying ty = some d) (hd : (match d with | .struct _ | .array _ _ => true | _ => false) = true) (hi : (P.info? ty).map (·.size) = some cs.size) :
    (results fn tmps).run P w = .ok (.agg cs) w := by
  have hp' : tmps[p]?.getD undef = .pointer (some ⟨g, 0, none⟩) := by simpa using hp
  simp [results, h, hp', asAddr, run_loadVar_row w g t ty cs fr d hg hu hd hi]
theorem Sep.blk_set6 {w0 w : World} {O : Nat → Prop} {L : List Asr} {g : Nat} {t : TypeId} {a0 a1 a2 a3 a4 a5 : Value} (h : Sep w0 w O (blk g t #[a0, a1, a2, a3, a4, a5] :: L)) (b0 b1 b2 b3 b4 b5 : Value) :
    Sep w0 ((((((w.setCell ⟨g, 0, none⟩ b0).setCell ⟨g, 1, none⟩ b1).setCell ⟨g, 2, none⟩ b2).setCell ⟨g, 3, none⟩ b3).setCell ⟨g, 4, none⟩ b4).setCell ⟨g, 5, none⟩ b5) O (blk g t #[b0, b1, b2, b3, b4, b5] :: L) := by
  have := (((((h.blk_set 0 b0).blk_set 1 b1).blk_set 2 b2).blk_set 3 b3).blk_set 4 b4).blk_set 5 b5
  simpa using this
theorem Sep.blk_set4 {w0 w : World} {O : Nat → Prop} {L : List Asr} {g : Nat} {t : TypeId} {a0 a1 a2 a3 : Value} (h : Sep w0 w O (blk g t #[a0, a1, a2, a3] :: L)) (b0 b1 b2 b3 : Value) :
    Sep w0 ((((w.setCell ⟨g, 0, none⟩ b0).setCell ⟨g, 1, none⟩ b1).setCell ⟨g, 2, none⟩ b2).setCell ⟨g, 3, none⟩ b3) O (blk g t #[b0, b1, b2, b3] :: L) := by
  have := (((h.blk_set 0 b0).blk_set 1 b1).blk_set 2 b2).blk_set 3 b3
  simpa using this
/-- the number in s bytes at the place o -/
def fN (l : List Int) (o s : Nat) : Int := num ((l.drop o).take s)
theorem fN_bd {l : List Int} (h : Byt l) (o s : Nat) : 0 ≤ fN l o s ∧ fN l o s < 256 ^ s := by
  have h1 := num_bd _ ((h.drop o).take s)
  refine ⟨h1.1, Int.lt_of_lt_of_le h1.2 ?_⟩
  have h2 : ((l.drop o).take s).length ≤ s := by rw [List.length_take]; omega
  have h4 : (256 : Nat) ^ ((l.drop o).take s).length ≤ 256 ^ s := Nat.pow_le_pow_right (by decide) h2
  have e : ∀ m : Nat, ((256 : Int) ^ m) = ((256 ^ m : Nat) : Int) := fun m => by rw [Int.natCast_pow]; rfl
  rw [e, e]
  exact Int.ofNat_le.2 h4
theorem fN_one {l : List Int} {o : Nat} {x : Int} (h : l[o]? = some x) : fN l o 1 = x := by
  unfold fN
  have : (l.drop o).take 1 = [x] := by
    rw [show (1 : Nat) = 0 + 1 from rfl, List.take_add_one, List.getElem?_drop, Nat.add_zero, h]; rfl
  rw [this]; simp [num]
section
variable {w0 w : World} {O : Nat → Prop} {L : List Asr}
theorem Sep.blk_ne {g h : Nat} {t u : TypeId} {cs ds : Array Value} (HS : Sep w0 w O (blk g t cs :: blk h u ds :: L)) : g ≠ h := by
  obtain ⟨F, ⟨e1, _⟩, _, F', ⟨e2, _⟩, hF', _⟩ := HS.sep
  intro e
  exact (hF' h ((e2 h).2 rfl)).1.2 ((e1 h).2 e.symm)
theorem Rb.ksub {ad : Addr} {n : Nat} {l : List Int} (hr : Rb w0 O L 1 (some ad) n (by8 l)) (j m : Nat) (hj : j < m) (hm : m ≤ n) : Rb w0 O L 1 (some (ad.add j)) (m - j) (by8 ((l.drop j).take (m - j))) := by
  have := hr.kcut (j := j) (m := m) (cap := n) (by omega) hm (Nat.le_refl _)
  rw [if_neg (by omega)] at this
  exact this
end
end Go.Proofs.Ytankfmfenbhkgaa
