/-
  Small things for layer 22.
-/
import Derived.Test.YtgepekailoopeaaTapeAny
import Derived.Test.YtgepekailoopeaaOrdNP
import Derived.Test.YtgepekailoopeaaRef22
import Derived.Test.YtgepekailoopeaaRow2
import Derived.Test.YtgepekailoopeaaStrX
import Derived.Test.YtgepekailoopeaaMark
import Derived.Test.YtgepekailoopeaaLate
namespace Go.Proofs.Ytgepekailoopeaa
open Go.RowKit
set_option linter.unusedVariables false
set_option linter.unusedSimpArgs false
section
variable {w0 w : World} {O : Nat → Prop} {L : List Asr}
theorem numL_ok {b : Bool} {l : List Int} {ss : List Nat} (h : ∀ s ∈ ss, 1 ≤ s ∧ s ≤ 8) (ht : tot ss ≤ l.length) : numL b l (ss.map Int.ofNat) = ⟨true, cut l ss, if b then l.drop (tot ss) else l⟩ := by
  have e : (ss.map Int.ofNat).map Int.toNat = ss := by
    rw [List.map_map]; exact (List.map_congr_left fun x _ => rfl).trans (List.map_id' ss)
  have hz : ∀ z ∈ ss.map Int.ofNat, 1 ≤ z ∧ z ≤ 8 := by
    intro z hz
    obtain ⟨s, hs, rfl⟩ := List.mem_map.1 hz
    have h1 := h s hs
    have h2 : Int.ofNat s = (s : Int) := rfl
    omega
  unfold numL
  rw [if_pos ⟨hz, by rw [e]; exact ht⟩, e]
theorem numL_no {b : Bool} {l : List Int} {ss : List Nat} (ht : l.length < tot ss) : numL b l (ss.map Int.ofNat) = ⟨false, [], l⟩ := by
  have e : (ss.map Int.ofNat).map Int.toNat = ss := by
    rw [List.map_map]; exact (List.map_congr_left fun x _ => rfl).trans (List.map_id' ss)
  unfold numL
  rw [e, if_neg (by omega)]


theorem Rb.byteAt {ad : Addr} {n o : Nat} {l : List Int} (hr : Rb w0 O L 1 (some ad) n (by8 l)) (HS : Sep w0 w O L) (ho : o < n) (h0 : 0 < o) : w.cell? ⟨ad.block, ad.off + o, none⟩ = some (.int .u8 (fN l o 1)) := by
  obtain ⟨ad', y, hA, hy, _, hc⟩ := hr.elemn HS ho
  injection hA with hA
  subst hA
  rw [fN_one hy]
  have e : ad.add o = ⟨ad.block, ad.off + o, none⟩ := by unfold Addr.add; rw [if_neg (by omega)]
  rwa [e] at hc
def subOk (o k m : Nat) : Bool := decide (0 < o ∧ 0 < k ∧ k ≤ 8 ∧ o + k ≤ m)
theorem rnum_sub {ad : Addr} {n c o k m : Nat} {l : List Int} (HS : Sep w0 w O L) (hr : Rb w0 O L 1 (some ad) n (by8 l)) (hb : Byt l) (hm : m ≤ n) (h : subOk o k m = true) :
    Calls Try.prog 35 #[.slice (some ⟨ad.block, ad.off + o, none⟩) k c] w fun e w' => e = .returned (.int .u64 (fN l o k)) ∧ w = w' := by
  obtain ⟨h1, h2, h3, h4⟩ := of_decide_eq_true h
  have q := hr.ksub o (o + k) (by omega) (by omega)
  rw [Nat.add_sub_cancel_left] at q
  have e : ad.add o = ⟨ad.block, ad.off + o, none⟩ := by unfold Addr.add; rw [if_neg (by omega)]
  rw [e] at q
  exact rnum_calls HS q ((hb.drop o).take k) h3
theorem rnum_head {ad : Addr} {n c k : Nat} {l : List Int} (HS : Sep w0 w O L) (hr : Rb w0 O L 1 (some ad) n (by8 l)) (hb : Byt l) (h8 : k ≤ n) (hk : k ≤ 8) :
    Calls Try.prog 35 #[.slice (some ad) k c] w fun e w' => e = .returned (.int .u64 (fN l 0 k)) ∧ w = w' := by
  have := rnum_calls (c := c) HS (hr.ktake h8) (hb.take k) hk
  rwa [show num (l.take k) = fN l 0 k by simp [fN]] at this
end
end Go.Proofs.Ytgepekailoopeaa
