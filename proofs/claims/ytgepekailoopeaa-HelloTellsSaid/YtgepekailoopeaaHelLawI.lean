/-
  Plain laws of infos and names: what was put is taken, what was taken is put.
-/
import Derived.Test.YtgepekailoopeaaHelLaw
import Derived.Test.YtgepekailoopeaaInfT
import Derived.Test.YtgepekailoopeaaInfN
namespace Go.Proofs.Ytgepekailoopeaa
open Go.RowKit
set_option linter.unusedVariables false
set_option linter.unusedSimpArgs false
theorem fN_skip' {x : Int} {s o k : Nat} {t : List Int} (a : Nat) (h : a = s + o) : fN (be s x ++ t) a k = fN t o k := by
  subst h
  have := fN_skip (p := be s x) (t := t) (o := o) (s := k)
  rwa [be_len] at this
theorem fN_all {x : Int} {s : Nat} (h0 : 0 ≤ x) (h1 : x < 256 ^ s) : fN (be s x) 0 s = x := by
  have := fN_head (t := []) h0 h1
  rwa [List.append_nil] at this
theorem info_back {i : If} (ok : i.Ok) (h : putE i = 0) : tiE (putB i) = 0 ∧ tiI (putB i) = i ∧ Byt (putB i) ∧ (putB i).length ≤ 100 := by
  obtain ⟨kd, size, fl, nm, p, q, r⟩ := i
  obtain ⟨⟨k0, k1⟩, ⟨s0, s1⟩, ⟨f0, f1⟩, hn, ⟨p0, p1⟩, ⟨q0, q1⟩, ⟨r0, r1⟩⟩ := ok
  dsimp only at *
  by_cases h0 : kd = 0
  · subst h0
    have h' := h
    unfold putE at h'
    dsimp only at h'
    rw [if_pos rfl] at h'
    by_cases hx : 0 < nm.size ∨ arr0 p q r = false
    · rw [if_pos hx] at h'; cases h'
    obtain ⟨rfl, rfl, rfl⟩ := arr0_eq (p := p) (q := q) (r := r) (by simpa using fun hh => hx (.inr hh))
    obtain rfl := info_void (nm := nm) fun hh => hx (.inl hh)
    have eB : putB ⟨0, size, fl, eStr, 0, 0, 0⟩ = be 2 0 ++ (be 8 size ++ be 2 fl) := by unfold putB; rw [h, if_pos rfl]; rfl
    rw [eB]
    have l1 : (be 2 0 ++ (be 8 size ++ be 2 fl)).length = 12 := by simp [be_len]
    have f1' : fN (be 2 0 ++ (be 8 size ++ be 2 fl)) 0 2 = 0 := fN_head (by decide) (by decide)
    have f2 : fN (be 2 0 ++ (be 8 size ++ be 2 fl)) 2 8 = size := by rw [fN_skip' (o := 0) 2 rfl, fN_head s0 (by show size < 18446744073709551616; exact s1)]
    have f3 : fN (be 2 0 ++ (be 8 size ++ be 2 fl)) 10 2 = fl := by rw [fN_skip' (o := 8) 10 rfl, fN_skip' (o := 0) 8 rfl, fN_all f0 (by show fl < 65536; exact f1)]
    have eE : tiE (be 2 0 ++ (be 8 size ++ be 2 fl)) = 0 := by unfold tiE; rw [l1, if_neg (by decide), f1', if_pos rfl, if_pos rfl]
    refine ⟨eE, ?_, byt_app (be_byt _ _) (byt_app (be_byt _ _) (be_byt _ _)), by rw [l1]; decide⟩
    unfold tiI
    rw [eE, if_neg (by decide), f1', if_pos rfl, f2, f3]
  by_cases h1 : kd = 1
  · subst h1
    have h' := h
    unfold putE at h'
    dsimp only at h'
    rw [if_neg (by decide), if_pos rfl] at h'
    by_cases hx : size ≠ 0 ∨ fl ≠ 0 ∨ arr0 p q r = false
    · rw [if_pos hx] at h'; cases h'
    rw [if_neg hx] at h'
    by_cases h16 : 16 < nm.size
    · rw [if_pos h16] at h'; cases h'
    obtain ⟨rfl, rfl, rfl⟩ := arr0_eq (p := p) (q := q) (r := r) (by simpa using fun hh => hx (.inr (.inr hh)))
    obtain rfl : size = 0 := by omega
    obtain rfl : fl = 0 := by omega
    have eB : putB ⟨1, 0, 0, nm, 0, 0, 0⟩ = be 2 1 ++ strInts nm := by unfold putB; rw [h, if_pos rfl]; rfl
    rw [eB]
    have l1 : (be 2 1 ++ strInts nm).length = 2 + nm.size := by rw [List.length_append, be_len, strInts_len]
    have f1' : fN (be 2 1 ++ strInts nm) 0 2 = 1 := fN_head (by decide) (by decide)
    have eE : tiE (be 2 1 ++ strInts nm) = 0 := by unfold tiE; rw [l1, if_neg (by omega), f1', if_neg (by decide), if_pos rfl, if_neg (by omega)]
    refine ⟨eE, ?_, byt_app (be_byt _ _) (strInts_byt _), by rw [l1]; omega⟩
    unfold tiI
    rw [eE, if_neg (by decide), f1', if_neg (by decide), if_pos rfl, List.drop_left' (be_len 2 1), str_strInts]
  by_cases h3 : kd = 3
  · subst h3
    have h' := h
    unfold putE at h'
    dsimp only at h'
    rw [if_neg (by decide), if_neg (by decide), if_pos rfl] at h'
    by_cases hx : size ≠ 0 ∨ fl ≠ 0 ∨ 0 < nm.size
    · rw [if_pos hx] at h'; cases h'
    obtain rfl : size = 0 := by omega
    obtain rfl : fl = 0 := by omega
    obtain rfl := info_void (nm := nm) (by omega)
    have eB : putB ⟨3, 0, 0, eStr, p, q, r⟩ = be 2 3 ++ (be 4 p ++ (be 4 q ++ be 4 r)) := by unfold putB; rw [h, if_pos rfl]; dsimp only; rw [if_neg (by decide), if_neg (by decide)]; simp
    rw [eB]
    have l1 : (be 2 3 ++ (be 4 p ++ (be 4 q ++ be 4 r))).length = 14 := by simp [be_len]
    have f1' : fN (be 2 3 ++ (be 4 p ++ (be 4 q ++ be 4 r))) 0 2 = 3 := fN_head (by decide) (by decide)
    have f2 : fN (be 2 3 ++ (be 4 p ++ (be 4 q ++ be 4 r))) 2 4 = p := by rw [fN_skip' (o := 0) 2 rfl, fN_head p0 (by show p < 4294967296; exact p1)]
    have f3 : fN (be 2 3 ++ (be 4 p ++ (be 4 q ++ be 4 r))) 6 4 = q := by rw [fN_skip' (o := 4) 6 rfl, fN_skip' (o := 0) 4 rfl, fN_head q0 (by show q < 4294967296; exact q1)]
    have f4 : fN (be 2 3 ++ (be 4 p ++ (be 4 q ++ be 4 r))) 10 4 = r := by rw [fN_skip' (o := 8) 10 rfl, fN_skip' (o := 4) 8 rfl, fN_skip' (o := 0) 4 rfl, fN_all r0 (by show r < 4294967296; exact r1)]
    have eE : tiE (be 2 3 ++ (be 4 p ++ (be 4 q ++ be 4 r))) = 0 := by unfold tiE; rw [l1, if_neg (by decide), f1', if_neg (by decide), if_neg (by decide), if_pos rfl, if_pos rfl]
    refine ⟨eE, ?_, byt_app (be_byt _ _) (byt_app (be_byt _ _) (byt_app (be_byt _ _) (be_byt _ _))), by rw [l1]; decide⟩
    unfold tiI
    rw [eE, if_neg (by decide), f1', if_neg (by decide), if_neg (by decide), f2, f3, f4]
  · unfold putE at h
    dsimp only at h
    rw [if_neg h0, if_neg h1, if_neg h3] at h
    cases h
theorem back_info {b : List Int} (hb : Byt b) (hl : b.length ≤ 140737488351232) (h : tiE b = 0) : (tiI b).Ok ∧ putE (tiI b) = 0 ∧ putB (tiI b) = b := by
  have h' := h
  unfold tiE at h'
  by_cases h2 : b.length < 2
  · rw [if_pos h2] at h'; cases h'
  rw [if_neg h2] at h'
  have e2 : b = b.take 2 ++ b.drop 2 := (List.take_append_drop 2 b).symm
  have t2 : b.take 2 = be 2 (fN b 0 2) := by rw [be_fN hb 0 2 (by omega)]; rfl
  by_cases k0 : fN b 0 2 = 0
  · rw [if_pos k0] at h'
    by_cases hx : b.length = 12
    · have b1 := fN_bd hb 2 8
      have b2 := fN_bd hb 10 2
      simp only [show (256 : Int) ^ 8 = 18446744073709551616 from rfl, show (256 : Int) ^ 2 = 65536 from rfl] at b1 b2
      have eI : tiI b = ⟨0, fN b 2 8, fN b 10 2, eStr, 0, 0, 0⟩ := by unfold tiI; rw [h, if_neg (by decide), if_pos k0]
      have eE : putE ⟨0, fN b 2 8, fN b 10 2, eStr, 0, 0, 0⟩ = 0 := by unfold putE; dsimp only; rw [if_pos rfl, if_neg (by decide)]
      rw [eI]
      refine ⟨⟨by show (0 : Int) ≤ 0 ∧ (0 : Int) < 65536; decide, b1, b2, by show (0 : Nat) ≤ _; exact Nat.zero_le _, by show (0 : Int) ≤ 0 ∧ (0 : Int) < 4294967296; decide, by show (0 : Int) ≤ 0 ∧ (0 : Int) < 4294967296; decide, by show (0 : Int) ≤ 0 ∧ (0 : Int) < 4294967296; decide⟩, eE, ?_⟩
      unfold putB
      rw [eE, if_pos rfl]
      dsimp only
      rw [if_pos rfl, be_fN hb 2 8 (by omega), be_fN hb 10 2 (by omega), ← k0, ← t2, ← List.append_assoc, tk_app, tk_app]
      exact List.take_of_length_le (by omega)
    · rw [if_neg hx] at h'; cases h'
  rw [if_neg k0] at h'
  by_cases k1 : fN b 0 2 = 1
  · rw [if_pos k1] at h'
    by_cases hx : 18 < b.length
    · rw [if_pos hx] at h'; cases h'
    · have eI : tiI b = ⟨1, 0, 0, strOfNums (b.drop 2), 0, 0, 0⟩ := by unfold tiI; rw [h, if_neg (by decide), if_neg k0, if_pos k1]
      have hsz : (strOfNums (b.drop 2)).size = b.length - 2 := by rw [strOfNums_size, List.length_drop]
      have eE : putE ⟨1, 0, 0, strOfNums (b.drop 2), 0, 0, 0⟩ = 0 := by
        unfold putE
        dsimp only
        rw [if_neg (by decide), if_pos rfl, if_neg (by decide), if_neg (by rw [hsz]; omega)]
      rw [eI]
      refine ⟨⟨by show (0 : Int) ≤ 1 ∧ (1 : Int) < 65536; decide, by show (0 : Int) ≤ 0 ∧ (0 : Int) < 18446744073709551616; decide, by show (0 : Int) ≤ 0 ∧ (0 : Int) < 65536; decide, by show (strOfNums (b.drop 2)).size ≤ _; rw [hsz]; omega, by show (0 : Int) ≤ 0 ∧ (0 : Int) < 4294967296; decide, by show (0 : Int) ≤ 0 ∧ (0 : Int) < 4294967296; decide, by show (0 : Int) ≤ 0 ∧ (0 : Int) < 4294967296; decide⟩, eE, ?_⟩
      unfold putB
      rw [eE, if_pos rfl]
      dsimp only
      rw [if_neg (by decide), if_pos rfl, strInts_str (hb.drop 2), ← k1, ← t2, List.take_append_drop]
  rw [if_neg k1] at h'
  by_cases k3 : fN b 0 2 = 3
  · rw [if_pos k3] at h'
    by_cases hx : b.length = 14
    · have b1 := fN_bd hb 2 4
      have b2 := fN_bd hb 6 4
      have b3 := fN_bd hb 10 4
      simp only [show (256 : Int) ^ 4 = 4294967296 from rfl] at b1 b2 b3
      have eI : tiI b = ⟨3, 0, 0, eStr, fN b 2 4, fN b 6 4, fN b 10 4⟩ := by unfold tiI; rw [h, if_neg (by decide), if_neg k0, if_neg k1]
      have eE : putE ⟨3, 0, 0, eStr, fN b 2 4, fN b 6 4, fN b 10 4⟩ = 0 := by
        unfold putE
        dsimp only
        rw [if_neg (by decide), if_neg (by decide), if_pos rfl, if_neg (by decide)]
      rw [eI]
      refine ⟨⟨by show (0 : Int) ≤ 3 ∧ (3 : Int) < 65536; decide, by show (0 : Int) ≤ 0 ∧ (0 : Int) < 18446744073709551616; decide, by show (0 : Int) ≤ 0 ∧ (0 : Int) < 65536; decide, by show (0 : Nat) ≤ _; exact Nat.zero_le _, b1, b2, b3⟩, eE, ?_⟩
      unfold putB
      rw [eE, if_pos rfl]
      dsimp only
      rw [if_neg (by decide), if_neg (by decide), be_fN hb 2 4 (by omega), be_fN hb 6 4 (by omega), be_fN hb 10 4 (by omega), ← k3, ← t2, ← List.append_assoc, ← List.append_assoc, tk_app, tk_app, tk_app]
      exact List.take_of_length_le (by omega)
    · rw [if_neg hx] at h'; cases h'
  · rw [if_neg k3] at h'; cases h'
theorem name_back {nm : ByteArray} (h : nm.size ≤ 16) : nameE nm = 0 ∧ tnE (nameB nm) = 0 ∧ tnS (nameB nm) = nm ∧ Byt (nameB nm) ∧ (nameB nm).length ≤ 100 := by
  have eB : nameB nm = be 4 (nm.size : Int) ++ strInts nm := by unfold nameB; rw [if_neg (by omega)]
  rw [eB]
  have l1 : (be 4 (nm.size : Int) ++ strInts nm).length = 4 + nm.size := by rw [List.length_append, be_len, strInts_len]
  have f1 : fN (be 4 (nm.size : Int) ++ strInts nm) 0 4 = nm.size := fN_head (by omega) (by show (nm.size : Int) < 4294967296; omega)
  have eE : tnE (be 4 (nm.size : Int) ++ strInts nm) = 0 := by unfold tnE; rw [l1, f1, if_neg (by omega), if_neg (by omega)]
  refine ⟨by unfold nameE; rw [if_neg (by omega)], eE, ?_, byt_app (be_byt _ _) (strInts_byt _), by rw [l1]; omega⟩
  unfold tnS
  rw [eE, if_pos rfl, List.drop_left' (be_len 4 _), str_strInts]
theorem back_name {b : List Int} (hb : Byt b) (h : tnE b = 0) : nameE (tnS b) = 0 ∧ nameB (tnS b) = b := by
  have h' := h
  unfold tnE at h'
  by_cases h1 : b.length < 4 ∨ fN b 0 4 ≠ (b.length : Int) - 4
  · rw [if_pos h1] at h'; cases h'
  rw [if_neg h1] at h'
  by_cases h2 : 20 < b.length
  · rw [if_pos h2] at h'; cases h'
  have eS : tnS b = strOfNums (b.drop 4) := by unfold tnS; rw [h, if_pos rfl]
  have hsz : (strOfNums (b.drop 4)).size = b.length - 4 := by rw [strOfNums_size, List.length_drop]
  rw [eS]
  refine ⟨by unfold nameE; rw [if_neg (by rw [hsz]; omega)], ?_⟩
  unfold nameB
  rw [if_neg (by rw [hsz]; omega), hsz, strInts_str (hb.drop 4)]
  have e1 : be 4 ((b.length - 4 : Nat) : Int) = b.take 4 := by
    have : ((b.length - 4 : Nat) : Int) = fN b 0 4 := by omega
    rw [this, be_fN hb 0 4 (by omega)]; rfl
  rw [e1, List.take_append_drop]
theorem tn_none {b : List Int} (h : tnE b ≠ 0) : tnS b = eStr := by unfold tnS; rw [if_neg h]
end Go.Proofs.Ytgepekailoopeaa
