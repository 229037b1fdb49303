/-
  Plain laws of commands and answers: what was taken, put again, is the same bytes.
-/
import Derived.Test.YtankfmfenbhkgaaAdmTakeA
import Derived.Test.YtankfmfenbhkgaaAdmTake3
import Derived.Test.YtankfmfenbhkgaaRef24Take
namespace Go.Proofs.Ytankfmfenbhkgaa
open Go.RowKit
set_option linter.unusedVariables false
set_option linter.unusedSimpArgs false

theorem tk_app (l : List Int) (a b : Nat) : l.take a ++ (l.drop a).take b = l.take (a + b) := by rw [List.take_add]
theorem be_fN {l : List Int} (hb : Byt l) (o s : Nat) (h : o + s ≤ l.length) : be s (fN l o s) = (l.drop o).take s := by
  have h1 := be_num _ ((hb.drop o).take s)
  have h2 : ((l.drop o).take s).length = s := by rw [List.length_take, List.length_drop]; omega
  rw [h2] at h1
  exact h1
theorem strInts_str {l : List Int} (hb : Byt l) : strInts (strOfNums l) = l := by
  unfold strInts
  rw [strOfNums_data, List.map_map]
  have : ∀ x ∈ l, ((fun b : UInt8 => (b.toNat : Int)) ∘ fun n : Int => UInt8.ofNat n.toNat) x = x := by
    intro x hx
    have := hb x hx
    simp only [Function.comp]
    rw [UInt8.toNat_ofNat']
    omega
  exact (List.map_congr_left this).trans (List.map_id' l)
theorem str_len {l : List Int} (o k : Nat) (h : o + k ≤ l.length) : (strOfNums ((l.drop o).take k)).size = k := by
  rw [strOfNums_size, List.length_take, List.length_drop]; omega
theorem bitV_one {x : Int} (h0 : 0 ≤ x) (h1 : ¬ 1 < x) : bitV (decide (x = 1)) = x := by
  by_cases h : x = 1
  · subst h; rfl
  · rw [decide_eq_false h]; show (0 : Int) = x; omega
theorem be4_magic {l : List Int} (hb : Byt l) (h : 4 ≤ l.length) {m : Int} {a : List Int} (hm : num (l.take 4) = m) (ha : be 4 m = a) : a = l.take 4 := by
  have h1 := be_num _ (hb.take 4)
  have h2 : (l.take 4).length = 4 := by rw [List.length_take]; omega
  rw [h2, hm, ha] at h1
  exact h1

theorem takeAdm_not (l : List Int) (h : (takeAdm l).ok = false) : takeAdm l = noATk (takeAdm l).err := by
  unfold takeAdm at h ⊢
  split
  · rfl
  · split
    · rfl
    · split
      · rfl
      · split
        · rfl
        · split
          · rfl
          · simp_all
theorem takeAdm_back {l : List Int} (hb : Byt l) (h : (takeAdm l).ok = true) :
    (takeAdm l).err = 0 ∧ admErr (takeAdm l).kd (takeAdm l).nm (takeAdm l).au = 0 ∧ admBytes (takeAdm l).kd (takeAdm l).ck (takeAdm l).nm (takeAdm l).au (takeAdm l).size (takeAdm l).fixed = l.take (takeAdm l).gone ∧ (takeAdm l).gone ≤ l.length ∧
      (0 ≤ (takeAdm l).ck ∧ (takeAdm l).ck < 18446744073709551616) ∧ (0 ≤ (takeAdm l).size ∧ (takeAdm l).size < 18446744073709551616) ∧ (takeAdm l).nm.size ≤ 16 ∧ (takeAdm l).au.size ≤ 16 := by
  by_cases h4 : 4 ≤ l.length ∧ num (l.take 4) ≠ 1128878932
  · unfold takeAdm at h; rw [if_pos h4] at h; cases h
  by_cases h24 : l.length < 24
  · unfold takeAdm at h; rw [if_neg h4, if_pos h24] at h; cases h
  by_cases h5 : 1 < fN l 5 1
  · unfold takeAdm at h; rw [if_neg h4, if_neg h24, if_pos h5] at h; cases h
  by_cases h16 : 16 < fN l 22 1 ∨ 16 < fN l 23 1
  · unfold takeAdm at h; rw [if_neg h4, if_neg h24, if_neg h5, if_pos h16] at h; cases h
  have hm : num (l.take 4) = 1128878932 := Classical.byContradiction fun h' => h4 ⟨by omega, h'⟩
  have b22 := fN_bd hb 22 1
  have b23 := fN_bd hb 23 1
  have b5 := fN_bd hb 5 1
  have b4 := fN_bd hb 4 1
  have b6 := fN_bd hb 6 8
  have b14 := fN_bd hb 14 8
  simp only [show (256 : Int) ^ 8 = 18446744073709551616 from rfl, show (256 : Int) ^ 1 = 256 from rfl] at b22 b23 b4 b5 b6 b14
  obtain ⟨p, hp⟩ : ∃ p : Nat, fN l 22 1 = p := ⟨_, (Int.toNat_of_nonneg b22.1).symm⟩
  obtain ⟨q, hq⟩ : ∃ q : Nat, fN l 23 1 = q := ⟨_, (Int.toNat_of_nonneg b23.1).symm⟩
  by_cases hfew : l.length < 24 + p + q
  · unfold takeAdm at h; rw [if_neg h4, if_neg h24, if_neg h5, if_neg h16, hp, hq, Int.toNat_natCast, Int.toNat_natCast, if_pos hfew] at h; cases h
  have e : takeAdm l = ⟨true, 0, fN l 4 1, fN l 6 8, strOfNums ((l.drop 24).take p), strOfNums ((l.drop (24 + p)).take q), fN l 14 8, decide (fN l 5 1 = 1), 24 + (p + q)⟩ := by
    unfold takeAdm
    rw [if_neg h4, if_neg h24, if_neg h5, if_neg h16, hp, hq, Int.toNat_natCast, Int.toNat_natCast, if_neg hfew]
  rw [e]
  dsimp only
  have n1 := str_len (l := l) 24 p (by omega)
  have n2 := str_len (l := l) (24 + p) q (by omega)
  refine ⟨rfl, ?_, ?_, by omega, b6, b14, by omega, by omega⟩
  · unfold admErr
    rw [if_neg (by omega), n1, n2, if_neg (by omega)]
  · unfold admBytes
    rw [n1, n2, bitV_one b5.1 h5, strInts_str ((hb.drop 24).take p), strInts_str ((hb.drop (24 + p)).take q), ← hp, ← hq]
    simp only [nput, List.flatMap_cons, List.flatMap_nil, List.append_nil]
    rw [be_fN hb 4 1 (by omega), be_fN hb 5 1 (by omega), be_fN hb 6 8 (by omega), be_fN hb 14 8 (by omega), be_fN hb 22 1 (by omega), be_fN hb 23 1 (by omega), be4_magic hb (by omega) hm rfl]
    simp only [← List.append_assoc]
    rw [tk_app, tk_app, tk_app, tk_app, tk_app, tk_app, tk_app, tk_app]
    congr 1
    omega

/-- what a taken volume is -/
theorem volAt_back {l : List Int} (hb : Byt l) {a b : Nat} {v : Vol} (h : volAt l a = .ok (v, b)) : l.take a ++ vbytes v = l.take b ∧ b ≤ l.length ∧ a ≤ b ∧ v.nm.size ≤ 16 ∧ v.root = 0 ∧ v.Ok := by
  unfold volAt at h
  by_cases h26 : l.length < a + 26
  · rw [if_pos h26] at h; cases h
  by_cases h1 : 1 < fN l (a + 24) 1
  · rw [if_neg h26, if_pos h1] at h; cases h
  by_cases h16 : 16 < fN l (a + 25) 1
  · rw [if_neg h26, if_neg h1, if_pos h16] at h; cases h
  have b25 := fN_bd hb (a + 25) 1
  have b24 := fN_bd hb (a + 24) 1
  have c0 := fN_bd hb a 8
  have c1 := fN_bd hb (a + 8) 8
  have c2 := fN_bd hb (a + 16) 8
  simp only [show (256 : Int) ^ 8 = 18446744073709551616 from rfl, show (256 : Int) ^ 1 = 256 from rfl] at b24 b25 c0 c1 c2
  obtain ⟨k, hk⟩ : ∃ k : Nat, fN l (a + 25) 1 = k := ⟨_, (Int.toNat_of_nonneg b25.1).symm⟩
  rw [if_neg h26, if_neg h1, if_neg h16, hk, Int.toNat_natCast] at h
  by_cases hf : l.length < a + 26 + k
  · rw [if_pos hf] at h; cases h
  rw [if_neg hf] at h
  injection h with h
  injection h with hv hb'
  subst hv
  subst hb'
  have n1 := str_len (l := l) (a + 26) k (by omega)
  refine ⟨?_, by omega, by omega, ?_, rfl, ⟨c0, c1, ⟨by show (0 : Int) ≤ 0; decide, by show (0 : Int) < 18446744073709551616; decide⟩, c2, ?_⟩⟩
  · unfold vbytes
    dsimp only
    have hbit : bitV (fN l (a + 24) 1 == 1) = fN l (a + 24) 1 := bitV_one b24.1 h1
    rw [n1, hbit, strInts_str ((hb.drop (a + 26)).take k), ← hk]
    simp only [nput, List.flatMap_cons, List.flatMap_nil, List.append_nil]
    rw [be_fN hb a 8 (by omega), be_fN hb (a + 8) 8 (by omega), be_fN hb (a + 16) 8 (by omega), be_fN hb (a + 24) 1 (by omega), be_fN hb (a + 25) 1 (by omega)]
    simp only [← List.append_assoc]
    rw [tk_app, tk_app, tk_app, tk_app, tk_app, tk_app]
  · dsimp only; omega
  · dsimp only; omega
theorem volsFrom_back {l : List Int} (hb : Byt l) {a : Nat} (ha : a ≤ l.length) : ∀ {k b : Nat} {vs : List Vol}, volsFrom l a k = .ok (vs, b) → l.take a ++ vsbytes vs = l.take b ∧ b ≤ l.length ∧ vs.length = k ∧ ∀ v ∈ vs, v.nm.size ≤ 16 ∧ v.root = 0 ∧ v.Ok := by
  intro k
  induction k with
  | zero =>
    intro b vs h
    injection h with h
    injection h with h1 h2
    subst h1
    subst h2
    exact ⟨by simp [vsbytes], ha, rfl, fun v hv => by cases hv⟩
  | succ k ih =>
    intro b vs h
    rw [volsFrom] at h
    cases h1 : volsFrom l a k with
    | error e => rw [h1] at h; cases h
    | ok x =>
      obtain ⟨us, c⟩ := x
      rw [h1] at h
      dsimp only at h
      cases h2 : volAt l c with
      | error e => rw [h2] at h; cases h
      | ok y =>
        obtain ⟨v, d⟩ := y
        rw [h2] at h
        dsimp only at h
        injection h with h
        injection h with h3 h4
        subst h3
        subst h4
        obtain ⟨i1, i2, i3, i4⟩ := ih h1
        obtain ⟨j1, j2, j3, j4, j5, j6⟩ := volAt_back hb h2
        refine ⟨?_, j2, by rw [List.length_append, i3]; rfl, ?_⟩
        · have : vsbytes (us ++ [v]) = vsbytes us ++ vbytes v := by simp [vsbytes]
          rw [this, ← List.append_assoc, i1, j1]
        · intro u hu
          rcases List.mem_append.1 hu with hu | hu
          · exact i4 u hu
          · simp at hu; subst hu; exact ⟨j4, j5, j6⟩
theorem ans_back {l : List Int} (hb : Byt l) {N a : Nat} {vs : List Vol} (h25 : 25 ≤ l.length) (hm : num (l.take 4) = 1128878913) (hN : fN l 24 1 = N) (hv : volsFrom l 25 N = .ok (vs, a)) :
    ansBytes (fN l 8 8) (fN l 4 4) (fN l 16 8) vs = l.take a ∧ a ≤ l.length ∧ vs.length = N ∧ ∀ v ∈ vs, v.nm.size ≤ 16 ∧ v.root = 0 ∧ v.Ok := by
  obtain ⟨h1, h2, h3, h4⟩ := volsFrom_back hb h25 hv
  refine ⟨?_, h2, h3, h4⟩
  rw [← h1]
  unfold ansBytes
  congr 1
  rw [h3, ansHead, ← hN]
  simp only [nput, List.flatMap_cons, List.flatMap_nil, List.append_nil]
  rw [be_fN hb 4 4 (by omega), be_fN hb 8 8 (by omega), be_fN hb 16 8 (by omega), be_fN hb 24 1 (by omega), be4_magic hb (by omega) hm rfl]
  simp only [← List.append_assoc]
  rw [tk_app, tk_app, tk_app, tk_app]
end Go.Proofs.Ytankfmfenbhkgaa
