/-
  Plain laws of wishes: what was written is read, what was read is written.
-/
import Derived.Test.YtgepekailoopeaaHelX
namespace Go.Proofs.Ytgepekailoopeaa
open Go.RowKit
set_option linter.unusedVariables false
set_option linter.unusedSimpArgs false
theorem tk_app (l : List Int) (a b : Nat) : l.take a ++ (l.drop a).take b = l.take (a + b) := by rw [List.take_add]
theorem be_fN {l : List Int} (hb : Byt l) (o s : Nat) (h : o + s ≤ l.length) : be s (fN l o s) = (l.drop o).take s := by
  have h1 := be_num _ ((hb.drop o).take s)
  have h2 : ((l.drop o).take s).length = s := by rw [List.length_take, List.length_drop]; omega
  rw [h2] at h1
  exact h1
theorem strInts_str {l : List Int} (hb : Byt l) : strInts (strOfNums l) = l := by
  unfold strInts
  rw [strOfNums_data, List.map_map]
  have : ∀ x ∈ l, ((fun b : UInt8 => (b.toNat : Int)) ∘ fun n : Int => UInt8.ofNat n.toNat) x = x := by
    intro x hx
    have := hb x hx
    simp only [Function.comp]
    rw [UInt8.toNat_ofNat']
    omega
  exact (List.map_congr_left this).trans (List.map_id' l)
theorem str_strInts (s : ByteArray) : strOfNums (strInts s) = s := by
  apply ByteArray.ext
  apply Array.toList_inj.1
  rw [strOfNums_data, strInts, List.map_map]
  have : ∀ x ∈ s.data.toList, ((fun n : Int => UInt8.ofNat n.toNat) ∘ fun b : UInt8 => (b.toNat : Int)) x = x := by
    intro x _
    simp
  exact (List.map_congr_left this).trans (List.map_id' _)
theorem mod_be {x : Int} {s : Nat} (h0 : 0 ≤ x) (h1 : x < 256 ^ s) : num (be s x) = x := by rw [num_be, Int.emod_eq_of_lt h0 h1]
theorem fN_head {x : Int} {s : Nat} {t : List Int} (h0 : 0 ≤ x) (h1 : x < 256 ^ s) : fN (be s x ++ t) 0 s = x := by
  unfold fN
  rw [List.drop_zero, List.take_left' (be_len s x), mod_be h0 h1]
theorem fN_skip {p t : List Int} {o s : Nat} : fN (p ++ t) (p.length + o) s = fN t o s := by
  unfold fN
  rw [List.drop_append, List.drop_of_length_le (by omega), List.nil_append, Nat.add_sub_cancel_left]
theorem byt_app {a b : List Int} (ha : Byt a) (hb : Byt b) : Byt (a ++ b) := by
  intro x hx
  rcases List.mem_append.1 hx with h | h
  · exact ha x h
  · exact hb x h
theorem n2s_b2s (inf : List Int) (hb : ∀ x ∈ inf, 0 ≤ x ∧ x < 65536) : n2s (b2s inf) inf.length = inf := by
  apply List.ext_getElem?
  intro i
  have key : ∀ (inf : List Int) (i : Nat), (∀ x ∈ inf, 0 ≤ x ∧ x < 65536) → i < inf.length → fN (b2s inf) (2 * i) 2 = inf.getD i 0 := by
    intro inf
    induction inf with
    | nil => intro i _ h; simp at h
    | cons v l ih =>
      intro i hb h
      have e : b2s (v :: l) = be 2 v ++ b2s l := by simp [b2s]
      rw [e]
      cases i with
      | zero =>
        have := hb v (List.mem_cons_self ..)
        rw [Nat.mul_zero, fN_head this.1 (by show v < 65536; exact this.2)]; rfl
      | succ i =>
        rw [show 2 * (i + 1) = (be 2 v).length + 2 * i by rw [be_len]; omega, fN_skip, ih i (fun x hx => hb x (List.mem_cons_of_mem _ hx)) (by simpa using h)]
        simp
  unfold n2s
  rw [List.getElem?_map]
  rcases Nat.lt_or_ge i inf.length with h | h
  · rw [List.getElem?_range h, List.getElem?_eq_getElem h]
    simp only [Option.map_some]
    rw [key inf i hb h, List.getD_eq_getElem?_getD, List.getElem?_eq_getElem h]
    rfl
  · rw [List.getElem?_eq_none h, List.getElem?_eq_none (by simpa using h)]; rfl
theorem b2s_n2s {r : List Int} (hb : Byt r) : ∀ k : Nat, 2 * k ≤ r.length → b2s (n2s r k) = r.take (2 * k)
  | 0, _ => rfl
  | k + 1, h => by
    have e : b2s (n2s r k ++ [fN r (2 * k) 2]) = b2s (n2s r k) ++ be 2 (fN r (2 * k) 2) := by simp [b2s]
    rw [n2s_succ, e, b2s_n2s hb k (by omega), be_fN hb _ _ (by omega), tk_app]
    rfl
theorem n2s_bd {r : List Int} (hb : Byt r) (k : Nat) : ∀ x ∈ n2s r k, 0 ≤ x ∧ x < 65536 := by
  intro x hx
  obtain ⟨j, _, rfl⟩ := List.mem_map.1 hx
  have := fN_bd hb (2 * j) 2
  simpa only [show (256 : Int) ^ 2 = 65536 from rfl] using this
theorem eStr_of {nm : ByteArray} (h : ¬ 0 < nm.size) : nm = eStr := ByteArray.ext (Array.eq_empty_of_size_eq_zero (by have : nm.size = nm.data.size := rfl; omega))
theorem nil_of {l : List Int} (h : ¬ 0 < l.length) : l = [] := List.eq_nil_of_length_eq_zero (by omega)
theorem askW_askD {op : Int} {nm : ByteArray} {inf : List Int} (hb : ∀ x ∈ inf, 0 ≤ x ∧ x < 65536) (h16 : nm.size ≤ 16) (hk : inf.length < 65536) : askW op (askD nm inf) = ⟨0, op, nm, inf⟩ := by
  have e1 : fN (askD nm inf) 0 4 = nm.size := by
    unfold askD
    rw [List.append_assoc, List.append_assoc]
    exact fN_head (by omega) (by show (nm.size : Int) < 4294967296; omega)
  have hl := askD_len nm inf
  have e2 : (askD nm inf).drop 4 = strInts nm ++ (be 2 (inf.length : Int) ++ b2s inf) := by
    unfold askD
    rw [List.append_assoc, List.append_assoc, List.drop_left' (be_len 4 _)]
  have e3 : (askD nm inf).drop (4 + nm.size) = be 2 (inf.length : Int) ++ b2s inf := by
    rw [← List.drop_drop, e2, List.drop_left' (strInts_len nm)]
  have e4 : fN (be 2 (inf.length : Int) ++ b2s inf) 0 2 = inf.length := fN_head (by omega) (by show (inf.length : Int) < 65536; omega)
  have e5 : (be 2 (inf.length : Int) ++ b2s inf).length = 2 + 2 * inf.length := by rw [List.length_append, be_len, b2s_len]
  unfold askW
  rw [e1, Int.toNat_natCast, e3, e4, Int.toNat_natCast, e5, if_neg (by omega), if_neg (by omega), if_neg (by omega), e2, List.take_left' (strInts_len nm), str_strInts, List.drop_left' (be_len 2 _), n2s_b2s inf hb]

theorem read_write {op : Int} {nm : ByteArray} {inf : List Int} (hb : ∀ x ∈ inf, 0 ≤ x ∧ x < 65536) (h : (writeR op nm inf).E = 0) : (writeR op nm inf).op = op ∧ readW op (writeR op nm inf).d = ⟨0, op, nm, inf⟩ ∧ (writeR op nm inf).d.length ≤ 256 ∧ Byt (writeR op nm inf).d := by
  unfold writeR at h ⊢
  by_cases h1 : op = 1
  · rw [if_pos h1] at h ⊢
    by_cases h2 : 0 < inf.length
    · rw [if_pos h2] at h; cases h
    · rw [if_neg h2] at h ⊢
      by_cases h3 : 16 < nm.size
      · rw [if_pos h3] at h; cases h
      · rw [if_neg h3] at h ⊢
        refine ⟨h1.symm, ?_, by rw [strInts_len]; omega, strInts_byt nm⟩
        unfold readW
        rw [if_pos h1, strInts_len, if_neg h3, str_strInts, nil_of h2]
  · rw [if_neg h1] at h ⊢
    by_cases h23 : op = 2 ∨ op = 3
    · rw [if_pos h23] at h ⊢
      by_cases h2 : 0 < inf.length ∨ 0 < nm.size
      · rw [if_pos h2] at h; cases h
      · rw [if_neg h2] at h ⊢
        refine ⟨rfl, ?_, Nat.zero_le _, fun x hx => by cases hx⟩
        unfold readW
        rw [if_neg h1, if_pos h23]
        dsimp only [List.length_nil]
        rw [if_neg (Nat.lt_irrefl 0), nil_of (l := inf) (by omega), eStr_of (nm := nm) (by omega)]
    · rw [if_neg h23] at h ⊢
      by_cases h67 : op = 6 ∨ op = 7
      · rw [if_pos h67] at h ⊢
        by_cases h2 : 16 < nm.size ∨ 256 < 6 + nm.size + 2 * inf.length
        · rw [if_pos h2] at h; cases h
        · rw [if_neg h2] at h ⊢
          refine ⟨rfl, ?_, by rw [askD_len]; omega, ?_⟩
          · unfold readW
            rw [if_neg h1, if_neg h23, if_pos h67]
            exact askW_askD hb (by omega) (by omega)
          · unfold askD
            refine byt_app (byt_app (byt_app (be_byt _ _) (strInts_byt _)) (be_byt _ _)) ?_
            intro x hx
            obtain ⟨y, _, hy⟩ := List.mem_flatMap.1 hx
            exact be_byt _ _ x hy
      · rw [if_neg h67] at h; cases h
theorem write_none {op : Int} {nm : ByteArray} {inf : List Int} (h : (writeR op nm inf).E ≠ 0) : (writeR op nm inf).op = 0 ∧ (writeR op nm inf).d = [] := by
  unfold writeR at h ⊢
  by_cases h1 : op = 1
  · rw [if_pos h1] at h ⊢
    split at h
    · rename_i h2; rw [if_pos h2]; exact ⟨rfl, rfl⟩
    · rename_i h2; rw [if_neg h2]
      split at h
      · rename_i h3; rw [if_pos h3]; exact ⟨rfl, rfl⟩
      · exact absurd rfl h
  · rw [if_neg h1] at h ⊢
    by_cases h23 : op = 2 ∨ op = 3
    · rw [if_pos h23] at h ⊢
      split at h
      · rename_i h2; rw [if_pos h2]; exact ⟨rfl, rfl⟩
      · exact absurd rfl h
    · rw [if_neg h23] at h ⊢
      by_cases h67 : op = 6 ∨ op = 7
      · rw [if_pos h67] at h ⊢
        split at h
        · rename_i h2; rw [if_pos h2]; exact ⟨rfl, rfl⟩
        · exact absurd rfl h
      · rw [if_neg h67]; exact ⟨rfl, rfl⟩
theorem askW_none {op : Int} {d : List Int} (h : (askW op d).E ≠ 0) : (askW op d).op = 0 ∧ (askW op d).nm = eStr ∧ (askW op d).inf = [] := by
  unfold askW at h ⊢
  split at h
  · rename_i h1; rw [if_pos h1]; exact ⟨rfl, rfl, rfl⟩
  · rename_i h1; rw [if_neg h1]
    split at h
    · rename_i h2; rw [if_pos h2]; exact ⟨rfl, rfl, rfl⟩
    · rename_i h2; rw [if_neg h2]
      split at h
      · rename_i h3; rw [if_pos h3]; exact ⟨rfl, rfl, rfl⟩
      · exact absurd rfl h
theorem read_none' {op : Int} {d : List Int} (h : (readW op d).E ≠ 0) : (readW op d).op = 0 ∧ (readW op d).nm = eStr ∧ (readW op d).inf = [] := by
  unfold readW at h ⊢
  by_cases h1 : op = 1
  · rw [if_pos h1] at h ⊢
    split at h
    · rename_i h2; rw [if_pos h2]; exact ⟨rfl, rfl, rfl⟩
    · exact absurd rfl h
  · rw [if_neg h1] at h ⊢
    by_cases h23 : op = 2 ∨ op = 3
    · rw [if_pos h23] at h ⊢
      split at h
      · rename_i h2; rw [if_pos h2]; exact ⟨rfl, rfl, rfl⟩
      · exact absurd rfl h
    · rw [if_neg h23] at h ⊢
      by_cases h67 : op = 6 ∨ op = 7
      · rw [if_pos h67] at h ⊢
        exact askW_none h
      · rw [if_neg h67]; exact ⟨rfl, rfl, rfl⟩
/-- what was read, written again -/
theorem write_read {op : Int} {d : List Int} (hb : Byt d) (h : (readW op d).E = 0) :
    (∀ x ∈ (readW op d).inf, 0 ≤ x ∧ x < 65536) ∧ (readW op d).inf.length < 65536 ∧ (256 < d.length → (writeR (readW op d).op (readW op d).nm (readW op d).inf).E = 3) ∧ (d.length ≤ 256 → writeR (readW op d).op (readW op d).nm (readW op d).inf = ⟨0, op, d⟩) := by
  unfold readW at h ⊢
  by_cases h1 : op = 1
  · rw [if_pos h1] at h ⊢
    by_cases h2 : 16 < d.length
    · rw [if_pos h2] at h; cases h
    · rw [if_neg h2] at h ⊢
      refine ⟨(fun x hx => by cases hx), Nat.succ_pos _, fun h3 => by omega, fun _ => ?_⟩
      dsimp only
      subst h1
      unfold writeR
      rw [if_pos rfl, if_neg (by decide), strOfNums_size, if_neg h2, strInts_str hb]
  · rw [if_neg h1] at h ⊢
    by_cases h23 : op = 2 ∨ op = 3
    · rw [if_pos h23] at h ⊢
      by_cases h2 : 0 < d.length
      · rw [if_pos h2] at h; cases h
      · rw [if_neg h2] at h ⊢
        refine ⟨(fun x hx => by cases hx), Nat.succ_pos _, fun h3 => by omega, fun _ => ?_⟩
        dsimp only
        unfold writeR
        rw [if_neg h1, if_pos h23, if_neg (by decide), nil_of h2]
    · rw [if_neg h23] at h ⊢
      by_cases h67 : op = 6 ∨ op = 7
      · rw [if_pos h67] at h ⊢
        unfold askW at h ⊢
        by_cases g1 : d.length < 4 ∨ (d.length : Int) - 4 < fN d 0 4
        · rw [if_pos g1] at h; cases h
        rw [if_neg g1] at h ⊢
        have hbd := fN_bd hb 0 4
        obtain ⟨x, hx⟩ : ∃ x : Nat, fN d 0 4 = x := ⟨_, (Int.toNat_of_nonneg hbd.1).symm⟩
        rw [hx, Int.toNat_natCast] at h ⊢
        obtain ⟨r, hrr⟩ : ∃ r, d.drop (4 + x) = r := ⟨_, rfl⟩
        rw [hrr] at h ⊢
        have hbr : Byt r := by rw [← hrr]; exact hb.drop _
        have hrl : r.length = d.length - (4 + x) := by rw [← hrr, List.length_drop]
        by_cases g2 : r.length < 2 ∨ (r.length : Int) - 2 ≠ 2 * fN r 0 2
        · rw [if_pos g2] at h; cases h
        rw [if_neg g2] at h ⊢
        by_cases g3 : 16 < x
        · rw [if_pos g3] at h; cases h
        rw [if_neg g3] at h ⊢
        have hbd2 := fN_bd hbr 0 2
        simp only [show (256 : Int) ^ 2 = 65536 from rfl] at hbd2
        obtain ⟨k, hk⟩ : ∃ k : Nat, fN r 0 2 = k := ⟨_, (Int.toNat_of_nonneg hbd2.1).symm⟩
        rw [hk, Int.toNat_natCast]
        dsimp only
        have hsz : (strOfNums ((d.drop 4).take x)).size = x := by rw [strOfNums_size, List.length_take, List.length_drop]; omega
        have hin : (n2s (r.drop 2) k).length = k := n2s_len _ _
        refine ⟨n2s_bd (hbr.drop 2) k, by rw [hin]; omega, fun h3 => ?_, fun h3 => ?_⟩
        · unfold writeR
          rw [if_neg h1, if_neg h23, if_pos h67, hsz, hin, if_pos (by omega)]; rfl
        · unfold writeR
          rw [if_neg h1, if_neg h23, if_pos h67, hsz, hin, if_neg (by omega)]
          have e1 : be 4 (x : Int) = d.take 4 := by rw [← hx, be_fN hb 0 4 (by omega)]; rfl
          have e2 : be 2 (k : Int) = r.take 2 := by rw [← hk, be_fN hbr 0 2 (by omega)]; rfl
          have e3 : b2s (n2s (r.drop 2) k) = r.drop 2 := by
            rw [b2s_n2s (hbr.drop 2) k (by rw [List.length_drop]; omega), List.take_of_length_le (by rw [List.length_drop]; omega)]
          have e4 : askD (strOfNums ((d.drop 4).take x)) (n2s (r.drop 2) k) = d := by
            unfold askD
            rw [hsz, hin, e1, e2, e3, strInts_str ((hb.drop 4).take x), List.append_assoc, List.take_append_drop, tk_app, ← hrr, List.take_append_drop]
          rw [e4]
      · rw [if_neg h67] at h; cases h
end Go.Proofs.Ytgepekailoopeaa
