/-
  Plain laws of commands and answers in parts; rows of them that come in; what is next off a tape.
-/
import Derived.Test.YtankfmfenbhkgaaAdmLaw2
import Derived.Test.YtankfmfenbhkgaaRef24SameZ
import Derived.Test.YtankfmfenbhkgaaAdmSees
import Derived.Test.YtankfmfenbhkgaaAnsBoth
namespace Go.Proofs.Ytankfmfenbhkgaa
open Go.RowKit
set_option linter.unusedVariables false
set_option linter.unusedSimpArgs false

theorem mod_be {x : Int} {s : Nat} (h0 : 0 ≤ x) (h1 : x < 256 ^ s) : num (be s x) = x := by rw [num_be, Int.emod_eq_of_lt h0 h1]
theorem str_strInts (s : ByteArray) : strOfNums (strInts s) = s := by
  apply ByteArray.ext
  apply Array.toList_inj.1
  rw [strOfNums_data, strInts, List.map_map]
  have : ∀ x ∈ s.data.toList, ((fun n : Int => UInt8.ofNat n.toNat) ∘ fun b : UInt8 => (b.toNat : Int)) x = x := by
    intro x _
    simp
  exact (List.map_congr_left this).trans (List.map_id' _)
theorem fN_seg {l a b c : List Int} {o k : Nat} (h : l = a ++ (b ++ c)) (ha : a.length = o) (hb : b.length = k) : fN l o k = num b := by
  unfold fN
  rw [h, List.drop_left' ha, List.take_left' hb]
theorem fN_take {l : List Int} {o s k : Nat} (h : o + s ≤ k) : fN (l.take k) o s = fN l o s := by
  unfold fN
  rw [List.drop_take, List.take_take, Nat.min_eq_left (by omega)]
theorem dt_take {l : List Int} {o s k : Nat} (h : o + s ≤ k) : ((l.take k).drop o).take s = (l.drop o).take s := by
  rw [List.drop_take, List.take_take, Nat.min_eq_left (by omega)]
/-- a part of what a thing's bytes are, or all of them and more -/
theorem seg_step {b x rest : List Int} {a p : Nat} (hd : b.drop p = x ++ rest) (hp : p ≤ a) :
    (p + x.length ≤ a ∧ (b.take a).drop p = x ++ (b.take a).drop (p + x.length)) ∨ (a < p + x.length ∧ (b.take a).drop p = x.take (a - p)) := by
  have e : (b.take a).drop p = (x ++ rest).take (a - p) := by rw [List.drop_take, hd]
  by_cases h : p + x.length ≤ a
  · refine .inl ⟨h, ?_⟩
    have e2 : (b.take a).drop (p + x.length) = rest.take (a - p - x.length) := by
      rw [List.drop_take, ← List.drop_drop, hd, List.drop_left' rfl, Nat.sub_sub]
    rw [e2, e, List.take_append, List.take_of_length_le (by omega)]
  · refine .inr ⟨by omega, ?_⟩
    rw [e, List.take_append, show a - p - x.length = 0 by omega, List.take_zero, List.append_nil]
theorem bitV_bd (b : Bool) : 0 ≤ bitV b ∧ bitV b < 256 ∧ ¬ 1 < bitV b ∧ decide (bitV b = 1) = b ∧ (bitV b == 1) = b := by cases b <;> decide

section
variable {kd ck size : Int} {nm au : ByteArray} {fixed : Bool}
theorem adm_len (kd ck : Int) (nm au : ByteArray) (size : Int) (fixed : Bool) : (admBytes kd ck nm au size fixed).length = 24 + (nm.size + au.size) := by
  simp [admBytes, nput, be_len, strInts_len]; omega
theorem adm_fields (h : admErr kd nm au = 0) (c0 : 0 ≤ ck) (c1 : ck < 18446744073709551616) (z0 : 0 ≤ size) (z1 : size < 18446744073709551616) (t : List Int) :
    (admBytes kd ck nm au size fixed ++ t).take 4 = be 4 1128878932 ∧ fN (admBytes kd ck nm au size fixed ++ t) 4 1 = kd ∧ fN (admBytes kd ck nm au size fixed ++ t) 5 1 = bitV fixed ∧ fN (admBytes kd ck nm au size fixed ++ t) 6 8 = ck ∧ fN (admBytes kd ck nm au size fixed ++ t) 14 8 = size ∧
      fN (admBytes kd ck nm au size fixed ++ t) 22 1 = nm.size ∧ fN (admBytes kd ck nm au size fixed ++ t) 23 1 = au.size ∧ ((admBytes kd ck nm au size fixed ++ t).drop 24).take nm.size = strInts nm ∧ ((admBytes kd ck nm au size fixed ++ t).drop (24 + nm.size)).take au.size = strInts au ∧ nm.size ≤ 16 ∧ au.size ≤ 16 := by
  unfold admErr at h
  by_cases h1 : kd < 0 ∨ 255 < kd
  · rw [if_pos h1] at h; cases h
  by_cases h2 : 16 < nm.size ∨ 16 < au.size
  · rw [if_neg h1, if_pos h2] at h; cases h
  have hb := bitV_bd fixed
  have e : admBytes kd ck nm au size fixed ++ t = be 4 1128878932 ++ (be 1 kd ++ (be 1 (bitV fixed) ++ (be 8 ck ++ (be 8 size ++ (be 1 nm.size ++ (be 1 au.size ++ (strInts nm ++ (strInts au ++ t)))))))) := by simp [admBytes, nput]
  rw [e]
  refine ⟨List.take_left' (be_len _ _), ?_, ?_, ?_, ?_, ?_, ?_, ?_, ?_, by omega, by omega⟩
  · rw [fN_seg (a := be 4 1128878932) (b := be 1 kd) rfl (be_len _ _) (be_len _ _), mod_be (by omega) (by omega)]
  · rw [fN_seg (a := be 4 1128878932 ++ be 1 kd) (b := be 1 (bitV fixed)) (by simp only [List.append_assoc]; rfl) (by simp [be_len]) (be_len _ _), mod_be (by omega) (by omega)]
  · rw [fN_seg (a := be 4 1128878932 ++ be 1 kd ++ be 1 (bitV fixed)) (b := be 8 ck) (by simp only [List.append_assoc]; rfl) (by simp [be_len]) (be_len _ _), mod_be (by omega) (by omega)]
  · rw [fN_seg (a := be 4 1128878932 ++ be 1 kd ++ be 1 (bitV fixed) ++ be 8 ck) (b := be 8 size) (by simp only [List.append_assoc]; rfl) (by simp [be_len]) (be_len _ _), mod_be (by omega) (by omega)]
  · rw [fN_seg (a := be 4 1128878932 ++ be 1 kd ++ be 1 (bitV fixed) ++ be 8 ck ++ be 8 size) (b := be 1 nm.size) (by simp only [List.append_assoc]; rfl) (by simp [be_len]) (be_len _ _), mod_be (by omega) (by omega)]
  · rw [fN_seg (a := be 4 1128878932 ++ be 1 kd ++ be 1 (bitV fixed) ++ be 8 ck ++ be 8 size ++ be 1 nm.size) (b := be 1 au.size) (by simp only [List.append_assoc]; rfl) (by simp [be_len]) (be_len _ _), mod_be (by omega) (by omega)]
  · have e2 : be 4 1128878932 ++ (be 1 kd ++ (be 1 (bitV fixed) ++ (be 8 ck ++ (be 8 size ++ (be 1 nm.size ++ (be 1 au.size ++ (strInts nm ++ (strInts au ++ t)))))))) = (be 4 1128878932 ++ be 1 kd ++ be 1 (bitV fixed) ++ be 8 ck ++ be 8 size ++ be 1 nm.size ++ be 1 au.size) ++ (strInts nm ++ (strInts au ++ t)) := by simp only [List.append_assoc]
    rw [e2, List.drop_left' (by simp [be_len]), List.take_left' (strInts_len _)]
  · have e2 : be 4 1128878932 ++ (be 1 kd ++ (be 1 (bitV fixed) ++ (be 8 ck ++ (be 8 size ++ (be 1 nm.size ++ (be 1 au.size ++ (strInts nm ++ (strInts au ++ t)))))))) = (be 4 1128878932 ++ be 1 kd ++ be 1 (bitV fixed) ++ be 8 ck ++ be 8 size ++ be 1 nm.size ++ be 1 au.size ++ strInts nm) ++ (strInts au ++ t) := by simp only [List.append_assoc]
    rw [e2, List.drop_left' (by simp [be_len, strInts_len]; omega), List.take_left' (strInts_len _)]
theorem num4 {l : List Int} {m : Int} {k : Nat} (m0 : 0 ≤ m) (m1 : m < 256 ^ 4) (h : l.take 4 = be 4 m) : ¬ (4 ≤ (l.take k).length ∧ num ((l.take k).take 4) ≠ m) := by
  rintro ⟨h1, h2⟩
  apply h2
  have h4 : 4 ≤ k := by
    have := List.length_take_le k l
    omega
  rw [List.take_take, Nat.min_eq_left h4, h, mod_be m0 m1]
theorem takeAdm_full (h : admErr kd nm au = 0) (c0 : 0 ≤ ck) (c1 : ck < 18446744073709551616) (z0 : 0 ≤ size) (z1 : size < 18446744073709551616) (t : List Int) :
    takeAdm (admBytes kd ck nm au size fixed ++ t) = ⟨true, 0, kd, ck, nm, au, size, fixed, 24 + (nm.size + au.size)⟩ := by
  obtain ⟨e0, e1, e2, e3, e4, e5, e6, e7, e8, h16, g16⟩ := adm_fields (fixed := fixed) h c0 c1 z0 z1 t
  have hb := bitV_bd fixed
  have hl : (admBytes kd ck nm au size fixed ++ t).length = 24 + (nm.size + au.size) + t.length := by rw [List.length_append, adm_len]
  have hm := num4 (m := 1128878932) (k := (admBytes kd ck nm au size fixed ++ t).length) (by decide) (by decide) e0
  rw [List.take_length] at hm
  unfold takeAdm
  rw [if_neg hm, if_neg (by omega), e2, if_neg hb.2.2.1, e5, e6, if_neg (by omega), Int.toNat_natCast, Int.toNat_natCast, if_neg (by omega), e1, e3, e4, e7, e8, str_strInts, str_strInts, hb.2.2.2.1]
theorem takeAdm_part (h : admErr kd nm au = 0) (c0 : 0 ≤ ck) (c1 : ck < 18446744073709551616) (z0 : 0 ≤ size) (z1 : size < 18446744073709551616) {k : Nat} (hk : k < 24 + (nm.size + au.size)) :
    takeAdm ((admBytes kd ck nm au size fixed).take k) = noATk 0 := by
  obtain ⟨e0, e1, e2, e3, e4, e5, e6, e7, e8, h16, g16⟩ := adm_fields (fixed := fixed) h c0 c1 z0 z1 []
  rw [List.append_nil] at e0 e1 e2 e3 e4 e5 e6 e7 e8
  have hb := bitV_bd fixed
  have hl : ((admBytes kd ck nm au size fixed).take k).length = k := by rw [List.length_take, adm_len]; omega
  have hm := num4 (m := 1128878932) (k := k) (by decide) (by decide) e0
  unfold takeAdm
  rw [if_neg hm]
  by_cases h24 : k < 24
  · rw [if_pos (by omega)]
  · rw [if_neg (by omega), fN_take (by omega), e2, if_neg hb.2.2.1, fN_take (by omega), e5, fN_take (by omega), e6, if_neg (by omega), Int.toNat_natCast, Int.toNat_natCast, if_pos (by omega)]
end
theorem vol_at {v : Vol} (hv : v.Ok) (h16 : v.nm.size ≤ 16) (p t : List Int) :
    volAt (p ++ (vbytes v ++ t)) p.length = .ok (⟨v.id, v.nm, v.size, 0, v.fixed, v.orig⟩, p.length + (vbytes v).length) := by
  obtain ⟨⟨i0, i1⟩, ⟨s0, s1⟩, -, ⟨o0, o1⟩, -⟩ := hv
  have hb := bitV_bd v.fixed
  have hl : (p ++ (vbytes v ++ t)).length = p.length + (26 + v.nm.size) + t.length := by rw [List.length_append, List.length_append, vbytes_len]; omega
  have e : p ++ (vbytes v ++ t) = p ++ (be 8 v.id ++ (be 8 v.size ++ (be 8 v.orig ++ (be 1 (bitV v.fixed) ++ (be 1 v.nm.size ++ (strInts v.nm ++ t)))))) := by simp [vbytes, nput]
  have e1 : fN (p ++ (vbytes v ++ t)) p.length 8 = v.id := by rw [fN_seg (a := p) (b := be 8 v.id) e rfl (be_len _ _), mod_be i0 (by omega)]
  have e2 : fN (p ++ (vbytes v ++ t)) (p.length + 8) 8 = v.size := by rw [fN_seg (a := p ++ be 8 v.id) (b := be 8 v.size) (by rw [e]; simp only [List.append_assoc]; rfl) (by simp [be_len]) (be_len _ _), mod_be s0 (by omega)]
  have e3 : fN (p ++ (vbytes v ++ t)) (p.length + 16) 8 = v.orig := by rw [fN_seg (a := p ++ be 8 v.id ++ be 8 v.size) (b := be 8 v.orig) (by rw [e]; simp only [List.append_assoc]; rfl) (by simp [be_len]) (be_len _ _), mod_be o0 (by omega)]
  have e4 : fN (p ++ (vbytes v ++ t)) (p.length + 24) 1 = bitV v.fixed := by rw [fN_seg (a := p ++ be 8 v.id ++ be 8 v.size ++ be 8 v.orig) (b := be 1 (bitV v.fixed)) (by rw [e]; simp only [List.append_assoc]; rfl) (by simp [be_len]) (be_len _ _), mod_be (by omega) (by omega)]
  have e5 : fN (p ++ (vbytes v ++ t)) (p.length + 25) 1 = v.nm.size := by rw [fN_seg (a := p ++ be 8 v.id ++ be 8 v.size ++ be 8 v.orig ++ be 1 (bitV v.fixed)) (b := be 1 v.nm.size) (by rw [e]; simp only [List.append_assoc]; rfl) (by simp [be_len]) (be_len _ _), mod_be (by omega) (by omega)]
  have e6 : ((p ++ (vbytes v ++ t)).drop (p.length + 26)).take v.nm.size = strInts v.nm := by
    have e7 : p ++ (vbytes v ++ t) = (p ++ be 8 v.id ++ be 8 v.size ++ be 8 v.orig ++ be 1 (bitV v.fixed) ++ be 1 v.nm.size) ++ (strInts v.nm ++ t) := by rw [e]; simp only [List.append_assoc]
    rw [e7, List.drop_left' (by simp [be_len]), List.take_left' (strInts_len _)]
  unfold volAt
  rw [if_neg (by omega), e4, if_neg hb.2.2.1, e5, if_neg (by omega), Int.toNat_natCast, if_neg (by omega), e1, e2, e3, e6, str_strInts, hb.2.2.2.2, vbytes_len, show p.length + 26 + v.nm.size = p.length + (26 + v.nm.size) by omega]
theorem vol_part {v : Vol} (hv : v.Ok) (h16 : v.nm.size ≤ 16) (p : List Int) {k : Nat} (hk : k < (vbytes v).length) :
    volAt (p ++ (vbytes v).take k) p.length = .error 0 := by
  have hb := bitV_bd v.fixed
  rw [vbytes_len] at hk
  have hl : (p ++ (vbytes v).take k).length = p.length + k := by rw [List.length_append, List.length_take, vbytes_len]; omega
  have ht : p ++ (vbytes v).take k = (p ++ vbytes v).take (p.length + k) := by rw [List.take_append, List.take_of_length_le (show p.length ≤ p.length + k by omega), Nat.add_sub_cancel_left]
  have e : p ++ vbytes v = p ++ (be 8 v.id ++ (be 8 v.size ++ (be 8 v.orig ++ (be 1 (bitV v.fixed) ++ (be 1 v.nm.size ++ strInts v.nm))))) := by simp [vbytes, nput]
  unfold volAt
  by_cases h26 : k < 26
  · rw [if_pos (by omega)]
  · have e4 : fN (p ++ (vbytes v).take k) (p.length + 24) 1 = bitV v.fixed := by
      rw [ht, fN_take (by omega), fN_seg (a := p ++ be 8 v.id ++ be 8 v.size ++ be 8 v.orig) (b := be 1 (bitV v.fixed)) (by rw [e]; simp only [List.append_assoc]; rfl) (by simp [be_len]) (be_len _ _), mod_be (by omega) (by omega)]
    have e5 : fN (p ++ (vbytes v).take k) (p.length + 25) 1 = v.nm.size := by
      rw [ht, fN_take (by omega), fN_seg (a := p ++ be 8 v.id ++ be 8 v.size ++ be 8 v.orig ++ be 1 (bitV v.fixed)) (b := be 1 v.nm.size) (by rw [e]; simp only [List.append_assoc]; rfl) (by simp [be_len]) (be_len _ _), mod_be (by omega) (by omega)]
    rw [if_neg (by omega), e4, if_neg hb.2.2.1, e5, if_neg (by omega), Int.toNat_natCast, if_pos (by omega)]

section
variable {kd ck size : Int} {nm au : ByteArray} {fixed : Bool}
theorem take_whole {b t : List Int} {a : Nat} (h : b.length ≤ a) : (b ++ t).take a = b ++ t.take (a - b.length) := by
  rw [List.take_append, List.take_of_length_le h]
theorem take_some {b t : List Int} {a : Nat} (h : ¬ b.length ≤ a) : (b ++ t).take a = b.take a := by
  rw [List.take_append, show a - b.length = 0 by omega, List.take_zero, List.append_nil]
theorem takeAdm_take (h : admErr kd nm au = 0) (c0 : 0 ≤ ck) (c1 : ck < 18446744073709551616) (z0 : 0 ≤ size) (z1 : size < 18446744073709551616) (t : List Int) (a : Nat) :
    takeAdm ((admBytes kd ck nm au size fixed ++ t).take a) = if 24 + (nm.size + au.size) ≤ a then ⟨true, 0, kd, ck, nm, au, size, fixed, 24 + (nm.size + au.size)⟩ else noATk 0 := by
  have hl := adm_len kd ck nm au size fixed
  by_cases hw : 24 + (nm.size + au.size) ≤ a
  · rw [if_pos hw, take_whole (by omega)]
    exact takeAdm_full h c0 c1 z0 z1 _
  · rw [if_neg hw, take_some (by omega)]
    exact takeAdm_part h c0 c1 z0 z1 (by omega)
end
theorem vsbytes_app (a b : List Vol) : vsbytes (a ++ b) = vsbytes a ++ vsbytes b := List.flatMap_append
theorem vsbytes_split {vs : List Vol} {k : Nat} {v : Vol} (h : vs[k]? = some v) : vsbytes vs = vsbytes (vs.take k) ++ (vbytes v ++ vsbytes (vs.drop (k + 1))) := by
  have e : vs = vs.take k ++ (v :: vs.drop (k + 1)) := by
    obtain ⟨hk, e⟩ := List.getElem?_eq_some_iff.1 h
    have := List.drop_eq_getElem_cons hk
    rw [e] at this
    rw [← this, List.take_append_drop]
  conv => lhs; rw [e]
  rw [vsbytes_app]
  congr 1
theorem vols_take {vs : List Vol} (hv : ∀ v ∈ vs, v.Ok ∧ v.nm.size ≤ 16) (p t : List Int) (m : Nat) : ∀ k, k ≤ vs.length →
    volsFrom (p ++ (vsbytes vs ++ t).take m) p.length k = if (vsbytes (vs.take k)).length ≤ m then .ok ((vs.take k).map Vol.z, p.length + (vsbytes (vs.take k)).length) else .error 0 := by
  intro k
  induction k with
  | zero => intro _; simp [volsFrom, vsbytes]
  | succ k ih =>
    intro hk
    have ih := ih (by omega)
    have hvk : vs[k]? = some vs[k] := List.getElem?_eq_getElem (by omega)
    obtain ⟨hok, h16⟩ := hv _ (List.getElem_mem (show k < vs.length by omega))
    generalize vs[k] = v at hvk hok h16
    have hs := vsbytes_succ hvk
    have hsl : (vsbytes (vs.take (k + 1))).length = (vsbytes (vs.take k)).length + (vbytes v).length := by rw [hs, List.length_append]
    have e1 : vsbytes vs ++ t = vsbytes (vs.take k) ++ (vbytes v ++ (vsbytes (vs.drop (k + 1)) ++ t)) := by rw [vsbytes_split hvk]; simp only [List.append_assoc]
    rw [volsFrom, ih]
    by_cases h1 : (vsbytes (vs.take k)).length ≤ m
    · rw [if_pos h1]
      dsimp only
      have e2 : p ++ (vsbytes vs ++ t).take m = (p ++ vsbytes (vs.take k)) ++ (vbytes v ++ (vsbytes (vs.drop (k + 1)) ++ t)).take (m - (vsbytes (vs.take k)).length) := by
        rw [e1, take_whole h1, List.append_assoc]
      have e3 : p.length + (vsbytes (vs.take k)).length = (p ++ vsbytes (vs.take k)).length := by rw [List.length_append]
      rw [e2, e3]
      by_cases h2 : (vsbytes (vs.take (k + 1))).length ≤ m
      · rw [if_pos h2, take_whole (by omega), vol_at hok h16]
        dsimp only
        congr 2
        · rw [List.take_add_one, hvk, List.map_append]; rfl
        · rw [List.length_append, hsl, Nat.add_assoc]
      · rw [if_neg h2, take_some (by omega), vol_part hok h16 _ (by omega)]
    · rw [if_neg h1, if_neg (by omega)]
section
variable {ck er id : Int} {vs : List Vol}
def AnsFit (ck er id : Int) (vs : List Vol) : Prop := (0 ≤ ck ∧ ck < 18446744073709551616) ∧ (0 ≤ er ∧ er < 4294967296) ∧ (0 ≤ id ∧ id < 18446744073709551616) ∧ vs.length ≤ 16 ∧ ∀ v ∈ vs, v.Ok ∧ v.nm.size ≤ 16
theorem ahead_len (ck er id : Int) (n : Nat) : (nput (ansHead ck er id n)).length = 25 := by simp [nput, ansHead, be_len]
theorem ans_len (ck er id : Int) (vs : List Vol) : (ansBytes ck er id vs).length = 25 + (vsbytes vs).length := by rw [ansBytes, List.length_append, ahead_len]
theorem takeAns_take (h : AnsFit ck er id vs) (t : List Int) (a : Nat) :
    takeAns ((ansBytes ck er id vs ++ t).take a) = if (ansBytes ck er id vs).length ≤ a then .ok ((ck, er, id), vs.map Vol.z, (ansBytes ck er id vs).length) else .error 0 := by
  obtain ⟨⟨c0, c1⟩, ⟨r0, r1⟩, ⟨d0, d1⟩, h16, hv⟩ := h
  have hl := ans_len ck er id vs
  have e : ansBytes ck er id vs ++ t = nput (ansHead ck er id vs.length) ++ (vsbytes vs ++ t) := by rw [ansBytes, List.append_assoc]
  have hh : nput (ansHead ck er id vs.length) = be 4 1128878913 ++ (be 4 er ++ (be 8 ck ++ (be 8 id ++ be 1 vs.length))) := by simp [nput, ansHead]
  have e0 : (ansBytes ck er id vs ++ t).take 4 = be 4 1128878913 := by rw [e, hh, List.append_assoc]; exact List.take_left' (be_len _ _)
  have hm := num4 (m := 1128878913) (k := a) (by decide) (by decide) e0
  unfold takeAns
  rw [if_neg hm]
  by_cases h25 : 25 ≤ a
  · have e1 : (ansBytes ck er id vs ++ t).take a = nput (ansHead ck er id vs.length) ++ (vsbytes vs ++ t).take (a - 25) := by rw [e, take_whole (by rw [ahead_len]; exact h25), ahead_len]
    rw [e1]
    have f : ∀ X : List Int, fN (nput (ansHead ck er id vs.length) ++ X) 4 4 = er ∧ fN (nput (ansHead ck er id vs.length) ++ X) 8 8 = ck ∧ fN (nput (ansHead ck er id vs.length) ++ X) 16 8 = id ∧ fN (nput (ansHead ck er id vs.length) ++ X) 24 1 = vs.length := by
      intro X
      rw [hh]
      refine ⟨?_, ?_, ?_, ?_⟩
      · rw [fN_seg (a := be 4 1128878913) (b := be 4 er) (by simp only [List.append_assoc]; rfl) (be_len _ _) (be_len _ _), mod_be (by omega) (by omega)]
      · rw [fN_seg (a := be 4 1128878913 ++ be 4 er) (b := be 8 ck) (by simp only [List.append_assoc]; rfl) (by simp [be_len]) (be_len _ _), mod_be (by omega) (by omega)]
      · rw [fN_seg (a := be 4 1128878913 ++ be 4 er ++ be 8 ck) (b := be 8 id) (by simp only [List.append_assoc]; rfl) (by simp [be_len]) (be_len _ _), mod_be (by omega) (by omega)]
      · rw [fN_seg (a := be 4 1128878913 ++ be 4 er ++ be 8 ck ++ be 8 id) (b := be 1 vs.length) (by simp only [List.append_assoc]; rfl) (by simp [be_len]) (be_len _ _), mod_be (by omega) (by omega)]
    obtain ⟨f1, f2, f3, f4⟩ := f ((vsbytes vs ++ t).take (a - 25))
    have hlen : (nput (ansHead ck er id vs.length) ++ (vsbytes vs ++ t).take (a - 25)).length = 25 + ((vsbytes vs ++ t).take (a - 25)).length := by rw [List.length_append, ahead_len]
    rw [if_neg (by omega), f1, f2, f3, f4, if_neg (by omega), Int.toNat_natCast]
    have hvt := vols_take hv (nput (ansHead ck er id vs.length)) t (a - 25) vs.length (Nat.le_refl _)
    rw [ahead_len, List.take_of_length_le (Nat.le_refl _)] at hvt
    rw [hvt, hl]
    by_cases hw : (vsbytes vs).length ≤ a - 25
    · rw [if_pos hw, if_pos (by omega)]
    · rw [if_neg hw, if_neg (by omega)]
  · have hlen : ((ansBytes ck er id vs ++ t).take a).length ≤ a := List.length_take_le _ _
    rw [if_pos (by omega), if_neg (by omega)]
end


theorem flat_get {α : Type} (f : α → List Value) (k : Nat) (hf : ∀ x, (f x).length = k) : ∀ (l : List α) (i j : Nat), j < k → (l.flatMap f)[i * k + j]? = (l[i]?).bind fun x => (f x)[j]? := by
  intro l
  induction l with
  | nil => intro i j _; simp
  | cons x l ih =>
    intro i j hj
    rw [List.flatMap_cons]
    cases i with
    | zero =>
      rw [Nat.zero_mul, Nat.zero_add, List.getElem?_append_left (by rw [hf]; exact hj)]
      simp
    | succ i =>
      rw [List.getElem?_append_right (by rw [hf, Nat.succ_mul]; omega), hf, show (i + 1) * k + j - k = i * k + j by rw [Nat.succ_mul]; omega, ih i j hj]
      simp
theorem flat_len {α β : Type} (f : α → List β) (k : Nat) (hf : ∀ x, (f x).length = k) : ∀ l : List α, (l.flatMap f).length = l.length * k := by
  intro l
  induction l with
  | nil => simp
  | cons x l ih => rw [List.flatMap_cons, List.length_append, hf, ih, List.length_cons, Nat.succ_mul]; omega
theorem le_sum {x : Nat} : ∀ {l : List Nat}, x ∈ l → x ≤ l.sum := by
  intro l
  induction l with
  | nil => intro h; cases h
  | cons y l ih =>
    intro h
    rw [List.sum_cons]
    rcases List.mem_cons.1 h with h | h
    · omega
    · have := ih h; omega
theorem sum_eight {α : Type} (f : α → Nat) : ∀ l : List α, (l.map fun y => 8 * f y).sum = 8 * (l.map f).sum := by
  intro l
  induction l with
  | nil => rfl
  | cons x l ih => simp only [List.map_cons, List.sum_cons, ih]; omega
theorem sum_ge {α : Type} (f : α → Nat) (k : Nat) : ∀ l : List α, (∀ x ∈ l, k ≤ f x) → l.length * k ≤ (l.map f).sum := by
  intro l
  induction l with
  | nil => intro _; simp
  | cons x l ih =>
    intro h
    have h1 := ih fun y hy => h y (List.mem_cons_of_mem _ hy)
    have h2 := h x (List.mem_cons_self ..)
    simp only [List.map_cons, List.sum_cons, List.length_cons, Nat.succ_mul]; omega
theorem bulk_ints (k : IntKind) (l : List Int) : (List.map (bulk (.int k)) l).sum = l.length := by
  induction l with
  | nil => rfl
  | cons x l ih => rw [List.map_cons, List.sum_cons, ih, List.length_cons]; show 1 + _ = _; omega
theorem vsbytes_len (l : List Vol) : (vsbytes l).length = (l.map fun v => 26 + v.nm.size).sum := by
  induction l with
  | nil => rfl
  | cons v l ih =>
    have e : vsbytes (v :: l) = vbytes v ++ vsbytes l := by simp [vsbytes]
    rw [e, List.length_append, vbytes_len, ih, List.map_cons, List.sum_cons]

set_option maxHeartbeats 1000000 in
theorem sees_volsB {h : Array Obj} {A : Option Addr} {n c : Nat} {x : Sh.V (.slice (.agg (.pair (.int .u64) (.pair .str (.pair (.int .u64) (.pair (.int .u64) (.pair .bool (.pair (.int .u64) .unit))))))) 56)} (hs : Sees h (.slice (.agg (.pair (.int .u64) (.pair .str (.pair (.int .u64) (.pair (.int .u64) (.pair .bool (.pair (.int .u64) .unit))))))) 56) [.slice A n c] x) (hb : bulk (.slice (.agg (.pair (.int .u64) (.pair .str (.pair (.int .u64) (.pair (.int .u64) (.pair .bool (.pair (.int .u64) .unit))))))) 56) x ≤ 1048576) :
    n ≤ c ∧ ∃ vs : List Vol, vs.length = n ∧ (∀ v ∈ vs, v.Ok) ∧ (vsbytes vs).length ≤ 8 * bulk (.slice (.agg (.pair (.int .u64) (.pair .str (.pair (.int .u64) (.pair (.int .u64) (.pair .bool (.pair (.int .u64) .unit))))))) 56) x ∧ Rd h (fun b => b < h.size) 6 A n (vrow vs) := by
  obtain ⟨A', c', hc, h1, h2, h3⟩ := hs
  simp only [List.cons.injEq, and_true, Value.slice.injEq] at hc
  obtain ⟨rfl, rfl, rfl⟩ := hc
  have hbk : bulk (.slice (.agg (.pair (.int .u64) (.pair .str (.pair (.int .u64) (.pair (.int .u64) (.pair .bool (.pair (.int .u64) .unit))))))) 56) x = (List.map (bulk (.agg (.pair (.int .u64) (.pair .str (.pair (.int .u64) (.pair (.int .u64) (.pair .bool (.pair (.int .u64) .unit)))))))) x).sum + 1 := rfl
  rw [hbk] at hb
  have hel : ∀ i, i < List.length x → ∃ r : Vol, r.Ok ∧ (∀ y, x[i]? = some y → 7 + r.nm.size ≤ bulk (.agg (.pair (.int .u64) (.pair .str (.pair (.int .u64) (.pair (.int .u64) (.pair .bool (.pair (.int .u64) .unit))))))) y) ∧ ∃ ad, A = some ad ∧ ∀ (j : Nat) u, r.cells[j]? = some u → cellH h (ad.add (i * 6 + j)) = some u := by
    intro i hi
    obtain ⟨ad, hA, hx⟩ := h3 (by omega)
    have hy : x[i]? = some x[i] := List.getElem?_eq_getElem hi
    have hmem : bulk (.agg (.pair (.int .u64) (.pair .str (.pair (.int .u64) (.pair (.int .u64) (.pair .bool (.pair (.int .u64) .unit))))))) x[i] ≤ (List.map (bulk (.agg (.pair (.int .u64) (.pair .str (.pair (.int .u64) (.pair (.int .u64) (.pair .bool (.pair (.int .u64) .unit)))))))) x).sum := le_sum (List.mem_map_of_mem (List.getElem_mem hi))
    generalize x[i] = y at *
    obtain ⟨cs', _, hcell, hse⟩ := hx i y hy
    obtain ⟨id, nm, size, root, fixed, orig, u⟩ := y
    have e : bulk (.agg (.pair (.int .u64) (.pair .str (.pair (.int .u64) (.pair (.int .u64) (.pair .bool (.pair (.int .u64) .unit))))))) (id, nm, size, root, fixed, orig, u) = 1 + ((ByteArray.size nm + 1) + (1 + (1 + (1 + (1 + 0))))) + 1 := rfl
    obtain ⟨q1, r1, rfl, _, ⟨rfl, hb1⟩, q2, r2, rfl, _, ⟨rfl, hb2⟩, q3, r3, rfl, _, ⟨rfl, hb3⟩, q4, r4, rfl, _, ⟨rfl, hb4⟩, q5, r5, rfl, _, rfl, q6, r6, rfl, _, ⟨rfl, hb6⟩, rfl⟩ := hse
    have g1 := bounds_u64 hb1
    have g3 := bounds_u64 hb3
    have g4 := bounds_u64 hb4
    have g6 := bounds_u64 hb6
    dsimp only at g1 g3 g4 g6
    refine ⟨⟨id, nm, size, root, fixed, orig⟩, ⟨⟨by dsimp only; omega, by dsimp only; omega⟩, ⟨by dsimp only; omega, by dsimp only; omega⟩, ⟨by dsimp only; omega, by dsimp only; omega⟩, ⟨by dsimp only; omega, by dsimp only; omega⟩, by dsimp only; omega⟩, fun y' hy' => ?_, ad, hA, fun j v hv => hcell j v ?_⟩
    · rw [hy] at hy'
      injection hy' with hy'
      subst hy'
      rw [e]
      dsimp only
      omega
    · exact hv
  obtain ⟨vs, hlen, hR⟩ := list_of (List.length x) hel
  have hsum : (vs.map fun v => 26 + v.nm.size).sum ≤ (x.map fun y => 8 * bulk (.agg (.pair (.int .u64) (.pair .str (.pair (.int .u64) (.pair (.int .u64) (.pair .bool (.pair (.int .u64) .unit))))))) y).sum := sum_le _ _ vs x hlen fun i r y hr hy => by
    have := (hR i r hr).2.1 y hy
    omega
  have hmul : (x.map fun y => 8 * bulk (.agg (.pair (.int .u64) (.pair .str (.pair (.int .u64) (.pair (.int .u64) (.pair .bool (.pair (.int .u64) .unit))))))) y).sum = 8 * (List.map (bulk (.agg (.pair (.int .u64) (.pair .str (.pair (.int .u64) (.pair (.int .u64) (.pair .bool (.pair (.int .u64) .unit)))))))) x).sum := sum_eight _ _
  refine ⟨h1, vs, hlen, fun r hr => ?_, by rw [vsbytes_len, hbk]; omega, ?_, fun hpos => ?_⟩
  · obtain ⟨i, hi⟩ := List.getElem?_of_mem hr
    exact (hR i r hi).1
  · rw [vrow_len, hlen]
  · have h0 : vs[0]? = some vs[0] := List.getElem?_eq_getElem (by omega)
    obtain ⟨_, _, ad, hA, hc0⟩ := hR 0 _ h0
    refine ⟨ad, hA, ?_, fun j u hu => ?_⟩
    · have := cellH_lt (hc0 0 _ rfl)
      rwa [add_block] at this
    · have hj : j = j / 6 * 6 + j % 6 := by omega
      rw [hj, vrow_get _ _ _ (by omega)] at hu
      cases hi : vs[j / 6]? with
      | none => rw [hi] at hu; cases hu
      | some r =>
        rw [hi] at hu
        obtain ⟨_, _, ad', hA', hc⟩ := hR _ r hi
        rw [hA] at hA'
        injection hA' with hA'
        subst hA'
        rw [hj]
        exact hc _ u hu

structure Ad where
  kd : Int
  ck : Int
  nm : ByteArray
  au : ByteArray
  size : Int
  fixed : Bool
def Ad.cells (r : Ad) : List Value := [.int .i64 r.kd, .int .u64 r.ck, .string r.nm, .string r.au, .int .u64 r.size, .bool r.fixed]
def Ad.bytes (r : Ad) : List Int := admBytes r.kd r.ck r.nm r.au r.size r.fixed
def Ad.err (r : Ad) : Int := admErr r.kd r.nm r.au
def Ad.Good (h : Array Obj) (r : Ad) : Prop := (0 ≤ r.ck ∧ r.ck < 18446744073709551616) ∧ (0 ≤ r.size ∧ r.size < 18446744073709551616) ∧ r.nm.size ≤ 1048576 ∧ r.au.size ≤ 1048576
theorem Ad.cells_len (r : Ad) : r.cells.length = 6 := rfl
theorem Ad.bytes_ge (r : Ad) : 24 ≤ r.bytes.length := by unfold Ad.bytes; rw [adm_len]; omega

set_option maxHeartbeats 2000000 in
theorem sees_Ads {h : Array Obj} {A : Option Addr} {n c : Nat} {x : Sh.V (.slice (.agg (.pair (.int .i64) (.pair (.int .u64) (.pair .str (.pair .str (.pair (.int .u64) (.pair .bool .unit))))))) 64)} (hs : Sees h (.slice (.agg (.pair (.int .i64) (.pair (.int .u64) (.pair .str (.pair .str (.pair (.int .u64) (.pair .bool .unit))))))) 64) [.slice A n c] x) (hb : bulk (.slice (.agg (.pair (.int .i64) (.pair (.int .u64) (.pair .str (.pair .str (.pair (.int .u64) (.pair .bool .unit))))))) 64) x ≤ 1048576) :
    n ≤ c ∧ ∃ rs : List Ad, rs.length = n ∧ (∀ r ∈ rs, r.Good h) ∧ (rs.map fun r => r.bytes.length).sum ≤ 8388608 ∧ n ≤ 1048576 ∧ Rd h (fun b => b < h.size) 6 A n (rs.flatMap Ad.cells) := by
  obtain ⟨A', c', hc, h1, h2, h3⟩ := hs
  simp only [List.cons.injEq, and_true, Value.slice.injEq] at hc
  obtain ⟨rfl, rfl, rfl⟩ := hc
  have hbk : bulk (.slice (.agg (.pair (.int .i64) (.pair (.int .u64) (.pair .str (.pair .str (.pair (.int .u64) (.pair .bool .unit))))))) 64) x = (List.map (bulk (.agg (.pair (.int .i64) (.pair (.int .u64) (.pair .str (.pair .str (.pair (.int .u64) (.pair .bool .unit)))))))) x).sum + 1 := rfl
  rw [hbk] at hb
  have hel : ∀ i, i < List.length x → ∃ r : Ad, r.Good h ∧ (∀ y, x[i]? = some y → r.bytes.length ≤ 8 * bulk (.agg (.pair (.int .i64) (.pair (.int .u64) (.pair .str (.pair .str (.pair (.int .u64) (.pair .bool .unit))))))) y) ∧ ∃ ad, A = some ad ∧ ∀ (j : Nat) u, r.cells[j]? = some u → cellH h (ad.add (i * 6 + j)) = some u := by
    intro i hi
    obtain ⟨ad, hA, hx⟩ := h3 (by omega)
    have hy : x[i]? = some x[i] := List.getElem?_eq_getElem hi
    have hmem : bulk (.agg (.pair (.int .i64) (.pair (.int .u64) (.pair .str (.pair .str (.pair (.int .u64) (.pair .bool .unit))))))) x[i] ≤ (List.map (bulk (.agg (.pair (.int .i64) (.pair (.int .u64) (.pair .str (.pair .str (.pair (.int .u64) (.pair .bool .unit)))))))) x).sum := le_sum (List.mem_map_of_mem (List.getElem_mem hi))
    generalize x[i] = y at *
    obtain ⟨cs', _, hcell, hse⟩ := hx i y hy
    obtain ⟨kd, ck, nm, au, size, fixed, u⟩ := y
    have e : bulk (.agg (.pair (.int .i64) (.pair (.int .u64) (.pair .str (.pair .str (.pair (.int .u64) (.pair .bool .unit))))))) (kd, ck, nm, au, size, fixed, u) = 1 + (1 + ((ByteArray.size nm + 1) + ((ByteArray.size au + 1) + (1 + (1 + 0))))) + 1 := rfl
    obtain ⟨q1, r1, rfl, _, ⟨rfl, hb1⟩, q2, r2, rfl, _, ⟨rfl, hb2⟩, q3, r3, rfl, _, ⟨rfl, _⟩, q4, r4, rfl, _, ⟨rfl, _⟩, q5, r5, rfl, _, ⟨rfl, hb5⟩, q6, r6, rfl, _, rfl, rfl⟩ := hse
    have g2 := bounds_u64 hb2
    have g5 := bounds_u64 hb5
    dsimp only at g2 g5
    refine ⟨⟨kd, ck, nm, au, size, fixed⟩, ⟨⟨by dsimp only; omega, by dsimp only; omega⟩, ⟨by dsimp only; omega, by dsimp only; omega⟩, by dsimp only; omega, by dsimp only; omega⟩, fun y' hy' => ?_, ad, hA, fun j v hv => hcell j v hv⟩
    rw [hy] at hy'
    injection hy' with hy'
    subst hy'
    rw [e]
    show (admBytes kd ck nm au size fixed).length ≤ _
    rw [adm_len]
    omega
  obtain ⟨rs, hlen, hR⟩ := list_of (List.length x) hel
  have hsum : (rs.map fun r => r.bytes.length).sum ≤ (x.map fun y => 8 * bulk (.agg (.pair (.int .i64) (.pair (.int .u64) (.pair .str (.pair .str (.pair (.int .u64) (.pair .bool .unit))))))) y).sum := sum_le _ _ rs x hlen fun i r y hr hy => (hR i r hr).2.1 y hy
  have hmul : (x.map fun y => 8 * bulk (.agg (.pair (.int .i64) (.pair (.int .u64) (.pair .str (.pair .str (.pair (.int .u64) (.pair .bool .unit))))))) y).sum = 8 * (List.map (bulk (.agg (.pair (.int .i64) (.pair (.int .u64) (.pair .str (.pair .str (.pair (.int .u64) (.pair .bool .unit)))))))) x).sum := sum_eight _ _
  have hn : rs.length * 24 ≤ (rs.map fun r => r.bytes.length).sum := sum_ge _ _ _ fun r _ => r.bytes_ge
  refine ⟨h1, rs, hlen, fun r hr => ?_, by omega, by omega, ?_, fun hpos => ?_⟩
  · obtain ⟨i, hi⟩ := List.getElem?_of_mem hr
    exact (hR i r hi).1
  · rw [flat_len Ad.cells 6 Ad.cells_len, hlen]
  · have h0 : rs[0]? = some rs[0] := List.getElem?_eq_getElem (by omega)
    obtain ⟨_, _, ad, hA, hc0⟩ := hR 0 _ h0
    refine ⟨ad, hA, ?_, fun j u hu => ?_⟩
    · have := cellH_lt (hc0 0 _ rfl)
      rwa [add_block] at this
    · have hj : j = j / 6 * 6 + j % 6 := by omega
      rw [hj, flat_get Ad.cells 6 Ad.cells_len _ _ _ (by omega)] at hu
      cases hi : rs[j / 6]? with
      | none => rw [hi] at hu; cases hu
      | some r =>
        rw [hi] at hu
        obtain ⟨_, _, ad', hA', hc⟩ := hR _ r hi
        rw [hA] at hA'
        injection hA' with hA'
        subst hA'
        rw [hj]
        exact hc _ u hu

structure An where
  ck : Int
  er : Int
  id : Int
  A : Option Addr
  c : Nat
  vs : List Vol
def An.cells (r : An) : List Value := [.int .u64 r.ck, .int .u32 r.er, .int .u64 r.id, .slice r.A r.vs.length r.c]
def An.bytes (r : An) : List Int := ansBytes r.ck r.er r.id r.vs
def An.err (r : An) : Int := ansErr r.vs
def An.Good (h : Array Obj) (r : An) : Prop := (0 ≤ r.ck ∧ r.ck < 18446744073709551616) ∧ (0 ≤ r.er ∧ r.er < 4294967296) ∧ (0 ≤ r.id ∧ r.id < 18446744073709551616) ∧ (∀ v ∈ r.vs, v.Ok) ∧ Rd h (fun b => b < h.size) 6 r.A r.vs.length (vrow r.vs) ∧ r.vs.length ≤ 1048576
theorem An.cells_len (r : An) : r.cells.length = 4 := rfl
theorem An.bytes_ge (r : An) : 25 ≤ r.bytes.length := by unfold An.bytes; rw [ans_len]; omega

set_option maxHeartbeats 2000000 in
theorem sees_Ans {h : Array Obj} {A : Option Addr} {n c : Nat} {x : Sh.V (.slice (.agg (.pair (.int .u64) (.pair (.int .u32) (.pair (.int .u64) (.pair (.slice (.agg (.pair (.int .u64) (.pair .str (.pair (.int .u64) (.pair (.int .u64) (.pair .bool (.pair (.int .u64) .unit))))))) 56) .unit))))) 48)} (hs : Sees h (.slice (.agg (.pair (.int .u64) (.pair (.int .u32) (.pair (.int .u64) (.pair (.slice (.agg (.pair (.int .u64) (.pair .str (.pair (.int .u64) (.pair (.int .u64) (.pair .bool (.pair (.int .u64) .unit))))))) 56) .unit))))) 48) [.slice A n c] x) (hb : bulk (.slice (.agg (.pair (.int .u64) (.pair (.int .u32) (.pair (.int .u64) (.pair (.slice (.agg (.pair (.int .u64) (.pair .str (.pair (.int .u64) (.pair (.int .u64) (.pair .bool (.pair (.int .u64) .unit))))))) 56) .unit))))) 48) x ≤ 1048576) :
    n ≤ c ∧ ∃ rs : List An, rs.length = n ∧ (∀ r ∈ rs, r.Good h) ∧ (rs.map fun r => r.bytes.length).sum ≤ 8388608 ∧ n ≤ 1048576 ∧ Rd h (fun b => b < h.size) 4 A n (rs.flatMap An.cells) := by
  obtain ⟨A', c', hc, h1, h2, h3⟩ := hs
  simp only [List.cons.injEq, and_true, Value.slice.injEq] at hc
  obtain ⟨rfl, rfl, rfl⟩ := hc
  have hbk : bulk (.slice (.agg (.pair (.int .u64) (.pair (.int .u32) (.pair (.int .u64) (.pair (.slice (.agg (.pair (.int .u64) (.pair .str (.pair (.int .u64) (.pair (.int .u64) (.pair .bool (.pair (.int .u64) .unit))))))) 56) .unit))))) 48) x = (List.map (bulk (.agg (.pair (.int .u64) (.pair (.int .u32) (.pair (.int .u64) (.pair (.slice (.agg (.pair (.int .u64) (.pair .str (.pair (.int .u64) (.pair (.int .u64) (.pair .bool (.pair (.int .u64) .unit))))))) 56) .unit)))))) x).sum + 1 := rfl
  rw [hbk] at hb
  have hel : ∀ i, i < List.length x → ∃ r : An, r.Good h ∧ (∀ y, x[i]? = some y → r.bytes.length ≤ 8 * bulk (.agg (.pair (.int .u64) (.pair (.int .u32) (.pair (.int .u64) (.pair (.slice (.agg (.pair (.int .u64) (.pair .str (.pair (.int .u64) (.pair (.int .u64) (.pair .bool (.pair (.int .u64) .unit))))))) 56) .unit))))) y) ∧ ∃ ad, A = some ad ∧ ∀ (j : Nat) u, r.cells[j]? = some u → cellH h (ad.add (i * 4 + j)) = some u := by
    intro i hi
    obtain ⟨ad, hA, hx⟩ := h3 (by omega)
    have hy : x[i]? = some x[i] := List.getElem?_eq_getElem hi
    have hmem : bulk (.agg (.pair (.int .u64) (.pair (.int .u32) (.pair (.int .u64) (.pair (.slice (.agg (.pair (.int .u64) (.pair .str (.pair (.int .u64) (.pair (.int .u64) (.pair .bool (.pair (.int .u64) .unit))))))) 56) .unit))))) x[i] ≤ (List.map (bulk (.agg (.pair (.int .u64) (.pair (.int .u32) (.pair (.int .u64) (.pair (.slice (.agg (.pair (.int .u64) (.pair .str (.pair (.int .u64) (.pair (.int .u64) (.pair .bool (.pair (.int .u64) .unit))))))) 56) .unit)))))) x).sum := le_sum (List.mem_map_of_mem (List.getElem_mem hi))
    generalize x[i] = y at *
    obtain ⟨cs', _, hcell, hse⟩ := hx i y hy
    obtain ⟨ck, er, id, l, u⟩ := y
    have e : ∀ B, B = bulk (.slice (.agg (.pair (.int .u64) (.pair .str (.pair (.int .u64) (.pair (.int .u64) (.pair .bool (.pair (.int .u64) .unit))))))) 56) l → bulk (.agg (.pair (.int .u64) (.pair (.int .u32) (.pair (.int .u64) (.pair (.slice (.agg (.pair (.int .u64) (.pair .str (.pair (.int .u64) (.pair (.int .u64) (.pair .bool (.pair (.int .u64) .unit))))))) 56) .unit))))) (ck, er, id, l, u) = 1 + (1 + (1 + (B + 0))) + 1 := by rintro _ rfl; rfl
    obtain ⟨B, hB⟩ : ∃ B, B = bulk (.slice (.agg (.pair (.int .u64) (.pair .str (.pair (.int .u64) (.pair (.int .u64) (.pair .bool (.pair (.int .u64) .unit))))))) 56) l := ⟨_, rfl⟩
    have e := e B hB
    have hBb : B ≤ 1048576 := by omega
    obtain ⟨q1, r1, rfl, _, ⟨rfl, hb1⟩, q2, r2, rfl, _, ⟨rfl, hb2⟩, q3, r3, rfl, _, ⟨rfl, hb3⟩, q4, r4, rfl, _, hs4, rfl⟩ := hse
    obtain ⟨A0, c0, rfl, _⟩ := id_ hs4
    obtain ⟨_, vs, hvl, hvo, hvb0, hvr⟩ := sees_volsB hs4 (by rw [hB] at hBb; exact hBb)
    have hvb : (vsbytes vs).length ≤ 8 * B := by rw [hB]; exact hvb0
    have g1 := bounds_u64 hb1
    have g2 := bounds_u32 hb2
    have g3 := bounds_u64 hb3
    dsimp only at g1 g2 g3
    rw [← hvl] at hvr hcell
    have hvn : vs.length * 26 ≤ (vsbytes vs).length := by rw [vsbytes_len]; exact sum_ge _ _ _ fun v _ => by omega
    refine ⟨⟨ck, er, id, A0, c0, vs⟩, ⟨⟨by dsimp only; omega, by dsimp only; omega⟩, ⟨by dsimp only; omega, by dsimp only; omega⟩, ⟨by dsimp only; omega, by dsimp only; omega⟩, hvo, hvr, by dsimp only; omega⟩, fun y' hy' => ?_, ad, hA, fun j v hv => hcell j v hv⟩
    rw [hy] at hy'
    injection hy' with hy'
    subst hy'
    rw [e]
    show (ansBytes ck er id vs).length ≤ _
    rw [ans_len]
    omega
  obtain ⟨rs, hlen, hR⟩ := list_of (List.length x) hel
  have hsum : (rs.map fun r => r.bytes.length).sum ≤ (x.map fun y => 8 * bulk (.agg (.pair (.int .u64) (.pair (.int .u32) (.pair (.int .u64) (.pair (.slice (.agg (.pair (.int .u64) (.pair .str (.pair (.int .u64) (.pair (.int .u64) (.pair .bool (.pair (.int .u64) .unit))))))) 56) .unit))))) y).sum := sum_le _ _ rs x hlen fun i r y hr hy => (hR i r hr).2.1 y hy
  have hmul : (x.map fun y => 8 * bulk (.agg (.pair (.int .u64) (.pair (.int .u32) (.pair (.int .u64) (.pair (.slice (.agg (.pair (.int .u64) (.pair .str (.pair (.int .u64) (.pair (.int .u64) (.pair .bool (.pair (.int .u64) .unit))))))) 56) .unit))))) y).sum = 8 * (List.map (bulk (.agg (.pair (.int .u64) (.pair (.int .u32) (.pair (.int .u64) (.pair (.slice (.agg (.pair (.int .u64) (.pair .str (.pair (.int .u64) (.pair (.int .u64) (.pair .bool (.pair (.int .u64) .unit))))))) 56) .unit)))))) x).sum := sum_eight _ _
  have hn : rs.length * 25 ≤ (rs.map fun r => r.bytes.length).sum := sum_ge _ _ _ fun r _ => r.bytes_ge
  refine ⟨h1, rs, hlen, fun r hr => ?_, by omega, by omega, ?_, fun hpos => ?_⟩
  · obtain ⟨i, hi⟩ := List.getElem?_of_mem hr
    exact (hR i r hi).1
  · rw [flat_len An.cells 4 An.cells_len, hlen]
  · have h0 : rs[0]? = some rs[0] := List.getElem?_eq_getElem (by omega)
    obtain ⟨_, _, ad, hA, hc0⟩ := hR 0 _ h0
    refine ⟨ad, hA, ?_, fun j u hu => ?_⟩
    · have := cellH_lt (hc0 0 _ rfl)
      rwa [add_block] at this
    · have hj : j = j / 4 * 4 + j % 4 := by omega
      rw [hj, flat_get An.cells 4 An.cells_len _ _ _ (by omega)] at hu
      cases hi : rs[j / 4]? with
      | none => rw [hi] at hu; cases hu
      | some r =>
        rw [hi] at hu
        obtain ⟨_, _, ad', hA', hc⟩ := hR _ r hi
        rw [hA] at hA'
        injection hA' with hA'
        subst hA'
        rw [hj]
        exact hc _ u hu


theorem sum_take_le {α : Type} (f : α → Nat) : ∀ (l : List α) (k : Nat), ((l.take k).map f).sum ≤ (l.map f).sum := by
  intro l
  induction l with
  | nil => intro k; simp
  | cons x l ih =>
    intro k
    cases k with
    | zero => simp
    | succ k => simp only [List.take_succ_cons, List.map_cons, List.sum_cons]; have := ih k; omega
theorem vsbytes_byt (l : List Vol) : Byt (vsbytes l) := by
  intro x hx
  obtain ⟨v, _, hx⟩ := List.mem_flatMap.1 hx
  have h : Byt (vbytes v) := by
    intro y hy
    rcases List.mem_append.1 hy with hy | hy
    · obtain ⟨p, _, hy⟩ := List.mem_flatMap.1 hy
      exact be_byt _ _ y hy
    · exact strInts_byt _ y hy
  exact h x hx
theorem nput_byt (l : List (Int × Nat)) : Byt (nput l) := by
  intro x hx
  obtain ⟨p, _, hx⟩ := List.mem_flatMap.1 hx
  exact be_byt _ _ x hx
theorem Ad.bytes_byt (r : Ad) : Byt r.bytes := ((nput_byt _).append (strInts_byt _)).append (strInts_byt _)
theorem An.bytes_byt (r : An) : Byt r.bytes := (nput_byt _).append (vsbytes_byt _)
section
variable {w0 : World} {O : Nat → Prop}
theorem takeansA_calls {l : List Int} (hb : Byt l) (hl : l.length ≤ 140737488355328) :
    (∀ E, takeAns l = .error E → ∀ {w : World} {L : List Asr} {g : Nat}, Sep w0 w O (Go.Proofs.Ytankfmfenbhkgaa.tape g l :: L) → Calls Try.prog 18 #[.pointer (some ⟨g, 0, none⟩)] w fun e w' => e = .returned (.tuple #[.agg zAns, .bool false, .int .i64 E]) ∧ Sep w0 w' O (Go.Proofs.Ytankfmfenbhkgaa.tape g l :: L)) ∧
    (∀ ck er id vs a, takeAns l = .ok ((ck, er, id), vs, a) → ∀ {w : World} {L : List Asr} {g : Nat}, Sep w0 w O (Go.Proofs.Ytankfmfenbhkgaa.tape g l :: L) → Calls Try.prog 18 #[.pointer (some ⟨g, 0, none⟩)] w fun e w' => ∃ A' c', e = .returned (.tuple #[.agg #[.int .u64 ck, .int .u32 er, .int .u64 id, .slice A' vs.length c'], .bool true, .int .i64 0]) ∧ Sep w0 w' O (own 48 6 A' vs.length c' (vrow vs) :: Go.Proofs.Ytankfmfenbhkgaa.tape g (l.drop a) :: L)) := by
  unfold takeAns
  by_cases h4 : 4 ≤ l.length ∧ num (l.take 4) ≠ 1128878913
  · rw [if_pos h4]
    refine ⟨fun E hE w L g HS => ?_, fun ck er id vs a h => by cases h⟩
    injection hE with hE
    subst hE
    exact takeansA_zero (.inr (.inl ⟨h4.1, h4.2, rfl⟩)) HS hb hl
  have hm' : 4 ≤ l.length → num (l.take 4) = 1128878913 := fun h => Classical.byContradiction fun h' => h4 ⟨h, h'⟩
  rw [if_neg h4]
  by_cases h25 : l.length < 25
  · rw [if_pos h25]
    refine ⟨fun E hE w L g HS => ?_, fun ck er id vs a h => by cases h⟩
    injection hE with hE
    subst hE
    refine takeansA_zero ?_ HS hb hl
    by_cases h : l.length < 4
    · exact .inl ⟨h, rfl⟩
    · exact .inr (.inr ⟨by omega, hm' (by omega), h25, rfl⟩)
  have hm := hm' (by omega)
  have bN := fN_bd hb 24 1
  obtain ⟨N, hN⟩ : ∃ N : Nat, fN l 24 1 = N := ⟨_, (Int.toNat_of_nonneg bN.1).symm⟩
  rw [if_neg h25, hN, Int.toNat_natCast]
  by_cases h16 : (16 : Int) < N
  · rw [if_pos h16]
    refine ⟨fun E hE w L g HS => ?_, fun ck er id vs a h => by cases h⟩
    injection hE with hE
    subst hE
    exact takeansA_long (by omega) hm hN (by omega) HS hb hl
  rw [if_neg h16]
  cases hv : volsFrom l 25 N with
  | error E0 =>
    refine ⟨fun E hE w L g HS => ?_, fun ck er id vs a h => by cases h⟩
    injection hE with hE
    subst hE
    exact takeansA_bad (by omega) hm hN (by omega) hv HS hb hl
  | ok x =>
    obtain ⟨us, a0⟩ := x
    refine ⟨fun E hE => (by cases hE), fun ck er id vs a h w L g HS => ?_⟩
    injection h with h
    simp only [Prod.mk.injEq] at h
    obtain ⟨⟨rfl, rfl, rfl⟩, rfl, rfl⟩ := h
    refine (takeansA_ok (by omega) hm hN (by omega) hv HS hb hl).mono ?_
    rintro e w' ⟨A', c', rfl, hvl, _, H⟩
    subst hvl
    exact ⟨A', c', rfl, H⟩
def Ad.out (r : Ad) : List Int := if r.err = 0 then r.bytes else []
def An.out (r : An) : List Int := if r.err = 0 then r.bytes else []
theorem Ad.put_calls {r : Ad} {h : Array Obj} {w : World} {L : List Asr} (HS : Sep w0 w O L) (hg : r.Good h) :
    Calls Try.prog 9 #[.agg #[.int .i64 r.kd, .int .u64 r.ck, .string r.nm, .string r.au, .int .u64 r.size, .bool r.fixed]] w fun e w' => ∃ A' c', e = .returned (.tuple #[.slice A' r.out.length c', .int .i64 r.err]) ∧ Sep w0 w' O (own 5 1 A' r.out.length c' (by8 r.out) :: L) := by
  obtain ⟨⟨c0, c1⟩, ⟨z0, z1⟩, h1, h2⟩ := hg
  exact adminput_calls HS (by omega) (by omega) c0 c1 z0 z1
theorem An.put_calls {r : An} {w : World} {L : List Asr} (HS : Sep w0 w O L) (hr : Rb w0 O L 6 r.A r.vs.length (vrow r.vs)) (h : ∃ h : Array Obj, r.Good h) :
    Calls Try.prog 16 #[.agg #[.int .u64 r.ck, .int .u32 r.er, .int .u64 r.id, .slice r.A r.vs.length r.c]] w fun e w' => ∃ A' c', e = .returned (.tuple #[.slice A' r.out.length c', .int .i64 r.err]) ∧ Sep w0 w' O (own 5 1 A' r.out.length c' (by8 r.out) :: L) := by
  obtain ⟨_, ⟨c0, c1⟩, ⟨e0, e1⟩, ⟨d0, d1⟩, hv, _, _⟩ := h
  have hbad : r.err = 3 → r.out = [] := by intro h; unfold An.out; rw [if_neg (by rw [h]; decide)]
  by_cases h16 : r.vs.length ≤ 16
  · by_cases hs : ∀ v ∈ r.vs, v.nm.size ≤ 16
    · have he : r.err = 0 := by unfold An.err ansErr; rw [if_pos ⟨h16, hs⟩]
      have ho : r.out = r.bytes := by unfold An.out; rw [if_pos he]
      rw [he, ho]
      exact (putansA_calls HS hr rfl hv h16 c0 c1 e0 e1 d0 d1).mono fun e w' H => H.1 hs
    · have he : r.err = 3 := by unfold An.err ansErr; rw [if_neg (fun h => hs h.2)]
      rw [hbad he, he]
      refine (putansA_calls HS hr rfl hv h16 c0 c1 e0 e1 d0 d1).mono ?_
      rintro e w' H
      obtain ⟨rfl, HX⟩ := H.2 hs
      exact ⟨none, 0, rfl, HX.nil _ _⟩
  · have he : r.err = 3 := by unfold An.err ansErr; rw [if_neg (fun h => h16 h.1)]
    rw [hbad he, he]
    refine (putansA_long HS (by omega)).mono ?_
    rintro e w' ⟨rfl, H⟩
    exact ⟨none, 0, rfl, H.nil _ _⟩
end

def Ads (rs : List Ad) : List Int := rs.flatMap Ad.bytes
def Adn (rs : List Ad) (q : Nat) : Nat := (Ads (rs.take q)).length
theorem Adn_zero (rs : List Ad) : Adn rs 0 = 0 := by simp [Adn, Ads]
theorem Adn_all (rs : List Ad) : Adn rs rs.length = (Ads rs).length := by simp [Adn]
theorem Adn_le (rs : List Ad) (q : Nat) : Adn rs q ≤ (Ads rs).length := by
  have : Ads rs = Ads (rs.take q) ++ Ads (rs.drop q) := by unfold Ads; rw [← List.flatMap_append, List.take_append_drop]
  rw [this, List.length_append]; exact Nat.le_add_right _ _
theorem Adn_succ {rs : List Ad} {q : Nat} {r : Ad} (h : rs[q]? = some r) : Adn rs (q + 1) = Adn rs q + r.bytes.length := by
  unfold Adn Ads
  rw [List.take_add_one, h]
  simp only [Option.toList, List.flatMap_append, List.length_append, List.flatMap_cons, List.flatMap_nil, List.append_nil]
theorem Ads_drop {rs : List Ad} {q : Nat} {r : Ad} (h : rs[q]? = some r) (bh : List Int) : (Ads rs ++ bh).drop (Adn rs q) = r.bytes ++ (Ads (rs.drop (q + 1)) ++ bh) := by
  have e1 : Ads rs = Ads (rs.take q) ++ (r.bytes ++ Ads (rs.drop (q + 1))) := by
    unfold Ads
    rw [← List.flatMap_cons, ← List.flatMap_append]
    congr 1
    obtain ⟨hq, e⟩ := List.getElem?_eq_some_iff.1 h
    have := List.drop_eq_getElem_cons hq
    rw [e] at this
    rw [← this, List.take_append_drop]
  rw [e1, List.append_assoc, List.append_assoc]
  exact List.drop_left' rfl
theorem Ad_step {H : Array Obj} {rs : List Ad} {bh : List Int} {a q : Nat} {r : Ad} (h : rs[q]? = some r) (hg : r.Good H ∧ r.err = 0) (hc : Adn rs q ≤ a) (ha : a ≤ (Ads rs ++ bh).length) :
    (Adn rs (q + 1) ≤ a ∧ takeAdm (((Ads rs ++ bh).take a).drop (Adn rs q)) = ⟨true, 0, r.kd, r.ck, r.nm, r.au, r.size, r.fixed, r.bytes.length⟩ ∧ (((Ads rs ++ bh).take a).drop (Adn rs q)).drop r.bytes.length = ((Ads rs ++ bh).take a).drop (Adn rs (q + 1))) ∨ (a < Adn rs (q + 1) ∧ takeAdm (((Ads rs ++ bh).take a).drop (Adn rs q)) = noATk 0) := by
  have e1 : ((Ads rs ++ bh).take a).drop (Adn rs q) = (r.bytes ++ (Ads (rs.drop (q + 1)) ++ bh)).take (a - Adn rs q) := by rw [List.drop_take, Ads_drop h]
  have hs := Adn_succ h
  obtain ⟨⟨c0, c1⟩, ⟨z0, z1⟩, -, -⟩ := hg.1
  have hbl : r.bytes.length = 24 + (r.nm.size + r.au.size) := adm_len ..
  have ht := takeAdm_take (fixed := r.fixed) hg.2 c0 c1 z0 z1 (Ads (rs.drop (q + 1)) ++ bh) (a - Adn rs q)
  rw [← hbl] at ht
  by_cases hw : Adn rs (q + 1) ≤ a
  · left
    refine ⟨hw, ?_, by rw [List.drop_drop, hs]⟩
    rw [e1]
    refine ht.trans ?_
    exact if_pos (show r.bytes.length ≤ a - Adn rs q by omega)
  · right
    refine ⟨by omega, ?_⟩
    rw [e1]
    refine ht.trans ?_
    exact if_neg (show ¬ r.bytes.length ≤ a - Adn rs q by omega)
def Ad.ok (r : Ad) : Bool := decide (r.err = 0)
def Adf (rs : List Ad) (k : Nat) : List Ad := (rs.take k).filter Ad.ok
theorem Adf_zero (rs : List Ad) : Adf rs 0 = [] := rfl
theorem Adf_succ {rs : List Ad} {k : Nat} {r : Ad} (h : rs[k]? = some r) : Adf rs (k + 1) = Adf rs k ++ if r.err = 0 then [r] else [] := by
  unfold Adf
  rw [List.take_add_one, h, List.filter_append]
  congr 1
  by_cases e : r.err = 0
  · simp [Ad.ok, e]
  · simp [Ad.ok, e]
theorem Adf_mem {rs : List Ad} {k : Nat} {r : Ad} (h : r ∈ Adf rs k) : r ∈ rs ∧ r.err = 0 := by
  unfold Adf at h
  rw [List.mem_filter] at h
  exact ⟨List.mem_of_mem_take h.1, by simpa [Ad.ok] using h.2⟩
theorem Adf_len (rs : List Ad) (k : Nat) : (Adf rs k).length ≤ rs.length := by
  unfold Adf
  exact Nat.le_trans (List.length_filter_le ..) (by rw [List.length_take]; omega)
theorem Ads_filter : ∀ l : List Ad, (Ads (l.filter Ad.ok)).length ≤ (l.map fun r => r.bytes.length).sum := by
  intro l
  induction l with
  | nil => simp [Ads]
  | cons x l ih =>
    rw [List.filter_cons]
    split
    · unfold Ads at ih ⊢
      rw [List.flatMap_cons, List.length_append, List.map_cons, List.sum_cons]
      omega
    · rw [List.map_cons, List.sum_cons]
      omega
theorem Ads_len (rs : List Ad) (k : Nat) : (Ads (Adf rs k)).length ≤ (rs.map fun r => r.bytes.length).sum :=
  Nat.le_trans (Ads_filter _) (sum_take_le _ rs k)
theorem Ads_app (a b : List Ad) : Ads (a ++ b) = Ads a ++ Ads b := List.flatMap_append
theorem Ads_one (r : Ad) : Ads [r] = r.bytes := by simp [Ads]
theorem Ads_byt {l : List Ad} (h : ∀ r ∈ l, Byt r.bytes) : Byt (Ads l) := by
  intro x hx
  obtain ⟨r, hr, hx⟩ := List.mem_flatMap.1 hx
  exact h r hr x hx

def Ans (rs : List An) : List Int := rs.flatMap An.bytes
def Ann (rs : List An) (q : Nat) : Nat := (Ans (rs.take q)).length
theorem Ann_zero (rs : List An) : Ann rs 0 = 0 := by simp [Ann, Ans]
theorem Ann_all (rs : List An) : Ann rs rs.length = (Ans rs).length := by simp [Ann]
theorem Ann_le (rs : List An) (q : Nat) : Ann rs q ≤ (Ans rs).length := by
  have : Ans rs = Ans (rs.take q) ++ Ans (rs.drop q) := by unfold Ans; rw [← List.flatMap_append, List.take_append_drop]
  rw [this, List.length_append]; exact Nat.le_add_right _ _
theorem Ann_succ {rs : List An} {q : Nat} {r : An} (h : rs[q]? = some r) : Ann rs (q + 1) = Ann rs q + r.bytes.length := by
  unfold Ann Ans
  rw [List.take_add_one, h]
  simp only [Option.toList, List.flatMap_append, List.length_append, List.flatMap_cons, List.flatMap_nil, List.append_nil]
theorem Ans_drop {rs : List An} {q : Nat} {r : An} (h : rs[q]? = some r) (bh : List Int) : (Ans rs ++ bh).drop (Ann rs q) = r.bytes ++ (Ans (rs.drop (q + 1)) ++ bh) := by
  have e1 : Ans rs = Ans (rs.take q) ++ (r.bytes ++ Ans (rs.drop (q + 1))) := by
    unfold Ans
    rw [← List.flatMap_cons, ← List.flatMap_append]
    congr 1
    obtain ⟨hq, e⟩ := List.getElem?_eq_some_iff.1 h
    have := List.drop_eq_getElem_cons hq
    rw [e] at this
    rw [← this, List.take_append_drop]
  rw [e1, List.append_assoc, List.append_assoc]
  exact List.drop_left' rfl
theorem An_step {H : Array Obj} {rs : List An} {bh : List Int} {a q : Nat} {r : An} (h : rs[q]? = some r) (hg : r.Good H ∧ r.err = 0) (hc : Ann rs q ≤ a) (ha : a ≤ (Ans rs ++ bh).length) :
    (Ann rs (q + 1) ≤ a ∧ takeAns (((Ans rs ++ bh).take a).drop (Ann rs q)) = .ok ((r.ck, r.er, r.id), r.vs.map Vol.z, r.bytes.length) ∧ (((Ans rs ++ bh).take a).drop (Ann rs q)).drop r.bytes.length = ((Ans rs ++ bh).take a).drop (Ann rs (q + 1))) ∨ (a < Ann rs (q + 1) ∧ takeAns (((Ans rs ++ bh).take a).drop (Ann rs q)) = .error 0) := by
  have e1 : ((Ans rs ++ bh).take a).drop (Ann rs q) = (r.bytes ++ (Ans (rs.drop (q + 1)) ++ bh)).take (a - Ann rs q) := by rw [List.drop_take, Ans_drop h]
  have hs := Ann_succ h
  obtain ⟨g1, g2, g3, g4, -, -⟩ := hg.1
  have hae : ansErr r.vs = 0 := hg.2
  unfold ansErr at hae
  have hf : AnsFit r.ck r.er r.id r.vs := by
    split at hae
    · rename_i hx
      exact ⟨g1, g2, g3, hx.1, fun v hv => ⟨g4 v hv, hx.2 v hv⟩⟩
    · cases hae
  have ht := takeAns_take hf (Ans (rs.drop (q + 1)) ++ bh) (a - Ann rs q)
  by_cases hw : Ann rs (q + 1) ≤ a
  · left
    refine ⟨hw, ?_, by rw [List.drop_drop, hs]⟩
    rw [e1]
    refine ht.trans ?_
    exact if_pos (show r.bytes.length ≤ a - Ann rs q by omega)
  · right
    refine ⟨by omega, ?_⟩
    rw [e1]
    refine ht.trans ?_
    exact if_neg (show ¬ r.bytes.length ≤ a - Ann rs q by omega)
def An.ok (r : An) : Bool := decide (r.err = 0)
def Anf (rs : List An) (k : Nat) : List An := (rs.take k).filter An.ok
theorem Anf_zero (rs : List An) : Anf rs 0 = [] := rfl
theorem Anf_succ {rs : List An} {k : Nat} {r : An} (h : rs[k]? = some r) : Anf rs (k + 1) = Anf rs k ++ if r.err = 0 then [r] else [] := by
  unfold Anf
  rw [List.take_add_one, h, List.filter_append]
  congr 1
  by_cases e : r.err = 0
  · simp [An.ok, e]
  · simp [An.ok, e]
theorem Anf_mem {rs : List An} {k : Nat} {r : An} (h : r ∈ Anf rs k) : r ∈ rs ∧ r.err = 0 := by
  unfold Anf at h
  rw [List.mem_filter] at h
  exact ⟨List.mem_of_mem_take h.1, by simpa [An.ok] using h.2⟩
theorem Anf_len (rs : List An) (k : Nat) : (Anf rs k).length ≤ rs.length := by
  unfold Anf
  exact Nat.le_trans (List.length_filter_le ..) (by rw [List.length_take]; omega)
theorem Ans_filter : ∀ l : List An, (Ans (l.filter An.ok)).length ≤ (l.map fun r => r.bytes.length).sum := by
  intro l
  induction l with
  | nil => simp [Ans]
  | cons x l ih =>
    rw [List.filter_cons]
    split
    · unfold Ans at ih ⊢
      rw [List.flatMap_cons, List.length_append, List.map_cons, List.sum_cons]
      omega
    · rw [List.map_cons, List.sum_cons]
      omega
theorem Ans_len (rs : List An) (k : Nat) : (Ans (Anf rs k)).length ≤ (rs.map fun r => r.bytes.length).sum :=
  Nat.le_trans (Ans_filter _) (sum_take_le _ rs k)
theorem Ans_app (a b : List An) : Ans (a ++ b) = Ans a ++ Ans b := List.flatMap_append
theorem Ans_one (r : An) : Ans [r] = r.bytes := by simp [Ans]
theorem Ans_byt {l : List An} (h : ∀ r ∈ l, Byt r.bytes) : Byt (Ans l) := by
  intro x hx
  obtain ⟨r, hr, hx⟩ := List.mem_flatMap.1 hx
  exact h r hr x hx
end Go.Proofs.Ytankfmfenbhkgaa
