/-
  Plain laws: what is put is taken, whole or in part.
-/
import Derived.Test.YtgepekailoopeaaHel6
import Derived.Test.YtgepekailoopeaaHelLaw
namespace Go.Proofs.Ytgepekailoopeaa
set_option linter.unusedVariables false
set_option linter.unusedSimpArgs false

theorem fN_seg {l a b c : List Int} {o k : Nat} (h : l = a ++ (b ++ c)) (ha : a.length = o) (hb : b.length = k) : fN l o k = num b := by
  unfold fN
  rw [h, List.drop_left' ha, List.take_left' hb]
theorem fN_take {l : List Int} {o s k : Nat} (h : o + s ≤ k) : fN (l.take k) o s = fN l o s := by
  unfold fN
  rw [List.drop_take, List.take_take, Nat.min_eq_left (by omega)]
/-- a part of what a thing's bytes are, or all of them and more -/
theorem seg_step {b x rest : List Int} {a p : Nat} (hd : b.drop p = x ++ rest) (hp : p ≤ a) :
    (p + x.length ≤ a ∧ (b.take a).drop p = x ++ (b.take a).drop (p + x.length)) ∨ (a < p + x.length ∧ (b.take a).drop p = x.take (a - p)) := by
  have e : (b.take a).drop p = (x ++ rest).take (a - p) := by rw [List.drop_take, hd]
  by_cases h : p + x.length ≤ a
  · refine .inl ⟨h, ?_⟩
    have e2 : (b.take a).drop (p + x.length) = rest.take (a - p - x.length) := by
      rw [List.drop_take, ← List.drop_drop, hd, List.drop_left' rfl, Nat.sub_sub]
    rw [e2, e, List.take_append, List.take_of_length_le (by omega)]
  · refine .inr ⟨by omega, ?_⟩
    rw [e, List.take_append, show a - p - x.length = 0 by omega, List.take_zero, List.append_nil]

section
variable {magic : Int} {nums d : List Int}
theorem rawL_magic (t : List Int) (m0 : 0 ≤ magic) (m1 : magic < 256 ^ 8) : fN (rawL magic nums d ++ t) 0 8 = magic := by
  rw [fN_seg (o := 0) (k := 8) (a := []) (b := be 8 magic) (c := b4s (nums ++ [(d.length : Int)]) ++ d ++ t) (by simp [rawL]) rfl (be_len _ _), mod_be m0 m1]
theorem rawL_size (t : List Int) (hd : d.length ≤ 256) : fN (rawL magic nums d ++ t) (8 + 4 * nums.length) 4 = d.length := by
  rw [fN_seg (a := be 8 magic ++ b4s nums) (b := be 4 d.length) (c := d ++ t) (by simp [rawL, b4s]) (by simp [be_len, b4s_len]) (be_len _ _), mod_be (by omega) (by omega)]
theorem rawL_other (t : List Int) (m0 : 0 ≤ magic) (m1 : magic < 256 ^ 8) (k : Nat) : otherAt ((rawL magic nums d ++ t).take k) 0 magic = false := by
  unfold otherAt
  refine decide_eq_false fun ⟨h1, h2⟩ => h2 ?_
  have := List.length_take_le k (rawL magic nums d ++ t)
  rw [fN_take (by omega), rawL_magic t m0 m1]
theorem raw_full (t : List Int) (hd : d.length ≤ 256) (m0 : 0 ≤ magic) (m1 : magic < 256 ^ 8) {h : Nat} (hh : h = 12 + 4 * nums.length) :
    hlN (rawL magic nums d ++ t) magic h = h + d.length ∧ hlE (rawL magic nums d ++ t) magic h = 0 ∧ hlD (rawL magic nums d ++ t) magic h = d ∧ (rawL magic nums d ++ t).drop (h + d.length) = t := by
  have ho := rawL_other (nums := nums) (d := d) t m0 m1 (rawL magic nums d ++ t).length
  rw [List.take_length] at ho
  have hs := rawL_size (magic := magic) (nums := nums) t hd
  rw [show 8 + 4 * nums.length = h - 4 by omega] at hs
  have hl : (rawL magic nums d ++ t).length = h + d.length + t.length := by rw [List.length_append, rawL_len]; omega
  have hN : hlN (rawL magic nums d ++ t) magic h = h + d.length := by
    unfold hlN
    rw [ho, if_neg (by decide), if_neg (by omega), hs, if_neg (by omega), Int.toNat_natCast, if_neg (by omega)]
  have hr : (rawL magic nums d ++ t).drop (h + d.length) = t := List.drop_left' (by rw [rawL_len]; omega)
  refine ⟨hN, ?_, ?_, hr⟩
  · unfold hlE
    rw [ho, if_neg (by decide), if_neg (by omega), hs, if_neg (by omega)]
  · unfold hlD
    rw [hN, if_neg (by omega), Nat.add_sub_cancel_left]
    have : rawL magic nums d ++ t = (be 8 magic ++ b4s (nums ++ [(d.length : Int)])) ++ (d ++ t) := by simp [rawL]
    rw [this, List.drop_left' (by simp [be_len, b4s_len]; omega), List.take_left' rfl]
theorem raw_part (hd : d.length ≤ 256) (m0 : 0 ≤ magic) (m1 : magic < 256 ^ 8) {h k : Nat} (hh : h = 12 + 4 * nums.length) (hk : k < h + d.length) :
    hlN ((rawL magic nums d).take k) magic h = 0 ∧ hlE ((rawL magic nums d).take k) magic h = 0 := by
  have ho := rawL_other (nums := nums) (d := d) [] m0 m1 k
  have hs := rawL_size (magic := magic) (nums := nums) [] hd
  rw [List.append_nil] at ho hs
  rw [show 8 + 4 * nums.length = h - 4 by omega] at hs
  have hl : ((rawL magic nums d).take k).length = k := by rw [List.length_take, rawL_len]; omega
  by_cases h1 : k < h
  · constructor
    · unfold hlN
      rw [ho, if_neg (by decide), if_pos (by omega)]
    · unfold hlE
      rw [ho, if_neg (by decide), if_pos (by omega)]
  · have e1 : fN ((rawL magic nums d).take k) (h - 4) 4 = d.length := by rw [fN_take (by omega), hs]
    constructor
    · unfold hlN
      rw [ho, if_neg (by decide), if_neg (by omega), e1, if_neg (by omega), Int.toNat_natCast, if_pos (by omega)]
    · unfold hlE
      rw [ho, if_neg (by decide), if_neg (by omega), e1, if_neg (by omega)]
end
theorem opt_full {op : Int} {d : List Int} (t : List Int) (hd : d.length ≤ 256) (o0 : 0 ≤ op) (o1 : op < 4294967296) :
    hlN (rawL mOp [op] d ++ t) mOp 16 = 16 + d.length ∧ hlE (rawL mOp [op] d ++ t) mOp 16 = 0 ∧ hlD (rawL mOp [op] d ++ t) mOp 16 = d ∧ hlX (rawL mOp [op] d ++ t) mOp 16 8 = op ∧ (rawL mOp [op] d ++ t).drop (16 + d.length) = t := by
  obtain ⟨h1, h2, h3, h4⟩ := raw_full (magic := mOp) (nums := [op]) (d := d) t hd (by decide) (by decide) (h := 16) rfl
  refine ⟨h1, h2, h3, ?_, h4⟩
  unfold hlX
  rw [h1, if_neg (by omega), fN_seg (a := be 8 mOp) (b := be 4 op) (c := be 4 d.length ++ d ++ t) (by simp [rawL, b4s]) (be_len _ _) (be_len _ _), mod_be o0 (by omega)]
theorem rep_full {op kd : Int} {d : List Int} (t : List Int) (hd : d.length ≤ 256) (o0 : 0 ≤ op) (o1 : op < 4294967296) (k0 : 0 ≤ kd) (k1 : kd < 4294967296) :
    hlN (rawL mRe [op, kd] d ++ t) mRe 20 = 20 + d.length ∧ hlE (rawL mRe [op, kd] d ++ t) mRe 20 = 0 ∧ hlD (rawL mRe [op, kd] d ++ t) mRe 20 = d ∧ hlX (rawL mRe [op, kd] d ++ t) mRe 20 8 = op ∧ hlX (rawL mRe [op, kd] d ++ t) mRe 20 12 = kd ∧ (rawL mRe [op, kd] d ++ t).drop (20 + d.length) = t := by
  obtain ⟨h1, h2, h3, h4⟩ := raw_full (magic := mRe) (nums := [op, kd]) (d := d) t hd (by decide) (by decide) (h := 20) rfl
  refine ⟨h1, h2, h3, ?_, ?_, h4⟩
  · unfold hlX
    rw [h1, if_neg (by omega), fN_seg (a := be 8 mRe) (b := be 4 op) (c := be 4 kd ++ be 4 d.length ++ d ++ t) (by simp [rawL, b4s]) (be_len _ _) (be_len _ _), mod_be o0 (by omega)]
  · unfold hlX
    rw [h1, if_neg (by omega), fN_seg (a := be 8 mRe ++ be 4 op) (b := be 4 kd) (c := be 4 d.length ++ d ++ t) (by simp [rawL, b4s]) (by simp [be_len]) (be_len _ _), mod_be k0 (by omega)]
/-- a greeting: any part of it, and what is behind -/
theorem greet_part {fl : Int} (f0 : 0 ≤ fl) (f1 : fl < 65536) (t : List Int) (k : Nat) :
    grE ((greetL fl ++ t).take k) = 0 ∧ grN ((greetL fl ++ t).take k) = (if ((greetL fl ++ t).take k).length < 18 then 0 else 18) ∧ (18 ≤ k → grF ((greetL fl ++ t).take k) = fl) := by
  have e1 : fN (greetL fl ++ t) 0 8 = mGr := by
    rw [fN_seg (o := 0) (k := 8) (a := []) (b := be 8 mGr) (c := be 8 mOp ++ be 2 fl ++ t) (by simp [greetL]) rfl (be_len _ _), mod_be (by decide) (by decide)]
  have e2 : fN (greetL fl ++ t) 8 8 = mOp := by
    rw [fN_seg (a := be 8 mGr) (b := be 8 mOp) (c := be 2 fl ++ t) (by simp [greetL]) (be_len _ _) (be_len _ _), mod_be (by decide) (by decide)]
  have e3 : fN (greetL fl ++ t) 16 2 = fl := by
    rw [fN_seg (a := be 8 mGr ++ be 8 mOp) (b := be 2 fl) (c := t) (by simp [greetL]) (by simp [be_len]) (be_len _ _), mod_be f0 (by omega)]
  have hk := List.length_take_le k (greetL fl ++ t)
  have o1 : otherAt ((greetL fl ++ t).take k) 0 mGr = false := by
    unfold otherAt
    exact decide_eq_false fun ⟨h1, h2⟩ => h2 (by rw [fN_take (by omega), e1])
  have o2 : otherAt ((greetL fl ++ t).take k) 8 mOp = false := by
    unfold otherAt
    exact decide_eq_false fun ⟨h1, h2⟩ => h2 (by rw [fN_take (by omega), e2])
  unfold grE grN grF
  rw [o1, o2]
  simp only [Bool.or_self, Bool.false_eq_true, if_false]
  refine ⟨trivial, trivial, fun h => ?_⟩
  have hl : (greetL fl ++ t).length = 18 + t.length := by simp [greetL, be_len]; omega
  rw [if_neg (by rw [List.length_take]; omega), fN_take (by omega), e3]
theorem greetL_len (fl : Int) : (greetL fl).length = 18 := by simp [greetL, be_len]
theorem expL_len (sz fl : Int) (nn : Bool) : (expL sz fl nn).length = expH nn := by cases nn <;> simp [expL, expH, be_len]
theorem exp_part {sz fl : Int} {nn : Bool} (z0 : 0 ≤ sz) (z1 : sz < 18446744073709551616) (f0 : 0 ≤ fl) (f1 : fl < 65536) (t : List Int) {k : Nat} (hk : expH nn ≤ k) :
    expN ((expL sz fl nn ++ t).take k) nn = expH nn ∧ expS ((expL sz fl nn ++ t).take k) nn = sz ∧ expF ((expL sz fl nn ++ t).take k) nn = fl := by
  have e1 : fN (expL sz fl nn ++ t) 0 8 = sz := by
    rw [fN_seg (o := 0) (k := 8) (a := []) (b := be 8 sz) (c := be 2 fl ++ List.replicate (if nn then 124 else 0) 0 ++ t) (by simp [expL]) rfl (be_len _ _), mod_be z0 (by omega)]
  have e2 : fN (expL sz fl nn ++ t) 8 2 = fl := by
    rw [fN_seg (a := be 8 sz) (b := be 2 fl) (c := List.replicate (if nn then 124 else 0) 0 ++ t) (by simp [expL]) (be_len _ _) (be_len _ _), mod_be f0 (by omega)]
  have h10 : 10 ≤ expH nn := by cases nn <;> decide
  have hl : ¬ ((expL sz fl nn ++ t).take k).length < expH nn := by rw [List.length_take, List.length_append, expL_len]; omega
  unfold expN expS expF
  rw [if_neg hl, if_neg hl, if_neg hl, fN_take (by omega), fN_take (by omega), e1, e2]
  exact ⟨rfl, rfl, rfl⟩
end Go.Proofs.Ytgepekailoopeaa
