/-
  Plain laws: what is put is taken, whole or not.
-/
import Derived.Test.YtbfcnbggkcaolaaReqLaw
namespace Go.Proofs.Ytbfcnbggkcaolaa
set_option linter.unusedVariables false
set_option linter.unusedSimpArgs false

theorem rqN_seg {l a b c : List Int} {o k : Nat} (h : l = a ++ (b ++ c)) (ha : a.length = o) (hb : b.length = k) : rqN l o k = num b := by
  unfold rqN
  rw [h, List.drop_left' ha, List.take_left' hb]
theorem rqN_take {l : List Int} {o s k : Nat} (h : o + s ≤ k) : rqN (l.take k) o s = rqN l o s := by
  unfold rqN
  rw [List.drop_take, List.take_take, Nat.min_eq_left (by omega)]
theorem mod_be {x : Int} {s : Nat} (h0 : 0 ≤ x) (h1 : x < 256 ^ s) : num (be s x) = x := by rw [num_be, Int.emod_eq_of_lt h0 h1]

section
variable {fl kd ck off len : Int} {d : List Int}
theorem req_fields (h : reqErr fl kd len d = 0) (l0 : 0 ≤ len) (l1 : len < 4294967296) (ck0 : 0 ≤ ck) (ck1 : ck < 18446744073709551616) (o0 : 0 ≤ off) (o1 : off < 18446744073709551616) (t : List Int) :
    (reqBytes fl kd ck off len d ++ t).take 4 = be 4 627086611 ∧ rqN (reqBytes fl kd ck off len d ++ t) 4 2 = fl ∧ rqN (reqBytes fl kd ck off len d ++ t) 6 2 = kd ∧ rqN (reqBytes fl kd ck off len d ++ t) 8 8 = ck ∧ rqN (reqBytes fl kd ck off len d ++ t) 16 8 = off ∧ rqN (reqBytes fl kd ck off len d ++ t) 24 4 = len := by
  obtain ⟨h1, h2, h3, h4, h5, h6⟩ := reqErr_ok h
  refine ⟨?_, ?_, ?_, ?_, ?_, ?_⟩
  · have e : reqBytes fl kd ck off len d ++ t = be 4 627086611 ++ (be 2 fl ++ be 2 kd ++ be 8 ck ++ be 8 off ++ be 4 len ++ d ++ t) := by simp [reqBytes]
    rw [e, List.take_left' (be_len _ _)]
  · rw [rqN_seg (a := be 4 627086611) (b := be 2 fl) (c := be 2 kd ++ be 8 ck ++ be 8 off ++ be 4 len ++ d ++ t) (by simp [reqBytes]) (by simp [be_len]) (by simp [be_len]), mod_be h1 (by simpa using h2)]
  · rw [rqN_seg (a := be 4 627086611 ++ be 2 fl) (b := be 2 kd) (c := be 8 ck ++ be 8 off ++ be 4 len ++ d ++ t) (by simp [reqBytes]) (by simp [be_len]) (by simp [be_len]), mod_be h3 (by simpa using h4)]
  · rw [rqN_seg (a := be 4 627086611 ++ be 2 fl ++ be 2 kd) (b := be 8 ck) (c := be 8 off ++ be 4 len ++ d ++ t) (by simp [reqBytes]) (by simp [be_len]) (by simp [be_len]), mod_be ck0 (by simpa using ck1)]
  · rw [rqN_seg (a := be 4 627086611 ++ be 2 fl ++ be 2 kd ++ be 8 ck) (b := be 8 off) (c := be 4 len ++ d ++ t) (by simp [reqBytes]) (by simp [be_len]) (by simp [be_len]), mod_be o0 (by simpa using o1)]
  · rw [rqN_seg (a := be 4 627086611 ++ be 2 fl ++ be 2 kd ++ be 8 ck ++ be 8 off) (b := be 4 len) (c := d ++ t) (by simp [reqBytes]) (by simp [be_len]) (by simp [be_len]), mod_be l0 (by simpa using l1)]
theorem other_no {l : List Int} {m : Int} {k : Nat} (h0 : 0 ≤ m) (h1 : m < 4294967296) (h : l.take 4 = be 4 m) : otherB (l.take k) m = false := by
  unfold otherB
  refine decide_eq_false fun ⟨h2, h3⟩ => h3 ?_
  have h4 : 4 ≤ k := by
    have := List.length_take_le k l
    omega
  rw [List.take_take, Nat.min_eq_left h4, h, mod_be h0 (by simpa using h1)]

theorem takeReq_full (h : reqErr fl kd len d = 0) (l0 : 0 ≤ len) (l1 : len < 4294967296) (ck0 : 0 ≤ ck) (ck1 : ck < 18446744073709551616) (o0 : 0 ≤ off) (o1 : off < 18446744073709551616) (t : List Int) :
    takeReq (reqBytes fl kd ck off len d ++ t) = ⟨true, 0, fl, kd, ck, off, len, d, t⟩ := by
  obtain ⟨h1, h2, h3, h4, h5, h6⟩ := reqErr_ok h
  obtain ⟨e0, e1, e2, e3, e4, e5⟩ := req_fields h l0 l1 ck0 ck1 o0 o1 t
  have hlen : (reqBytes fl kd ck off len d ++ t).length = 28 + d.length + t.length := by rw [List.length_append, reqBytes_len]
  have hsz : rqSize (reqBytes fl kd ck off len d ++ t) = 28 + d.length := by
    unfold rqSize
    rw [e2, e5]
    rcases h6 with ⟨rfl, rfl⟩ | ⟨hk, hd⟩
    · simp
    · rw [if_neg hk, hd]
  have ho : otherB (reqBytes fl kd ck off len d ++ t) 627086611 = false := by
    have := other_no (k := (reqBytes fl kd ck off len d ++ t).length) (by decide) (by decide) e0
    rwa [List.take_length] at this
  unfold takeReq
  rw [ho, if_neg (by decide), if_neg (by omega), e2, e5, if_neg (by rcases h6 with ⟨rfl, rfl⟩ | ⟨hk, hd⟩ <;> omega), hsz, if_neg (by omega), e1, e3, e4]
  have e6 : (reqBytes fl kd ck off len d ++ t).take (28 + d.length) = reqBytes fl kd ck off len d := List.take_left' (reqBytes_len ..)
  have e7 : (reqBytes fl kd ck off len d ++ t).drop (28 + d.length) = t := List.drop_left' (reqBytes_len ..)
  have e8 : (reqBytes fl kd ck off len d).drop 28 = d := by
    have : reqBytes fl kd ck off len d = (be 4 627086611 ++ be 2 fl ++ be 2 kd ++ be 8 ck ++ be 8 off ++ be 4 len) ++ d := rfl
    rw [this, List.drop_left' (by simp [be_len])]
  rw [e6, e7, e8]
theorem takeReq_part (h : reqErr fl kd len d = 0) (l0 : 0 ≤ len) (l1 : len < 4294967296) (ck0 : 0 ≤ ck) (ck1 : ck < 18446744073709551616) (o0 : 0 ≤ off) (o1 : off < 18446744073709551616) {k : Nat} (hk : k < 28 + d.length) :
    takeReq ((reqBytes fl kd ck off len d).take k) = noTk 0 ((reqBytes fl kd ck off len d).take k) := by
  obtain ⟨h1, h2, h3, h4, h5, h6⟩ := reqErr_ok h
  obtain ⟨e0, e1, e2, e3, e4, e5⟩ := req_fields h l0 l1 ck0 ck1 o0 o1 []
  rw [List.append_nil] at e0 e1 e2 e3 e4 e5
  have hlen : ((reqBytes fl kd ck off len d).take k).length = k := by rw [List.length_take, reqBytes_len]; omega
  unfold takeReq
  rw [other_no (by decide) (by decide) e0, if_neg (by decide)]
  by_cases h28 : k < 28
  · rw [if_pos (by omega)]
  · rw [if_neg (by omega)]
    have e2' : rqN ((reqBytes fl kd ck off len d).take k) 6 2 = kd := by rw [rqN_take (by omega), e2]
    have e5' : rqN ((reqBytes fl kd ck off len d).take k) 24 4 = len := by rw [rqN_take (by omega), e5]
    have hkd : kd = 1 ∧ len = d.length := by
      rcases h6 with h6 | ⟨_, hd⟩
      · exact h6
      · omega
    obtain ⟨rfl, rfl⟩ := hkd
    have hsz : rqSize ((reqBytes fl 1 ck off d.length d).take k) = 28 + d.length := by
      unfold rqSize
      rw [e2', e5']; simp
    rw [e2', e5', if_neg (by omega), hsz, if_pos (by omega)]
end

section
variable {er ck : Int} {d : List Int}
theorem rep_fields (e0 : 0 ≤ er) (e1 : er < 4294967296) (ck0 : 0 ≤ ck) (ck1 : ck < 18446744073709551616) (t : List Int) :
    (repBytes er ck d ++ t).take 4 = be 4 1732535960 ∧ rqN (repBytes er ck d ++ t) 4 4 = er ∧ rqN (repBytes er ck d ++ t) 8 8 = ck := by
  refine ⟨?_, ?_, ?_⟩
  · have e : repBytes er ck d ++ t = be 4 1732535960 ++ (be 4 er ++ be 8 ck ++ d ++ t) := by simp [repBytes]
    rw [e, List.take_left' (be_len _ _)]
  · rw [rqN_seg (a := be 4 1732535960) (b := be 4 er) (c := be 8 ck ++ d ++ t) (by simp [repBytes]) (by simp [be_len]) (by simp [be_len]), mod_be e0 (by simpa using e1)]
  · rw [rqN_seg (a := be 4 1732535960 ++ be 4 er) (b := be 8 ck) (c := d ++ t) (by simp [repBytes]) (by simp [be_len]) (by simp [be_len]), mod_be ck0 (by simpa using ck1)]

theorem takeRep_full (h : repErr er d = 0) (e0 : 0 ≤ er) (e1 : er < 4294967296) (ck0 : 0 ≤ ck) (ck1 : ck < 18446744073709551616) (t : List Int) :
    takeRep (repBytes er ck d ++ t) d.length = ⟨true, 0, er, ck, d, t⟩ := by
  obtain ⟨h1, h2⟩ := repErr_ok h
  obtain ⟨f0, f1, f2⟩ := rep_fields (d := d) e0 e1 ck0 ck1 t
  have hlen : (repBytes er ck d ++ t).length = 16 + d.length + t.length := by rw [List.length_append, repBytes_len]
  have hsz : rpSize (repBytes er ck d ++ t) d.length = 16 + d.length := by
    unfold rpSize
    rw [f1]
    rcases h1 with rfl | hd
    · simp
    · rw [hd]; simp
  have ho : otherB (repBytes er ck d ++ t) 1732535960 = false := by
    have := other_no (k := (repBytes er ck d ++ t).length) (by decide) (by decide) f0
    rwa [List.take_length] at this
  unfold takeRep
  rw [if_neg (by omega), ho, if_neg (by decide), if_neg (by omega), hsz, if_neg (by omega), f1, f2]
  have e6 : (repBytes er ck d ++ t).take (16 + d.length) = repBytes er ck d := List.take_left' (repBytes_len ..)
  have e7 : (repBytes er ck d ++ t).drop (16 + d.length) = t := List.drop_left' (repBytes_len ..)
  have e8 : (repBytes er ck d).drop 16 = d := by
    have : repBytes er ck d = (be 4 1732535960 ++ be 4 er ++ be 8 ck) ++ d := rfl
    rw [this, List.drop_left' (by simp [be_len])]
  rw [e6, e7, e8]
theorem takeRep_part (h : repErr er d = 0) (e0 : 0 ≤ er) (e1 : er < 4294967296) (ck0 : 0 ≤ ck) (ck1 : ck < 18446744073709551616) {k : Nat} (hk : k < 16 + d.length) :
    takeRep ((repBytes er ck d).take k) d.length = noTr 0 ((repBytes er ck d).take k) := by
  obtain ⟨h1, h2⟩ := repErr_ok h
  obtain ⟨f0, f1, f2⟩ := rep_fields (d := d) e0 e1 ck0 ck1 []
  rw [List.append_nil] at f0 f1 f2
  have hlen : ((repBytes er ck d).take k).length = k := by rw [List.length_take, repBytes_len]; omega
  unfold takeRep
  rw [if_neg (by omega), other_no (by decide) (by decide) f0, if_neg (by decide)]
  by_cases h16 : k < 16
  · rw [if_pos (by omega)]
  · rw [if_neg (by omega)]
    have f1' : rqN ((repBytes er ck d).take k) 4 4 = er := by rw [rqN_take (by omega), f1]
    have he : er = 0 := by
      rcases h1 with h1 | h1
      · exact h1
      · omega
    have hsz : rpSize ((repBytes er ck d).take k) d.length = 16 + d.length := by
      unfold rpSize
      rw [f1', he]; simp
    rw [hsz, if_pos (by omega)]
end
end Go.Proofs.Ytbfcnbggkcaolaa
