/-
  What is next off a tape that holds a part of what was put.
-/
import Derived.Test.YtbfcnbggkcaolaaReqRows
namespace Go.Proofs.Ytbfcnbggkcaolaa
set_option linter.unusedVariables false
set_option linter.unusedSimpArgs false

def Rqs (rs : List Rq) : List Int := rs.flatMap Rq.bytes
def Rqn (rs : List Rq) (q : Nat) : Nat := (Rqs (rs.take q)).length
theorem Rqn_zero (rs : List Rq) : Rqn rs 0 = 0 := by simp [Rqn, Rqs]
theorem Rqn_all (rs : List Rq) : Rqn rs rs.length = (Rqs rs).length := by simp [Rqn]
theorem Rqn_le (rs : List Rq) (q : Nat) : Rqn rs q ≤ (Rqs rs).length := by
  have : Rqs rs = Rqs (rs.take q) ++ Rqs (rs.drop q) := by unfold Rqs; rw [← List.flatMap_append, List.take_append_drop]
  rw [this, List.length_append]; exact Nat.le_add_right _ _
theorem Rqn_succ {rs : List Rq} {q : Nat} {r : Rq} (h : rs[q]? = some r) : Rqn rs (q + 1) = Rqn rs q + (28 + r.d.length) := by
  unfold Rqn Rqs
  rw [List.take_add_one, h]
  simp only [Option.toList, List.flatMap_append, List.length_append, List.flatMap_cons, List.flatMap_nil, List.append_nil]
  congr 1
  exact reqBytes_len ..
theorem Rqs_drop {rs : List Rq} {q : Nat} {r : Rq} (h : rs[q]? = some r) (bh : List Int) : (Rqs rs ++ bh).drop (Rqn rs q) = r.bytes ++ (Rqs (rs.drop (q + 1)) ++ bh) := by
  have e1 : Rqs rs = Rqs (rs.take q) ++ (r.bytes ++ Rqs (rs.drop (q + 1))) := by
    unfold Rqs
    rw [← List.flatMap_cons, ← List.flatMap_append]
    congr 1
    obtain ⟨hq, e⟩ := List.getElem?_eq_some_iff.1 h
    have := List.drop_eq_getElem_cons hq
    rw [e] at this
    rw [← this, List.take_append_drop]
  rw [e1, List.append_assoc, List.append_assoc]
  exact List.drop_left' rfl
theorem Rq_step {rs : List Rq} {bh : List Int} {a q : Nat} {r : Rq} (h : rs[q]? = some r) (hg : r.Fit ∧ r.err = 0) (hc : Rqn rs q ≤ a) (ha : a ≤ (Rqs rs ++ bh).length) :
    (Rqn rs (q + 1) ≤ a ∧ takeReq (((Rqs rs ++ bh).take a).drop (Rqn rs q)) = ⟨true, 0, r.fl, r.kd, r.ck, r.off, r.len, r.d, ((Rqs rs ++ bh).take a).drop (Rqn rs (q + 1))⟩) ∨ (a < Rqn rs (q + 1) ∧ takeReq (((Rqs rs ++ bh).take a).drop (Rqn rs q)) = noTk 0 (((Rqs rs ++ bh).take a).drop (Rqn rs q))) := by
  obtain ⟨f1, f2, f3, f4, f5, f6, f7, f8, f9, f10⟩ := hg.1
  have e1 : ((Rqs rs ++ bh).take a).drop (Rqn rs q) = (r.bytes ++ (Rqs (rs.drop (q + 1)) ++ bh)).take (a - Rqn rs q) := by rw [List.drop_take, Rqs_drop h]
  have hb : r.bytes.length = 28 + r.d.length := reqBytes_len ..
  have hs := Rqn_succ h
  by_cases hw : Rqn rs (q + 1) ≤ a
  · left
    refine ⟨hw, ?_⟩
    have e2 : ((Rqs rs ++ bh).take a).drop (Rqn rs q) = r.bytes ++ ((Rqs (rs.drop (q + 1)) ++ bh).take (a - Rqn rs (q + 1))) := by
      rw [e1, List.take_append, hb, List.take_of_length_le (by omega)]
      congr 2; omega
    have e3 : ((Rqs rs ++ bh).take a).drop (Rqn rs (q + 1)) = (Rqs (rs.drop (q + 1)) ++ bh).take (a - Rqn rs (q + 1)) := by
      rw [List.drop_take, hs, ← List.drop_drop, Rqs_drop h, List.drop_left' hb]
    rw [e3, e2]
    exact takeReq_full hg.2 f9 f10 f5 f6 f7 f8 _
  · right
    refine ⟨by omega, ?_⟩
    have e2 : ((Rqs rs ++ bh).take a).drop (Rqn rs q) = r.bytes.take (a - Rqn rs q) := by
      rw [e1, List.take_append, hb, show a - Rqn rs q - (28 + r.d.length) = 0 by omega, List.take_zero, List.append_nil]
    rw [e2]
    exact takeReq_part hg.2 f9 f10 f5 f6 f7 f8 (by omega)

def Rrs (rs : List Rr) : List Int := rs.flatMap Rr.bytes
def Rrn (rs : List Rr) (q : Nat) : Nat := (Rrs (rs.take q)).length
theorem Rrn_zero (rs : List Rr) : Rrn rs 0 = 0 := by simp [Rrn, Rrs]
theorem Rrn_all (rs : List Rr) : Rrn rs rs.length = (Rrs rs).length := by simp [Rrn]
theorem Rrn_le (rs : List Rr) (q : Nat) : Rrn rs q ≤ (Rrs rs).length := by
  have : Rrs rs = Rrs (rs.take q) ++ Rrs (rs.drop q) := by unfold Rrs; rw [← List.flatMap_append, List.take_append_drop]
  rw [this, List.length_append]; exact Nat.le_add_right _ _
theorem Rrn_succ {rs : List Rr} {q : Nat} {r : Rr} (h : rs[q]? = some r) : Rrn rs (q + 1) = Rrn rs q + (16 + r.d.length) := by
  unfold Rrn Rrs
  rw [List.take_add_one, h]
  simp only [Option.toList, List.flatMap_append, List.length_append, List.flatMap_cons, List.flatMap_nil, List.append_nil]
  congr 1
  exact repBytes_len ..
theorem Rrs_drop {rs : List Rr} {q : Nat} {r : Rr} (h : rs[q]? = some r) (bh : List Int) : (Rrs rs ++ bh).drop (Rrn rs q) = r.bytes ++ (Rrs (rs.drop (q + 1)) ++ bh) := by
  have e1 : Rrs rs = Rrs (rs.take q) ++ (r.bytes ++ Rrs (rs.drop (q + 1))) := by
    unfold Rrs
    rw [← List.flatMap_cons, ← List.flatMap_append]
    congr 1
    obtain ⟨hq, e⟩ := List.getElem?_eq_some_iff.1 h
    have := List.drop_eq_getElem_cons hq
    rw [e] at this
    rw [← this, List.take_append_drop]
  rw [e1, List.append_assoc, List.append_assoc]
  exact List.drop_left' rfl
theorem Rr_step {rs : List Rr} {bh : List Int} {a q : Nat} {r : Rr} (h : rs[q]? = some r) (hg : r.Fit ∧ r.err = 0) (hc : Rrn rs q ≤ a) (ha : a ≤ (Rrs rs ++ bh).length) :
    (Rrn rs (q + 1) ≤ a ∧ takeRep (((Rrs rs ++ bh).take a).drop (Rrn rs q)) r.d.length = ⟨true, 0, r.er, r.ck, r.d, ((Rrs rs ++ bh).take a).drop (Rrn rs (q + 1))⟩) ∨ (a < Rrn rs (q + 1) ∧ takeRep (((Rrs rs ++ bh).take a).drop (Rrn rs q)) r.d.length = noTr 0 (((Rrs rs ++ bh).take a).drop (Rrn rs q))) := by
  obtain ⟨f1, f2, f3, f4⟩ := hg.1
  have e1 : ((Rrs rs ++ bh).take a).drop (Rrn rs q) = (r.bytes ++ (Rrs (rs.drop (q + 1)) ++ bh)).take (a - Rrn rs q) := by rw [List.drop_take, Rrs_drop h]
  have hb : r.bytes.length = 16 + r.d.length := repBytes_len ..
  have hs := Rrn_succ h
  by_cases hw : Rrn rs (q + 1) ≤ a
  · left
    refine ⟨hw, ?_⟩
    have e2 : ((Rrs rs ++ bh).take a).drop (Rrn rs q) = r.bytes ++ ((Rrs (rs.drop (q + 1)) ++ bh).take (a - Rrn rs (q + 1))) := by
      rw [e1, List.take_append, hb, List.take_of_length_le (by omega)]
      congr 2; omega
    have e3 : ((Rrs rs ++ bh).take a).drop (Rrn rs (q + 1)) = (Rrs (rs.drop (q + 1)) ++ bh).take (a - Rrn rs (q + 1)) := by
      rw [List.drop_take, hs, ← List.drop_drop, Rrs_drop h, List.drop_left' hb]
    rw [e3, e2]
    exact takeRep_full hg.2 f1 f2 f3 f4 _
  · right
    refine ⟨by omega, ?_⟩
    have e2 : ((Rrs rs ++ bh).take a).drop (Rrn rs q) = r.bytes.take (a - Rrn rs q) := by
      rw [e1, List.take_append, hb, show a - Rrn rs q - (16 + r.d.length) = 0 by omega, List.take_zero, List.append_nil]
    rw [e2]
    exact takeRep_part hg.2 f1 f2 f3 f4 (by omega)
end Go.Proofs.Ytbfcnbggkcaolaa
