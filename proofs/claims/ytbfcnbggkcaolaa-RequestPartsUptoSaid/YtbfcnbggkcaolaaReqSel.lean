/-
  Those requests, or replies, that can be put.
-/
import Derived.Test.YtbfcnbggkcaolaaReqStep
namespace Go.Proofs.Ytbfcnbggkcaolaa
set_option linter.unusedVariables false
set_option linter.unusedSimpArgs false

theorem sum_take_le {α : Type} (f : α → Nat) : ∀ (l : List α) (k : Nat), ((l.take k).map f).sum ≤ (l.map f).sum := by
  intro l
  induction l with
  | nil => intro k; simp
  | cons x l ih =>
    intro k
    cases k with
    | zero => simp
    | succ k => simp only [List.take_succ_cons, List.map_cons, List.sum_cons]; have := ih k; omega

def Rq.ok (r : Rq) : Bool := decide (r.err = 0)
def Rqf (rs : List Rq) (k : Nat) : List Rq := (rs.take k).filter Rq.ok
theorem Rqf_zero (rs : List Rq) : Rqf rs 0 = [] := rfl
theorem Rqf_succ {rs : List Rq} {k : Nat} {r : Rq} (h : rs[k]? = some r) : Rqf rs (k + 1) = Rqf rs k ++ if r.err = 0 then [r] else [] := by
  unfold Rqf
  rw [List.take_add_one, h, List.filter_append]
  congr 1
  by_cases e : r.err = 0
  · simp [Rq.ok, e]
  · simp [Rq.ok, e]
theorem Rqf_mem {rs : List Rq} {k : Nat} {r : Rq} (h : r ∈ Rqf rs k) : r ∈ rs ∧ r.err = 0 := by
  unfold Rqf at h
  rw [List.mem_filter] at h
  exact ⟨List.mem_of_mem_take h.1, by simpa [Rq.ok] using h.2⟩
theorem Rqf_len (rs : List Rq) (k : Nat) : (Rqf rs k).length ≤ rs.length := by
  unfold Rqf
  exact Nat.le_trans (List.length_filter_le ..) (by rw [List.length_take]; omega)
theorem Rqs_filter : ∀ l : List Rq, (Rqs (l.filter Rq.ok)).length ≤ (l.map fun r => 28 + r.d.length).sum := by
  intro l
  induction l with
  | nil => simp [Rqs]
  | cons x l ih =>
    rw [List.filter_cons]
    split
    · unfold Rqs at ih ⊢
      rw [List.flatMap_cons, List.length_append, List.map_cons, List.sum_cons]
      have : x.bytes.length = 28 + x.d.length := reqBytes_len ..
      omega
    · rw [List.map_cons, List.sum_cons]
      omega
theorem Rqs_len (rs : List Rq) (k : Nat) : (Rqs (Rqf rs k)).length ≤ (rs.map fun r => 28 + r.d.length).sum :=
  Nat.le_trans (Rqs_filter _) (sum_take_le _ rs k)
theorem Rqs_app (a b : List Rq) : Rqs (a ++ b) = Rqs a ++ Rqs b := List.flatMap_append
theorem Rqs_one (r : Rq) : Rqs [r] = r.bytes := by simp [Rqs]
theorem Rqs_byt {l : List Rq} (h : ∀ r ∈ l, Byt r.bytes) : Byt (Rqs l) := by
  intro x hx
  obtain ⟨r, hr, hx⟩ := List.mem_flatMap.1 hx
  exact h r hr x hx

def Rr.ok (r : Rr) : Bool := decide (r.err = 0)
def Rrf (rs : List Rr) (k : Nat) : List Rr := (rs.take k).filter Rr.ok
theorem Rrf_zero (rs : List Rr) : Rrf rs 0 = [] := rfl
theorem Rrf_succ {rs : List Rr} {k : Nat} {r : Rr} (h : rs[k]? = some r) : Rrf rs (k + 1) = Rrf rs k ++ if r.err = 0 then [r] else [] := by
  unfold Rrf
  rw [List.take_add_one, h, List.filter_append]
  congr 1
  by_cases e : r.err = 0
  · simp [Rr.ok, e]
  · simp [Rr.ok, e]
theorem Rrf_mem {rs : List Rr} {k : Nat} {r : Rr} (h : r ∈ Rrf rs k) : r ∈ rs ∧ r.err = 0 := by
  unfold Rrf at h
  rw [List.mem_filter] at h
  exact ⟨List.mem_of_mem_take h.1, by simpa [Rr.ok] using h.2⟩
theorem Rrf_len (rs : List Rr) (k : Nat) : (Rrf rs k).length ≤ rs.length := by
  unfold Rrf
  exact Nat.le_trans (List.length_filter_le ..) (by rw [List.length_take]; omega)
theorem Rrs_filter : ∀ l : List Rr, (Rrs (l.filter Rr.ok)).length ≤ (l.map fun r => 16 + r.d.length).sum := by
  intro l
  induction l with
  | nil => simp [Rrs]
  | cons x l ih =>
    rw [List.filter_cons]
    split
    · unfold Rrs at ih ⊢
      rw [List.flatMap_cons, List.length_append, List.map_cons, List.sum_cons]
      have : x.bytes.length = 16 + x.d.length := repBytes_len ..
      omega
    · rw [List.map_cons, List.sum_cons]
      omega
theorem Rrs_len (rs : List Rr) (k : Nat) : (Rrs (Rrf rs k)).length ≤ (rs.map fun r => 16 + r.d.length).sum :=
  Nat.le_trans (Rrs_filter _) (sum_take_le _ rs k)
theorem Rrs_app (a b : List Rr) : Rrs (a ++ b) = Rrs a ++ Rrs b := List.flatMap_append
theorem Rrs_one (r : Rr) : Rrs [r] = r.bytes := by simp [Rrs]
theorem Rrs_byt {l : List Rr} (h : ∀ r ∈ l, Byt r.bytes) : Byt (Rrs l) := by
  intro x hx
  obtain ⟨r, hr, hx⟩ := List.mem_flatMap.1 hx
  exact h r hr x hx

theorem Rq.bytes_byt {r : Rq} (h : Byt r.d) : Byt r.bytes :=
  (((((((be_byt _ _).append (be_byt _ _)).append (be_byt _ _)).append (be_byt _ _)).append (be_byt _ _)).append (be_byt _ _)).append h)
theorem Rr.bytes_byt {r : Rr} (h : Byt r.d) : Byt r.bytes := ((((be_byt _ _).append (be_byt _ _)).append (be_byt _ _)).append h)
end Go.Proofs.Ytbfcnbggkcaolaa
