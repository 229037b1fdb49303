/-
  Answers, the program's and the document's side by side: put, taken, and those that come in.
-/
import Derived.Test.YtankfmfenbhkgaaAdmLaw2
import Derived.Test.YtankfmfenbhkgaaRef24PutA
import Derived.Test.YtankfmfenbhkgaaRef24TkF
import Derived.Test.YtankfmfenbhkgaaVolSees
namespace Go.Proofs.Ytankfmfenbhkgaa
open Go.RowKit
set_option linter.unusedVariables false
set_option linter.unusedSimpArgs false
theorem id_ {p : Prop} (h : p) : p := h
theorem volAt_ge {l : List Int} {b b' : Nat} {v : Vol} (h : volAt l b = .ok (v, b')) : b ≤ b' := by
  unfold volAt at h
  split at h
  · cases h
  · split at h
    · cases h
    · split at h
      · cases h
      · split at h
        · cases h
        · injection h with h; injection h with _ h; omega
theorem volsFrom_ge {l : List Int} {a : Nat} : ∀ {k : Nat} {vs : List Vol} {b : Nat}, volsFrom l a k = .ok (vs, b) → a ≤ b
  | 0, vs, b, h => by simp only [volsFrom] at h; injection h with h; injection h with _ h; omega
  | k + 1, vs, b, h => by
    rw [volsFrom] at h
    split at h
    · cases h
    · rename_i vs' b1 h1
      split at h
      · cases h
      · rename_i v b2 h2
        injection h with h
        injection h with _ h
        have := volsFrom_ge h1
        have := volAt_ge h2
        omega
theorem sees_ans {h : Array Obj} {cs0 : Array Value} {x0 : Sh.V (.agg (.pair (.int .u64) (.pair (.int .u32) (.pair (.int .u64) (.pair (.slice (.agg (.pair (.int .u64) (.pair .str (.pair (.int .u64) (.pair (.int .u64) (.pair .bool (.pair (.int .u64) .unit))))))) 56) .unit)))))}
    (s0 : Sees h (.agg (.pair (.int .u64) (.pair (.int .u32) (.pair (.int .u64) (.pair (.slice (.agg (.pair (.int .u64) (.pair .str (.pair (.int .u64) (.pair (.int .u64) (.pair .bool (.pair (.int .u64) .unit))))))) 56) .unit))))) cs0.toList x0)
    (y0 : Light (.agg (.pair (.int .u64) (.pair (.int .u32) (.pair (.int .u64) (.pair (.slice (.agg (.pair (.int .u64) (.pair .str (.pair (.int .u64) (.pair (.int .u64) (.pair .bool (.pair (.int .u64) .unit))))))) 56) .unit))))) x0) :
    ∃ (ck er id : Int) (A : Option Addr) (n c : Nat) (vs : List Vol), cs0 = #[.int .u64 ck, .int .u32 er, .int .u64 id, .slice A n c] ∧ (0 ≤ ck ∧ ck < 18446744073709551616) ∧ (0 ≤ er ∧ er < 4294967296) ∧ (0 ≤ id ∧ id < 18446744073709551616) ∧
      n ≤ c ∧ n * 56 ≤ 140737488351232 ∧ vs.length = n ∧ (∀ v ∈ vs, v.Ok) ∧ Rd h (fun b => b < h.size) 6 A n (vrow vs) := by
  obtain ⟨ck, er, id, l, _⟩ := x0
  obtain ⟨q1, r1, hcs, hl1, ⟨rfl, hb1⟩, q2, r2, rfl, hl2, ⟨rfl, hb2⟩, q3, r3, rfl, hl3, ⟨rfl, hb3⟩, q4, r4, rfl, hl4, hs4, rfl⟩ := s0
  obtain ⟨A, c, hc, _⟩ := id_ hs4
  subst hc
  have g1 := bounds_u64 hb1
  have g2 := bounds_u32 hb2
  have g3 := bounds_u64 hb3
  obtain ⟨h1, h2, vs, h3, h4, h5⟩ := sees_vols hs4 y0.2.2.2.1
  exact ⟨ck, er, id, A, _, c, vs, by apply Array.toList_inj.1; rw [hcs]; rfl, by dsimp only at g1; omega, by dsimp only at g2; omega, by dsimp only at g3; omega, h1, h2, h3, h4, h5⟩
section
variable {w0 : World} {O : Nat → Prop}
theorem ansput_both {ck er id : Int} {n : Nat} {vs : List Vol} (hn : vs.length = n) (hv : ∀ v ∈ vs, v.Ok) (c0 : 0 ≤ ck) (c1 : ck < 18446744073709551616) (e0 : 0 ≤ er) (e1 : er < 4294967296) (d0 : 0 ≤ id) (d1 : id < 18446744073709551616) :
    ∃ (E : Int) (X : List Int), X.length ≤ 1000 ∧
      (∀ {w : World} {L : List Asr} {A : Option Addr} {c : Nat}, Sep w0 w O L → Rb w0 O L 6 A n (vrow vs) → Calls Try.prog 16 #[.agg #[.int .u64 ck, .int .u32 er, .int .u64 id, .slice A n c]] w fun e w' => ∃ A' c', e = .returned (.tuple #[.slice A' X.length c', .int .i64 E]) ∧ Sep w0 w' O (own 5 1 A' X.length c' (by8 X) :: L)) ∧
      (∀ {w : World} {L : List Asr} {A : Option Addr} {c : Nat}, Sep w0 w O L → Rb w0 O L 6 A n (vrow vs) → Calls Try.prog 17 #[.agg #[.int .u64 ck, .int .u32 er, .int .u64 id, .slice A n c]] w fun e w' => ∃ A' c', e = .returned (.tuple #[.slice A' X.length c', .int .i64 E]) ∧ Sep w0 w' O (own 5 1 A' X.length c' (by8 X) :: L)) := by
  by_cases h16 : 16 < n
  · refine ⟨3, [], by simp, fun HS hr => ?_, fun HS hr => ?_⟩
    · refine (putansA_long HS h16).mono ?_
      rintro e w' ⟨rfl, H⟩
      exact ⟨none, 0, rfl, H.nil _ _⟩
    · refine (rputansA_long HS h16).mono ?_
      rintro e w' ⟨rfl, H⟩
      exact ⟨none, 0, rfl, H.nil _ _⟩
  by_cases hs : ∀ v ∈ vs, v.nm.size ≤ 16
  · refine ⟨0, ansBytes ck er id vs, ?_, fun HS hr => ?_, fun HS hr => ?_⟩
    · have : ∀ (l : List Vol), (∀ v ∈ l, v.nm.size ≤ 16) → (vsbytes l).length ≤ 42 * l.length := by
        intro l
        induction l with
        | nil => intro _; simp [vsbytes]
        | cons v l ih =>
          intro h
          have h1 := ih fun u hu => h u (List.mem_cons_of_mem _ hu)
          have h2 := h v (List.mem_cons_self ..)
          have e : vsbytes (v :: l) = vbytes v ++ vsbytes l := by simp [vsbytes]
          rw [e, List.length_append, vbytes_len, List.length_cons]
          omega
      have h1 := this vs hs
      unfold ansBytes
      rw [List.length_append]
      have h2 : (nput (ansHead ck er id vs.length)).length = 25 := by simp [nput, ansHead, be_len]
      omega
    · exact (putansA_calls HS hr hn hv (by omega) c0 c1 e0 e1 d0 d1).mono fun e w' H => H.1 hs
    · exact (rputansA_calls HS hr hn hv (by omega) c0 c1 e0 e1 d0 d1).mono fun e w' H => H.1 hs
  · refine ⟨3, [], by simp, fun HS hr => ?_, fun HS hr => ?_⟩
    · refine (putansA_calls HS hr hn hv (by omega) c0 c1 e0 e1 d0 d1).mono ?_
      rintro e w' H
      obtain ⟨rfl, HX⟩ := H.2 hs
      exact ⟨none, 0, rfl, HX.nil _ _⟩
    · refine (rputansA_calls HS hr hn hv (by omega) c0 c1 e0 e1 d0 d1).mono ?_
      rintro e w' H
      obtain ⟨rfl, HX⟩ := H.2 hs
      exact ⟨none, 0, rfl, HX.nil _ _⟩

theorem anstake_both {l : List Int} (hb : Byt l) (hl : l.length ≤ 140737488355328) :
    (∃ E : Int, (∀ {w : World} {L : List Asr} {g : Nat}, Sep w0 w O (Go.Proofs.Ytankfmfenbhkgaa.tape g l :: L) → Calls Try.prog 18 #[.pointer (some ⟨g, 0, none⟩)] w fun e w' => e = .returned (.tuple #[.agg zAns, .bool false, .int .i64 E]) ∧ Sep w0 w' O (Go.Proofs.Ytankfmfenbhkgaa.tape g l :: L)) ∧
      (∀ {w : World} {L : List Asr} {A : Option Addr} {n c : Nat}, Sep w0 w O L → Rb w0 O L 1 A n (by8 l) → n ≤ c → Calls Try.prog 19 #[.slice A n c] w fun e w' => e = .returned (.tuple #[.agg zAns, .int .i64 0, .int .i64 E]) ∧ Sep w0 w' O L)) ∨
    (∃ (ck er id : Int) (N gn : Nat) (vs : List Vol), 0 < gn ∧ gn ≤ l.length ∧ vs.length = N ∧ N ≤ 16 ∧ (∀ v ∈ vs, v.root = 0) ∧
      (∀ {w : World} {L : List Asr} {g : Nat}, Sep w0 w O (Go.Proofs.Ytankfmfenbhkgaa.tape g l :: L) → Calls Try.prog 18 #[.pointer (some ⟨g, 0, none⟩)] w fun e w' => ∃ A' c', e = .returned (.tuple #[.agg #[.int .u64 ck, .int .u32 er, .int .u64 id, .slice A' N c'], .bool true, .int .i64 0]) ∧ Sep w0 w' O (own 48 6 A' N c' (vrow vs) :: Go.Proofs.Ytankfmfenbhkgaa.tape g (l.drop gn) :: L)) ∧
      (∀ {w : World} {L : List Asr} {A : Option Addr} {n c : Nat}, Sep w0 w O L → Rb w0 O L 1 A n (by8 l) → n ≤ c → Calls Try.prog 19 #[.slice A n c] w fun e w' => ∃ A' c', e = .returned (.tuple #[.agg #[.int .u64 ck, .int .u32 er, .int .u64 id, .slice A' N c'], .int .i64 (gn : Nat), .int .i64 0]) ∧ Sep w0 w' O (own 48 6 A' N c' (vrow vs) :: L))) := by
  have href : ∀ {w : World} {L : List Asr} {A : Option Addr} {n c : Nat} {E : Int}, takeAns l = .error E → Sep w0 w O L → Rb w0 O L 1 A n (by8 l) → n ≤ c → Calls Try.prog 19 #[.slice A n c] w fun e w' => e = .returned (.tuple #[.agg zAns, .int .i64 0, .int .i64 E]) ∧ Sep w0 w' O L := by
    intro w L A n c E hE HS hr hc
    have hn := hr.klen HS
    exact (ref24takeA_calls HS hr hb hc (by omega)).mono fun e w' H => H.1 _ hE
  by_cases h4 : 4 ≤ l.length ∧ num (l.take 4) ≠ 1128878913
  · exact .inl ⟨33, fun HS => takeansA_zero (.inr (.inl ⟨h4.1, h4.2, rfl⟩)) HS hb hl, fun HS hr hc => href (by unfold takeAns; rw [if_pos h4]) HS hr hc⟩
  have hm' : 4 ≤ l.length → num (l.take 4) = 1128878913 := fun h => Classical.byContradiction fun h' => h4 ⟨h, h'⟩
  by_cases h25 : l.length < 25
  · refine .inl ⟨0, fun HS => takeansA_zero ?_ HS hb hl, fun HS hr hc => href (by unfold takeAns; rw [if_neg h4, if_pos h25]) HS hr hc⟩
    by_cases h : l.length < 4
    · exact .inl ⟨h, rfl⟩
    · exact .inr (.inr ⟨by omega, hm' (by omega), h25, rfl⟩)
  have hm := hm' (by omega)
  have bN := fN_bd hb 24 1
  obtain ⟨N, hN⟩ : ∃ N : Nat, fN l 24 1 = N := ⟨_, (Int.toNat_of_nonneg bN.1).symm⟩
  by_cases h16 : 16 < N
  · exact .inl ⟨3, fun HS => takeansA_long (by omega) hm hN h16 HS hb hl, fun HS hr hc => href (by unfold takeAns; rw [if_neg h4, if_neg h25, if_pos (by omega)]) HS hr hc⟩
  have ht : takeAns l = match volsFrom l 25 N with
      | .error e => .error e
      | .ok (vs, a) => .ok ((fN l 8 8, fN l 4 4, fN l 16 8), vs, a) := by unfold takeAns; rw [if_neg h4, if_neg h25, if_neg (by omega), hN, Int.toNat_natCast]; rfl
  cases hv : volsFrom l 25 N with
  | error E => exact .inl ⟨E, fun HS => takeansA_bad (by omega) hm hN (by omega) hv HS hb hl, fun HS hr hc => href (by rw [ht, hv]) HS hr hc⟩
  | ok x =>
    obtain ⟨vs, a⟩ := x
    obtain ⟨h1, h2, h3, h5⟩ := ans_back hb (by omega) hm hN hv
    have h0 : 25 ≤ a := (volsFrom_ge hv)
    refine .inr ⟨fN l 8 8, fN l 4 4, fN l 16 8, N, a, vs, by omega, h2, h3, by omega, fun v hv => (h5 v hv).2.1, fun HS => ?_, fun HS hr hc => ?_⟩
    · refine (takeansA_ok (by omega) hm hN (by omega) hv HS hb hl).mono ?_
      rintro e w' ⟨A', c', rfl, _, _, H⟩
      exact ⟨A', c', rfl, H⟩
    · have hn := hr.klen HS
      refine (ref24takeA_calls HS hr hb hc (by omega)).mono ?_
      rintro e w' ⟨_, H⟩
      have H := H _ _ _ _ _ (by rw [ht, hv])
      rw [hN, Int.toNat_natCast] at H
      exact H
theorem anstake_one {l : List Int} (hb : Byt l) (hl : l.length ≤ 140737488355328) :
    ∃ (ck er id : Int) (N gn : Nat) (vs : List Vol) (E : Int), gn ≤ l.length ∧ vs.length = N ∧ N ≤ 16 ∧ (∀ v ∈ vs, v.root = 0) ∧
      (∀ {w : World} {L : List Asr} {g : Nat}, Sep w0 w O (Go.Proofs.Ytankfmfenbhkgaa.tape g l :: L) → Calls Try.prog 18 #[.pointer (some ⟨g, 0, none⟩)] w fun e w' => ∃ A' c', e = .returned (.tuple #[.agg #[.int .u64 ck, .int .u32 er, .int .u64 id, .slice A' N c'], .bool (decide ((0 : Int) < gn)), .int .i64 E]) ∧ Sep w0 w' O (own 48 6 A' N c' (vrow vs) :: Go.Proofs.Ytankfmfenbhkgaa.tape g (l.drop gn) :: L)) ∧
      (∀ {w : World} {L : List Asr} {A : Option Addr} {n c : Nat}, Sep w0 w O L → Rb w0 O L 1 A n (by8 l) → n ≤ c → Calls Try.prog 19 #[.slice A n c] w fun e w' => ∃ A' c', e = .returned (.tuple #[.agg #[.int .u64 ck, .int .u32 er, .int .u64 id, .slice A' N c'], .int .i64 (gn : Nat), .int .i64 E]) ∧ Sep w0 w' O (own 48 6 A' N c' (vrow vs) :: L)) := by
  rcases anstake_both (w0 := w0) (O := O) hb hl with ⟨E, H1, H2⟩ | ⟨ck, er, id, N, gn, vs, h0, h1, h2, h3, h4, H1, H2⟩
  · refine ⟨0, 0, 0, 0, 0, [], E, Nat.zero_le _, rfl, by decide, fun v hv => (by cases hv), fun HS => ?_, fun HS hr hc => ?_⟩
    · refine (H1 HS).mono ?_
      rintro e w' ⟨rfl, H⟩
      exact ⟨none, 0, rfl, H.nil _ _⟩
    · refine (H2 HS hr hc).mono ?_
      rintro e w' ⟨rfl, H⟩
      exact ⟨none, 0, rfl, H.nil _ _⟩
  · have hd : decide ((0 : Int) < gn) = true := by simpa using h0
    refine ⟨ck, er, id, N, gn, vs, 0, h1, h2, h3, h4, fun HS => ?_, fun HS hr hc => H2 HS hr hc⟩
    rw [hd]
    exact H1 HS
end
end Go.Proofs.Ytankfmfenbhkgaa
