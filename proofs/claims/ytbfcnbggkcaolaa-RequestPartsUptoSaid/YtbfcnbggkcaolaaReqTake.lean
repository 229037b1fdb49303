/-
  Contracts of request.other, request.Take.
-/
import Derived.Test.YtbfcnbggkcaolaaReqPut
import Derived.Deep.DeepCutAuto
namespace Go.Proofs.Ytbfcnbggkcaolaa
open Go.RowKit
set_option linter.unusedVariables false
set_option linter.unusedSimpArgs false

def otherB (l : List Int) (magic : Int) : Bool := decide (4 ≤ l.length ∧ num (l.take 4) ≠ magic)

theorem results_row2 {P : Program} {fn : Func} {p q r : Tmp} {ty : TypeId} (h : fn.results = #[.cell p ty, .tmp q, .tmp r]) (tmps : Array Value) (w : World) (g : Nat) (t : TypeId) (cs : Array Value) (fr : Nat × Nat) (d : TypeDesc)
    (hp : tmps.getD p undef = .pointer (some ⟨g, 0, none⟩)) (hg : w.heap[g]? = some (.cells cs t fr))
    (hu : P.underlying ty = some d) (hd : (match d with | .struct _ | .array _ _ => true | _ => false) = true) (hi : (P.info? ty).map (·.size) = some cs.size) :
    (results fn tmps).run P w = .ok (.tuple #[.agg cs, tmps.getD q undef, tmps.getD r undef]) w := by
  have hp' : tmps[p]?.getD undef = .pointer (some ⟨g, 0, none⟩) := by simpa using hp
  simp [results, h, hp', asAddr, run_loadVar_row w g t ty cs fr d hg hu hd hi]
theorem info_req : (Try.prog.info? 26).map (·.size) = some 6 := by kernel_rfl
theorem info_rep : (Try.prog.info? 51).map (·.size) = some 3 := by kernel_rfl
theorem Sep.blk_set6 {w0 w : World} {O : Nat → Prop} {L : List Asr} {g : Nat} {t : TypeId} {a0 a1 a2 a3 a4 a5 : Value} (h : Sep w0 w O (blk g t #[a0, a1, a2, a3, a4, a5] :: L)) (b0 b1 b2 b3 b4 b5 : Value) :
    Sep w0 ((((((w.setCell ⟨g, 0, none⟩ b0).setCell ⟨g, 1, none⟩ b1).setCell ⟨g, 2, none⟩ b2).setCell ⟨g, 3, none⟩ b3).setCell ⟨g, 4, none⟩ b4).setCell ⟨g, 5, none⟩ b5) O (blk g t #[b0, b1, b2, b3, b4, b5] :: L) := by
  have := (((((h.blk_set 0 b0).blk_set 1 b1).blk_set 2 b2).blk_set 3 b3).blk_set 4 b4).blk_set 5 b5
  simpa using this
theorem Sep.blk_set3 {w0 w : World} {O : Nat → Prop} {L : List Asr} {g : Nat} {t : TypeId} {a0 a1 a2 : Value} (h : Sep w0 w O (blk g t #[a0, a1, a2] :: L)) (b0 b1 b2 : Value) :
    Sep w0 (((w.setCell ⟨g, 0, none⟩ b0).setCell ⟨g, 1, none⟩ b1).setCell ⟨g, 2, none⟩ b2) O (blk g t #[b0, b1, b2] :: L) := by
  have := ((h.blk_set 0 b0).blk_set 1 b1).blk_set 2 b2
  simpa using this

section
variable {w0 w : World} {O : Nat → Prop} {L : List Asr}

theorem numL_ok {b : Bool} {l : List Int} {ss : List Nat} (h : ∀ s ∈ ss, 1 ≤ s ∧ s ≤ 8) (ht : tot ss ≤ l.length) : numL b l (ss.map Int.ofNat) = ⟨true, cut l ss, if b then l.drop (tot ss) else l⟩ := by
  have e : (ss.map Int.ofNat).map Int.toNat = ss := by
    rw [List.map_map]; exact (List.map_congr_left fun x _ => rfl).trans (List.map_id' ss)
  have hz : ∀ z ∈ ss.map Int.ofNat, 1 ≤ z ∧ z ≤ 8 := by
    intro z hz
    obtain ⟨s, hs, rfl⟩ := List.mem_map.1 hz
    have h1 := h s hs
    have h2 : Int.ofNat s = (s : Int) := rfl
    omega
  unfold numL
  rw [if_pos ⟨hz, by rw [e]; exact ht⟩, e]
theorem numL_no {b : Bool} {l : List Int} {ss : List Nat} (ht : l.length < tot ss) : numL b l (ss.map Int.ofNat) = ⟨false, [], l⟩ := by
  have e : (ss.map Int.ofNat).map Int.toNat = ss := by
    rw [List.map_map]; exact (List.map_congr_left fun x _ => rfl).trans (List.map_id' ss)
  unfold numL
  rw [e, if_neg (by omega)]

set_option maxHeartbeats 1000000 in
theorem other_calls {g : Nat} {l : List Int} {magic : Int} (HS : Sep w0 w O (tape g l :: L)) (hb : Byt l) (hl : l.length ≤ 140737488355328) (m0 : 0 ≤ magic) (m1 : magic < 4294967296) :
    Calls Try.prog 38 #[.pointer (some ⟨g, 0, none⟩), .int .u32 magic] w fun e w' => e = .returned (.bool (otherB l magic)) ∧ Sep w0 w' O (tape g l :: L) := by
  have HL := (HS.lit #[.int .i64 4] 3 1 1 rfl (by decide)).up1
  by_cases h4 : 4 ≤ l.length
  · have hB : otherB l magic = !(num (l.take 4) == magic) := by
      unfold otherB
      by_cases h : num (l.take 4) = magic
      · rw [decide_eq_false fun e => e.2 h]; simp [h]
      · rw [decide_eq_true ⟨h4, h⟩]; simp [h]
    rw [hB]
    obtain ⟨nn, hnn⟩ : ∃ nn, num (l.take 4) = nn := ⟨_, rfl⟩
    rw [hnn]
    have HNN := hid hnn
    clear hnn hB
    go_enter Try.func38, Try.ntmps38
    go_wp2_with fail
    refine (numbers_any (zs := [4]) HL Rb.i0 (by decide) hb hl).mono ?_
    rintro e w1 ⟨A1, c1, rfl, HS1⟩
    have e1 := numL_ok (b := false) (l := l) (ss := [4]) (by decide) h4
    rw [show [4].map Int.ofNat = [4] from rfl, show cut l [4] = [num (l.take 4)] from rfl, HNN.out] at e1
    rw [e1] at HS1 ⊢
    clear e1
    rw [show ([nn] : List Int).length = 1 from rfl] at HS1 ⊢
    obtain ⟨g1, rfl⟩ := HS1.own_some (by decide)
    have hc := HS1.own_cell (j := 0) (by decide)
    simp only [kv, List.map_cons, List.map_nil, List.getElem?_cons_zero] at hc
    go_wp2
    go_ret
    exact ⟨rfl, HS1.up1.sel 3 [0]⟩
  · have hB : otherB l magic = false := by unfold otherB; exact decide_eq_false fun e => h4 e.1
    rw [hB]
    have e1 := numL_no (b := false) (l := l) (ss := [4]) (by show l.length < 4; omega)
    rw [show [4].map Int.ofNat = [4] from rfl] at e1
    have E1 := hid e1
    clear e1
    go_enter Try.func38, Try.ntmps38
    go_wp2_with fail
    refine (numbers_any (zs := [4]) HL Rb.i0 (by decide) hb hl).mono ?_
    rintro e w1 ⟨A1, c1, rfl, HS1⟩
    rw [E1.out] at HS1 ⊢
    go_wp2
    go_ret
    exact ⟨rfl, HS1.up1.sel 3 [0]⟩
def rqN (l : List Int) (o s : Nat) : Int := num ((l.drop o).take s)
/-- what Take answers, and what is left -/
structure Tk where
  ok : Bool
  err : Int
  fl : Int
  kd : Int
  ck : Int
  off : Int
  len : Int
  d : List Int
  left : List Int
def noTk (err : Int) (l : List Int) : Tk := ⟨false, err, 0, 0, 0, 0, 0, [], l⟩
def rqSize (l : List Int) : Nat := 28 + if rqN l 6 2 = 1 then (rqN l 24 4).toNat else 0
def takeReq (l : List Int) : Tk :=
  if otherB l 627086611 then noTk 33 l
  else if l.length < 28 then noTk 0 l
  else if rqN l 6 2 = 1 ∧ 4096 < rqN l 24 4 then noTk 3 l
  else if l.length < rqSize l then noTk 0 l
  else ⟨true, 0, rqN l 4 2, rqN l 6 2, rqN l 8 8, rqN l 16 8, rqN l 24 4, (l.take (rqSize l)).drop 28, l.drop (rqSize l)⟩
abbrev tkV (t : Tk) (A : Option Addr) (c : Nat) : Value := .tuple #[reqV t.fl t.kd t.ck t.off t.len (.slice A t.d.length c), .bool t.ok, .int .i64 t.err]

set_option maxHeartbeats 1000000 in
theorem reqtake_no1 {g : Nat} {l : List Int} (HS : Sep w0 w O (tape g l :: L)) (hb : Byt l) (hl : l.length ≤ 140737488355328) (h : otherB l 627086611 = true) :
    Calls Try.prog 18 #[.pointer (some ⟨g, 0, none⟩)] w fun e w' => e = .returned (tkV (noTk 33 l) none 0) ∧ Sep w0 w' O (tape g l :: L) := by
  have HSa := HS.alloc #[.int .i64 0, .int .i64 0, .int .u64 0, .int .u64 0, .int .u32 0, .slice none 0 0] 26
  have H := hid h
  clear h
  go_enter Try.func18, Try.ntmps18
  go_wp2_with fail
  refine (other_calls HSa.up1 hb hl (by decide) (by decide)).mono ?_
  rintro e w1 ⟨rfl, HS1⟩
  rw [H.out]
  have c0 := HS1.up1.blk_at 0 rfl
  have c1 := HS1.up1.blk_at 1 rfl
  have c2 := HS1.up1.blk_at 2 rfl
  have c3 := HS1.up1.blk_at 3 rfl
  have c4 := HS1.up1.blk_at 4 rfl
  have c5 := HS1.up1.blk_at 5 rfl
  have f0 := HS1.up1.blk_frozen 0
  have f1 := HS1.up1.blk_frozen 1
  have f2 := HS1.up1.blk_frozen 2
  have f3 := HS1.up1.blk_frozen 3
  have f4 := HS1.up1.blk_frozen 4
  have f5 := HS1.up1.blk_frozen 5
  go_wp2
  have HR := HS1.up1.blk_set6 (.int .i64 0) (.int .i64 0) (.int .u64 0) (.int .u64 0) (.int .u32 0) (.slice none 0 0)
  (try simp only [Exit.inBlock, Exit.then])
  refine bodyPost_ret (results_row2 rfl _ _ _ _ _ _ _ rfl HR.blk_heap Try.underlying26 rfl info_req) rfl ?_
  exact ⟨rfl, HR.drop⟩

theorem Sep.ro_nil (h : Sep w0 w O L) : Sep w0 w O (ro 1 none 0 (by8 []) :: L) := h.emp.imp fun _ _ _ => ⟨rfl, fun h => absurd h (by decide)⟩
theorem bad28 (l : List Int) (h : l.length < 28) : l.length < tot [4, 2, 2, 8, 8, 4] := h
set_option maxHeartbeats 1000000 in
theorem reqtake_no2 {g : Nat} {l : List Int} (HS : Sep w0 w O (tape g l :: L)) (hb : Byt l) (hl : l.length ≤ 140737488355328) (h : otherB l 627086611 = false) (h28 : l.length < 28) :
    Calls Try.prog 18 #[.pointer (some ⟨g, 0, none⟩)] w fun e w' => e = .returned (tkV (noTk 0 l) none 0) ∧ Sep w0 w' O (tape g l :: L) := by
  have HSa := HS.alloc #[.int .i64 0, .int .i64 0, .int .u64 0, .int .u64 0, .int .u32 0, .slice none 0 0] 26
  have H := hid h
  have E1 := hid (numL_no (b := false) (bad28 l h28))
  clear h h28
  go_enter Try.func18, Try.ntmps18
  go_wp2_with fail
  refine (other_calls HSa.up1 hb hl (by decide) (by decide)).mono ?_
  rintro e w1 ⟨rfl, HS1⟩
  rw [H.out]
  go_wp2_with fail
  refine (numbers_any (zs := [4, 2, 2, 8, 8, 4]) (HS1.lit #[.int .i64 4, .int .i64 2, .int .i64 2, .int .i64 8, .int .i64 8, .int .i64 4] 3 1 6 rfl (by decide)).up1 Rb.i0 (by decide) hb hl).mono ?_
  rintro e w2 ⟨A2, c2, rfl, HS2⟩
  rw [show ([4, 2, 2, 8, 8, 4] : List Int) = [4, 2, 2, 8, 8, 4].map Int.ofNat from rfl, E1.out] at HS2 ⊢
  have c0 := HS2.up3.blk_at 0 rfl
  have c1 := HS2.up3.blk_at 1 rfl
  have c2 := HS2.up3.blk_at 2 rfl
  have c3 := HS2.up3.blk_at 3 rfl
  have c4 := HS2.up3.blk_at 4 rfl
  have c5 := HS2.up3.blk_at 5 rfl
  have f0 := HS2.up3.blk_frozen 0
  have f1 := HS2.up3.blk_frozen 1
  have f2 := HS2.up3.blk_frozen 2
  have f3 := HS2.up3.blk_frozen 3
  have f4 := HS2.up3.blk_frozen 4
  have f5 := HS2.up3.blk_frozen 5
  go_wp2
  have HR := HS2.up3.blk_set6 (.int .i64 0) (.int .i64 0) (.int .u64 0) (.int .u64 0) (.int .u32 0) (.slice none 0 0)
  (try simp only [Exit.inBlock, Exit.then])
  refine bodyPost_ret (results_row2 rfl _ _ _ _ _ _ _ rfl HR.blk_heap Try.underlying26 rfl info_req) rfl ?_
  exact ⟨rfl, HR.drop.drop.dn1.drop⟩

theorem cut28 (l : List Int) : cut l [4, 2, 2, 8, 8, 4] = [rqN l 0 4, rqN l 4 2, rqN l 6 2, rqN l 8 8, rqN l 16 8, rqN l 24 4] := by
  simp [cut, rqN, List.drop_drop]
theorem rqN_bd {l : List Int} (hb : Byt l) (o s : Nat) : 0 ≤ rqN l o s ∧ rqN l o s < 256 ^ s := by
  have h := num_bd ((l.drop o).take s) ((hb.drop _).take _)
  refine ⟨h.1, Int.lt_of_lt_of_le h.2 ?_⟩
  have h2 : 256 ^ ((l.drop o).take s).length ≤ 256 ^ s := Nat.pow_le_pow_right (by decide) (by rw [List.length_take]; omega)
  have h3 := Int.ofNat_le.2 h2
  rwa [Int.natCast_pow, Int.natCast_pow] at h3

theorem wrapi {x : Int} (h0 : 0 ≤ x) (h1 : x < 65536) : IntKind.i64.wrap x = x := by
  simp [IntKind.wrap, IntKind.bits, IntKind.signed]; omega
theorem wrap32 {x : Int} (h0 : 0 ≤ x) (h1 : x < 4294967296) : IntKind.u32.wrap x = x := by
  simp [IntKind.wrap, IntKind.bits, IntKind.signed]; omega

theorem Sep.own_cut {e : TypeId} {g n c : Nat} {xs : List Int} (h : Sep w0 w O (own e 1 (some ⟨g, 0, none⟩) n c (by8 xs) :: L)) {k y : Nat} (hk : k + y = n) {A' : Option Addr} (hA : A' = if y = 0 then some ⟨g, 0, none⟩ else some ⟨g, k, none⟩) :
    Sep w0 w O (ro 1 A' y (by8 (xs.drop k)) :: L) := by
  have hl : xs.length = n := h.klen
  refine h.imp fun hp F p => ?_
  have hr := own_gives _ _ _ _ _ _ hp F p
  refine ⟨by simp [kv, hl]; omega, fun hy => ?_⟩
  obtain ⟨ad, ha, hF, hc⟩ := hr.2 (by omega)
  injection ha with ha
  subst ha
  refine ⟨⟨g, k, none⟩, by rw [hA, if_neg (by omega)], hF, fun j u hu => ?_⟩
  have e1 : (⟨g, k, none⟩ : Addr) = (⟨g, 0, none⟩ : Addr).add k := (add_at g k).symm
  rw [e1, add_add]
  refine hc (k + j) u ?_
  rw [← hu, ← by8_drop, List.getElem?_drop]

set_option maxHeartbeats 1000000 in
theorem reqtake_28 {g : Nat} {l : List Int} (HS : Sep w0 w O (tape g l :: L)) (hb : Byt l) (hl : l.length ≤ 140737488355328) (h : otherB l 627086611 = false) (h28 : 28 ≤ l.length) :
    Calls Try.prog 18 #[.pointer (some ⟨g, 0, none⟩)] w fun e w' => ∃ A' c', e = .returned (tkV (takeReq l) A' c') ∧ Sep w0 w' O (ro 1 A' (takeReq l).d.length (by8 (takeReq l).d) :: tape g (takeReq l).left :: L) := by
  have HSa := HS.alloc #[.int .i64 0, .int .i64 0, .int .u64 0, .int .u64 0, .int .u32 0, .slice none 0 0] 26
  have H := hid h
  have E1 := numL_ok (b := false) (l := l) (ss := [4, 2, 2, 8, 8, 4]) (by decide) h28
  have hT : takeReq l = if rqN l 6 2 = 1 ∧ 4096 < rqN l 24 4 then noTk 3 l else if l.length < rqSize l then noTk 0 l else ⟨true, 0, rqN l 4 2, rqN l 6 2, rqN l 8 8, rqN l 16 8, rqN l 24 4, (l.take (rqSize l)).drop 28, l.drop (rqSize l)⟩ := by
    unfold takeReq; rw [h, if_neg (by decide), if_neg (by omega)]
  have hsize : rqSize l = 28 + if rqN l 6 2 = 1 then (rqN l 24 4).toNat else 0 := rfl
  rw [cut28] at E1
  have d1 := rqN_bd hb 4 2
  have d2 := rqN_bd hb 6 2
  have d3 := rqN_bd hb 8 8
  have d4 := rqN_bd hb 16 8
  have d5 := rqN_bd hb 24 4
  generalize rqN l 0 4 = x0 at *
  generalize rqN l 4 2 = x1 at *
  generalize rqN l 6 2 = x2 at *
  generalize rqN l 8 8 = x3 at *
  generalize rqN l 16 8 = x4 at *
  generalize rqN l 24 4 = x5 at *
  generalize rqSize l = sz at *
  have E2 := hid E1
  have HT := hid hT
  have HZ := hid hsize
  clear h h28 E1 hT hsize
  simp only [show (256 : Int) ^ 2 = 65536 from rfl, show (256 : Int) ^ 8 = 18446744073709551616 from rfl, show (256 : Int) ^ 4 = 4294967296 from rfl] at d1 d2 d3 d4 d5
  go_enter Try.func18, Try.ntmps18
  go_wp2_with fail
  refine (other_calls HSa.up1 hb hl (by decide) (by decide)).mono ?_
  rintro e w1 ⟨rfl, HS1⟩
  rw [H.out]
  go_wp2_with fail
  refine (numbers_any (zs := [4, 2, 2, 8, 8, 4]) (HS1.lit #[.int .i64 4, .int .i64 2, .int .i64 2, .int .i64 8, .int .i64 8, .int .i64 4] 3 1 6 rfl (by decide)).up1 Rb.i0 (by decide) hb hl).mono ?_
  rintro e w2 ⟨A2, cc, rfl, HS2⟩
  rw [show ([4, 2, 2, 8, 8, 4] : List Int) = [4, 2, 2, 8, 8, 4].map Int.ofNat from rfl, E2.out] at HS2 ⊢
  rw [show ([x0, x1, x2, x3, x4, x5] : List Int).length = 6 from rfl] at HS2 ⊢
  obtain ⟨g2, rfl⟩ := HS2.own_some (by decide)
  have n1 := HS2.kcell (j := 1) (by simp) rfl
  have n2 := HS2.kcell (j := 2) (by simp) rfl
  have n3 := HS2.kcell (j := 3) (by simp) rfl
  have n4 := HS2.kcell (j := 4) (by simp) rfl
  have n5 := HS2.kcell (j := 5) (by simp) rfl
  simp only [List.getElem_cons_succ, List.getElem_cons_zero] at n1 n2 n3 n4 n5
  have m1 := World.new_ne w2 _ n1
  have HS2' : Sep w0 w2 O (tape g l :: blk w.heap.size 26 #[.int .i64 0, .int .i64 0, .int .u64 0, .int .u64 0, .int .u32 0, .slice none 0 0] :: L) := HS2.sel 4 [1, 3]
  clear HS HSa HS1 HS2
  go_wp2_with fail
  go_region_held3 (fun w' => w'.cell? ⟨g2, 1, none⟩ = some (.int .u64 x1) ∧ w'.cell? ⟨g2, 2, none⟩ = some (.int .u64 x2) ∧ w'.cell? ⟨g2, 3, none⟩ = some (.int .u64 x3) ∧ w'.cell? ⟨g2, 4, none⟩ = some (.int .u64 x4) ∧ w'.cell? ⟨g2, 5, none⟩ = some (.int .u64 x5)) (go_keep) (fail)
  rw [wrapi d1.1 d1.2, wrapi d2.1 d2.2, wrap32 d5.1 d5.2]
  clear n1 n2 n3 n4 n5 m1
  have HS3 := (HS2'.alloc #[.int .i64 x1, .int .i64 x2, .int .u64 x3, .int .u64 x4, .int .u32 x5, .slice none 0 0] 26).drew
  clear HS2'
  obtain ⟨w3, hw3⟩ : ∃ w3, w3 = (w2.alloc (.cells #[.int .i64 x1, .int .i64 x2, .int .u64 x3, .int .u64 x4, .int .u32 x5, .slice none 0 0] 26)).drew := ⟨_, rfl⟩
  rw [← hw3] at HS3 ⊢
  clear hw3
  have p1 := HS3.blk_at 1 rfl
  have p4 := HS3.blk_at 4 rfl
  generalize w2.heap.size = g7 at *
  have c0 := HS3.up2.blk_at 0 rfl
  have c1 := HS3.up2.blk_at 1 rfl
  have c2' := HS3.up2.blk_at 2 rfl
  have c3 := HS3.up2.blk_at 3 rfl
  have c4 := HS3.up2.blk_at 4 rfl
  have c5 := HS3.up2.blk_at 5 rfl
  have f0 := HS3.up2.blk_frozen 0
  have f1 := HS3.up2.blk_frozen 1
  have f2 := HS3.up2.blk_frozen 2
  have f3 := HS3.up2.blk_frozen 3
  have f4 := HS3.up2.blk_frozen 4
  have f5 := HS3.up2.blk_frozen 5
  by_cases h3 : x2 = 1
  · subst h3
    by_cases h4 : 4096 < x5
    · have e3 : takeReq l = noTk 3 l := by rw [HT.out, if_pos ⟨rfl, h4⟩]
      have E3 := hid e3
      clear e3
      go_wp2
      have HR := HS3.up2.blk_set6 (.int .i64 0) (.int .i64 0) (.int .u64 0) (.int .u64 0) (.int .u32 0) (.slice none 0 0)
      (try simp only [Exit.inBlock, Exit.then])
      refine bodyPost_ret (results_row2 rfl _ _ _ _ _ _ _ rfl HR.blk_heap Try.underlying26 rfl info_req) rfl ?_
      rw [E3.out]
      first | exact ⟨none, 0, rfl, HR.drop.drop.ro_nil⟩ | exact ⟨none, ⟨0, rfl⟩, HR.drop.drop.ro_nil⟩
    · obtain ⟨y, rfl⟩ := Int.eq_ofNat_of_zero_le d5.1
      have z1 : sz = 28 + y := HZ.out
      by_cases h5 : l.length < sz
      · have e3 : takeReq l = noTk 0 l := by rw [HT.out, if_neg (fun e => h4 e.2), if_pos h5]
        have E3 := hid e3
        clear e3
        go_wp2_with fail
        refine (take_no (n := (28 + (y : Int))) HS3.up1 (by omega)).mono ?_
        rintro e w5 ⟨rfl, rfl⟩
        go_wp2
        have HR := HS3.up2.blk_set6 (.int .i64 0) (.int .i64 0) (.int .u64 0) (.int .u64 0) (.int .u32 0) (.slice none 0 0)
        (try simp only [Exit.inBlock, Exit.then])
        refine bodyPost_ret (results_row2 rfl _ _ _ _ _ _ _ rfl HR.blk_heap Try.underlying26 rfl info_req) rfl ?_
        rw [E3.out]
        first | exact ⟨none, 0, rfl, HR.drop.drop.ro_nil⟩ | exact ⟨none, ⟨0, rfl⟩, HR.drop.drop.ro_nil⟩
      · have e3 : takeReq l = ⟨true, 0, x1, 1, x3, x4, (y : Int), (l.take sz).drop 28, l.drop sz⟩ := by rw [HT.out, if_neg (fun e => h4 e.2), if_neg h5]
        have E3 := hid e3
        clear e3
        go_wp2_with fail
        rw [show (28 + (y : Int)) = ((sz : Nat) : Int) by omega]
        refine (take_yes (n := sz) HS3.up1 (by omega) hl).mono ?_
        rintro e w5 ⟨A5, k5, rfl, HS5⟩
        clear HS3 c0 c1 c2' c3 c4 c5 f0 f1 f2 f3 f4 f5
        obtain ⟨g5, rfl⟩ := HS5.own_some (by omega)
        have hle := own_le HS5
        have c0 := HS5.up3.blk_at 0 rfl
        have c1 := HS5.up3.blk_at 1 rfl
        have c2' := HS5.up3.blk_at 2 rfl
        have c3 := HS5.up3.blk_at 3 rfl
        have c4 := HS5.up3.blk_at 4 rfl
        have c5 := HS5.up3.blk_at 5 rfl
        have f0 := HS5.up3.blk_frozen 0
        have f1 := HS5.up3.blk_frozen 1
        have f2 := HS5.up3.blk_frozen 2
        have f3 := HS5.up3.blk_frozen 3
        have f4 := HS5.up3.blk_frozen 4
        have f5 := HS5.up3.blk_frozen 5
        have b0 := HS5.up2.blk_at 0 rfl
        have b1 := HS5.up2.blk_at 1 rfl
        have b2 := HS5.up2.blk_at 2 rfl
        have b3 := HS5.up2.blk_at 3 rfl
        have b4 := HS5.up2.blk_at 4 rfl
        have b5 := HS5.up2.blk_at 5 rfl
        have b5' := HS5.up2.blk_frozen 5
        go_upto_region 16 with (fail)
        obtain ⟨DS, hDS⟩ : ∃ A' : Option Addr, A' = (if y = 0 then some ⟨g5, 0, none⟩ else some ⟨g5, 28, none⟩) := ⟨_, rfl⟩
        rw [← hDS]
        have HS6 : Sep w0 (w5.setCell ⟨g7, 5, none⟩ (.slice DS y y)) O (blk g7 26 #[.int .i64 x1, .int .i64 1, .int .u64 x3, .int .u64 x4, .int .u32 y, .slice DS y y] :: own 5 1 (some ⟨g5, 0, none⟩) sz k5 (by8 (l.take sz)) :: tape g (l.drop sz) :: blk w.heap.size 26 #[.int .i64 0, .int .i64 0, .int .u64 0, .int .u64 0, .int .u32 0, .slice none 0 0] :: L) := by simpa using HS5.up2.blk_set 5 (.slice DS y y)
        obtain ⟨w6, hw6⟩ : ∃ w6, w6 = w5.setCell ⟨g7, 5, none⟩ (.slice DS y y) := ⟨_, rfl⟩
        rw [← hw6] at HS6 ⊢
        clear hw6 HS5 c0 c1 c2' c3 c4 c5 f0 f1 f2 f3 f4 f5 b0 b1 b2 b3 b4 b5 b5'
        have HD := hid hDS
        clear hDS
        have b0 := HS6.blk_at 0 rfl
        have b1 := HS6.blk_at 1 rfl
        have b2 := HS6.blk_at 2 rfl
        have b3 := HS6.blk_at 3 rfl
        have b4 := HS6.blk_at 4 rfl
        have b5 := HS6.blk_at 5 rfl
        have c0 := HS6.up3.blk_at 0 rfl
        have c1 := HS6.up3.blk_at 1 rfl
        have c2' := HS6.up3.blk_at 2 rfl
        have c3 := HS6.up3.blk_at 3 rfl
        have c4 := HS6.up3.blk_at 4 rfl
        have c5 := HS6.up3.blk_at 5 rfl
        have f0 := HS6.up3.blk_frozen 0
        have f1 := HS6.up3.blk_frozen 1
        have f2 := HS6.up3.blk_frozen 2
        have f3 := HS6.up3.blk_frozen 3
        have f4 := HS6.up3.blk_frozen 4
        have f5 := HS6.up3.blk_frozen 5
        go_wp2
        all_goals
          have HR := HS6.up3.blk_set6 (.int .i64 x1) (.int .i64 1) (.int .u64 x3) (.int .u64 x4) (.int .u32 y) (.slice DS y y)
          (try simp only [Exit.inBlock, Exit.then])
          refine bodyPost_ret (results_row2 rfl _ _ _ _ _ _ _ rfl HR.blk_heap Try.underlying26 rfl info_req) rfl ?_
          have HF := (HR.sel 3 [2]).own_cut (k := 28) (y := y) (by omega) HD.out
          have hdl : ((l.take sz).drop 28).length = y := by rw [List.length_drop, List.length_take]; omega
          rw [E3.out]
          refine ⟨DS, ⟨y, ?_⟩, ?_⟩
          · show _ = Ending.returned (.tuple #[reqV x1 1 x3 x4 (y : Int) (.slice DS ((l.take sz).drop 28).length y), .bool true, .int .i64 0])
            rw [hdl]
            rfl
          · show Sep w0 _ O (ro 1 DS ((l.take sz).drop 28).length (by8 ((l.take sz).drop 28)) :: tape g (l.drop sz) :: L)
            rw [hdl]
            exact HF
  · have r1 : (x2 == 1) = false := beq_eq_false_iff_ne.2 h3
    have z1 : sz = 28 := by rw [HZ.out, if_neg h3]
    by_cases h5 : l.length < sz
    · have e3 : takeReq l = noTk 0 l := by rw [HT.out, if_neg (fun e => h3 e.1), if_pos h5]
      have E3 := hid e3
      clear e3 h3
      go_wp2_with fail
      refine (take_no (n := (28 : Int)) HS3.up1 (by omega)).mono ?_
      rintro e w5 ⟨rfl, rfl⟩
      go_wp2
      have HR := HS3.up2.blk_set6 (.int .i64 0) (.int .i64 0) (.int .u64 0) (.int .u64 0) (.int .u32 0) (.slice none 0 0)
      (try simp only [Exit.inBlock, Exit.then])
      refine bodyPost_ret (results_row2 rfl _ _ _ _ _ _ _ rfl HR.blk_heap Try.underlying26 rfl info_req) rfl ?_
      rw [E3.out]
      first | exact ⟨none, 0, rfl, HR.drop.drop.ro_nil⟩ | exact ⟨none, ⟨0, rfl⟩, HR.drop.drop.ro_nil⟩
    · have e3 : takeReq l = ⟨true, 0, x1, x2, x3, x4, x5, (l.take sz).drop 28, l.drop sz⟩ := by rw [HT.out, if_neg (fun e => h3 e.1), if_neg h5]
      have E3 := hid e3
      clear e3 h3
      go_wp2_with fail
      rw [show (28 : Int) = ((sz : Nat) : Int) by omega]
      refine (take_yes (n := sz) HS3.up1 (by omega) hl).mono ?_
      rintro e w5 ⟨A5, k5, rfl, HS5⟩
      clear HS3 c0 c1 c2' c3 c4 c5 f0 f1 f2 f3 f4 f5
      obtain ⟨g5, rfl⟩ := HS5.own_some (by omega)
      have hle := own_le HS5
      have c0 := HS5.up3.blk_at 0 rfl
      have c1 := HS5.up3.blk_at 1 rfl
      have c2' := HS5.up3.blk_at 2 rfl
      have c3 := HS5.up3.blk_at 3 rfl
      have c4 := HS5.up3.blk_at 4 rfl
      have c5 := HS5.up3.blk_at 5 rfl
      have f0 := HS5.up3.blk_frozen 0
      have f1 := HS5.up3.blk_frozen 1
      have f2 := HS5.up3.blk_frozen 2
      have f3 := HS5.up3.blk_frozen 3
      have f4 := HS5.up3.blk_frozen 4
      have f5 := HS5.up3.blk_frozen 5
      have b0 := HS5.up2.blk_at 0 rfl
      have b1 := HS5.up2.blk_at 1 rfl
      have b2 := HS5.up2.blk_at 2 rfl
      have b3 := HS5.up2.blk_at 3 rfl
      have b4 := HS5.up2.blk_at 4 rfl
      have b5 := HS5.up2.blk_at 5 rfl
      have b5' := HS5.up2.blk_frozen 5
      go_upto_region 16 with (fail)
      obtain ⟨DS, hDS⟩ : ∃ A' : Option Addr, A' = some ⟨g5, 0, none⟩ := ⟨_, rfl⟩
      rw [← hDS]
      have HS6 : Sep w0 (w5.setCell ⟨g7, 5, none⟩ (.slice DS 0 0)) O (blk g7 26 #[.int .i64 x1, .int .i64 x2, .int .u64 x3, .int .u64 x4, .int .u32 x5, .slice DS 0 0] :: own 5 1 (some ⟨g5, 0, none⟩) sz k5 (by8 (l.take sz)) :: tape g (l.drop sz) :: blk w.heap.size 26 #[.int .i64 0, .int .i64 0, .int .u64 0, .int .u64 0, .int .u32 0, .slice none 0 0] :: L) := by simpa using HS5.up2.blk_set 5 (.slice DS 0 0)
      obtain ⟨w6, hw6⟩ : ∃ w6, w6 = w5.setCell ⟨g7, 5, none⟩ (.slice DS 0 0) := ⟨_, rfl⟩
      rw [← hw6] at HS6 ⊢
      clear hw6 HS5 c0 c1 c2' c3 c4 c5 f0 f1 f2 f3 f4 f5 b0 b1 b2 b3 b4 b5 b5'
      have HD := hid hDS
      clear hDS
      have b0 := HS6.blk_at 0 rfl
      have b1 := HS6.blk_at 1 rfl
      have b2 := HS6.blk_at 2 rfl
      have b3 := HS6.blk_at 3 rfl
      have b4 := HS6.blk_at 4 rfl
      have b5 := HS6.blk_at 5 rfl
      have c0 := HS6.up3.blk_at 0 rfl
      have c1 := HS6.up3.blk_at 1 rfl
      have c2' := HS6.up3.blk_at 2 rfl
      have c3 := HS6.up3.blk_at 3 rfl
      have c4 := HS6.up3.blk_at 4 rfl
      have c5 := HS6.up3.blk_at 5 rfl
      have f0 := HS6.up3.blk_frozen 0
      have f1 := HS6.up3.blk_frozen 1
      have f2 := HS6.up3.blk_frozen 2
      have f3 := HS6.up3.blk_frozen 3
      have f4 := HS6.up3.blk_frozen 4
      have f5 := HS6.up3.blk_frozen 5
      go_wp2
      all_goals
        have HR := HS6.up3.blk_set6 (.int .i64 x1) (.int .i64 x2) (.int .u64 x3) (.int .u64 x4) (.int .u32 x5) (.slice DS 0 0)
        (try simp only [Exit.inBlock, Exit.then])
        refine bodyPost_ret (results_row2 rfl _ _ _ _ _ _ _ rfl HR.blk_heap Try.underlying26 rfl info_req) rfl ?_
        have HF := (HR.sel 3 [2]).own_cut (A' := DS) (k := 28) (y := 0) (by omega) (by rw [HD.out, if_pos rfl])
        have hdl : ((l.take sz).drop 28).length = 0 := by rw [List.length_drop, List.length_take]; omega
        rw [E3.out]
        first | refine ⟨DS, 0, ?_, ?_⟩ | refine ⟨DS, ⟨0, ?_⟩, ?_⟩
        · show _ = Ending.returned (.tuple #[reqV x1 x2 x3 x4 x5 (.slice DS ((l.take sz).drop 28).length 0), .bool true, .int .i64 0])
          rw [hdl]
          rfl
        · show Sep w0 _ O (ro 1 DS ((l.take sz).drop 28).length (by8 ((l.take sz).drop 28)) :: tape g (l.drop sz) :: L)
          rw [hdl]
          exact HF

/-- Take, whatever is on the tape -/
theorem reqtake_calls {g : Nat} {l : List Int} (HS : Sep w0 w O (tape g l :: L)) (hb : Byt l) (hl : l.length ≤ 140737488355328) :
    Calls Try.prog 18 #[.pointer (some ⟨g, 0, none⟩)] w fun e w' => ∃ A' c', e = .returned (tkV (takeReq l) A' c') ∧ Sep w0 w' O (ro 1 A' (takeReq l).d.length (by8 (takeReq l).d) :: tape g (takeReq l).left :: L) := by
  cases h : otherB l 627086611
  · by_cases h28 : l.length < 28
    · have e : takeReq l = noTk 0 l := by unfold takeReq; rw [h, if_neg (by decide), if_pos h28]
      rw [e]
      refine (reqtake_no2 HS hb hl h h28).mono ?_
      rintro e w' ⟨rfl, HS'⟩
      exact ⟨none, 0, rfl, HS'.ro_nil⟩
    · exact reqtake_28 HS hb hl h (by omega)
  · have e : takeReq l = noTk 33 l := by unfold takeReq; rw [h, if_pos rfl]
    rw [e]
    refine (reqtake_no1 HS hb hl h).mono ?_
    rintro e w' ⟨rfl, HS'⟩
    exact ⟨none, 0, rfl, HS'.ro_nil⟩
end
end Go.Proofs.Ytbfcnbggkcaolaa
