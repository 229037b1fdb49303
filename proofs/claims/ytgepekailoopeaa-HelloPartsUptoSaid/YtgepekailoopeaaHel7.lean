/-
  Contracts of hello.long, Raw.name, Raw.none.
-/
import Derived.Test.YtgepekailoopeaaHel6
namespace Go.Proofs.Ytgepekailoopeaa
open Go.RowKit
set_option linter.unusedVariables false
set_option linter.unusedSimpArgs false
theorem results_rowa {P : Program} {fn : Func} {p q : Tmp} {ty : TypeId} (h : fn.results = #[.cell p ty, .tmp q]) (tmps : Array Value) (w : World) (g : Nat) (t : TypeId) (cs : Array Value) (fr : Nat × Nat) (d : TypeDesc)
    (hp : tmps.getD p undef = .pointer (some ⟨g, 0, none⟩)) (hg : w.heap[g]? = some (.cells cs t fr))
    (hu : P.underlying ty = some d) (hd : (match d with | .struct _ | .array _ _ => true | _ => false) = true) (hi : (P.info? ty).map (·.size) = some cs.size) :
    (results fn tmps).run P w = .ok (.tuple #[.agg cs, tmps.getD q undef]) w := by
  have hp' : tmps[p]?.getD undef = .pointer (some ⟨g, 0, none⟩) := by simpa using hp
  simp [results, h, hp', asAddr, run_loadVar_row w g t ty cs fr d hg hu hd hi]
theorem info_hwish : (Try.prog.info? 66).map (·.size) = some 3 := by kernel_rfl
abbrev eStr : ByteArray := { data := #[] }
abbrev zWish : Array Value := #[.int .u32 0, .string eStr, .slice none 0 0]
section
variable {w0 w : World} {O : Nat → Prop} {L : List Asr}
theorem Sep.allocB (h : Sep w0 w O L) (cs : Array Value) (t : TypeId) {B : Nat} (hB : w.heap.size = B) : Sep w0 (w.alloc (.cells cs t)) O (blk B t cs :: L) := by
  subst hB; exact h.alloc cs t

set_option maxHeartbeats 2000000 in
set_option maxRecDepth 100000 in
theorem long_no {g : Nat} {l : List Int} (HS : Sep w0 w O (Go.Proofs.Ytgepekailoopeaa.tape g l :: L)) (hb : Byt l) (hl : l.length ≤ 140737488355328) (h : l.length < 4 ∨ (l.length : Int) - 4 < fN l 0 4) :
    Calls Try.prog 79 #[.pointer (some ⟨g, 0, none⟩)] w fun e w' => e = .returned (.tuple #[.slice none 0 0, .bool false]) ∧ Sep w0 w' O L := by
  have HL := (HS.lit #[.int .i64 4] 3 1 1 rfl (by decide)).up1
  by_cases h4 : l.length < 4
  · have e1 := numL_no (b := true) (l := l) (ss := [4]) (by show l.length < 4; omega)
    rw [show [4].map Int.ofNat = [4] from rfl] at e1
    have E1 := hid e1
    clear e1
    go_enter Try.func79, Try.ntmps79
    go_wp2_with fail
    refine (numbers_any (zs := [4]) HL Rb.i0 (by decide) hb hl).mono ?_
    rintro e w3 ⟨A1, c1, rfl, HS3⟩
    rw [E1.out] at HS3 ⊢
    dsimp only at HS3 ⊢
    have HS4 := HS3.drop.drop.drop
    go_upto_region 2 with (fail)
    go_quiet (fail)
    go_wp2
    go_ret2
    exact ⟨rfl, HS4.drewN nq⟩
  · have hx : (l.length : Int) - 4 < fN l 0 4 := by omega
    have e1 := numL_ok (b := true) (l := l) (ss := [4]) (by decide) (by show 4 ≤ l.length; omega)
    have b2 := fN_bd hb 0 4
    simp only [show (256 : Int) ^ 4 = 4294967296 from rfl] at b2
    rw [show [4].map Int.ofNat = [4] from rfl, show cut l [4] = [fN l 0 4] by simp [cut, fN]] at e1
    generalize fN l 0 4 = x at *
    have hdl : ((l.drop 4).length : Int) < x := by rw [List.length_drop]; omega
    have hdl2 : ((l.drop 4).length : Int) ≤ 140737488355328 := by rw [List.length_drop]; omega
    have e2 : tot [4] = 4 := rfl
    rw [e2, if_pos rfl] at e1
    obtain ⟨r, hr⟩ : ∃ r, l.drop 4 = r := ⟨_, rfl⟩
    rw [hr] at e1 hdl hdl2
    have E1 := hid e1
    have y1 : IntKind.u64.wrap (r.length : Int) = r.length := by rw [IntKind.wrap_u64]; omega
    clear e1 hr h e2
    go_enter Try.func79, Try.ntmps79
    go_wp2_with fail
    refine (numbers_any (zs := [4]) HL Rb.i0 (by decide) hb hl).mono ?_
    rintro e w3 ⟨A1, c1, rfl, HS3⟩
    rw [E1.out] at HS3 ⊢
    dsimp only at HS3 ⊢
    rw [show ([x] : List Int).length = 1 from rfl] at HS3 ⊢
    obtain ⟨g1, rfl⟩ := HS3.own_some (by decide)
    have hc : w3.cell? ⟨g1, 0, none⟩ = some (.int .u64 x) := HS3.kcell (j := 0) (by simp) rfl
    go_upto_region 2 with (fail)
    go_quiet (first | (go_at_call 22; exact Calls.quiet_of_same (Calls.quiet_at (len_calls (HS3.up1.drewN _)) (by with_reducible rfl))))
    go_wp2
    go_ret2
    exact ⟨rfl, HS3.drop.drop.drop.drewN nq⟩

set_option maxHeartbeats 2000000 in
set_option maxRecDepth 100000 in
theorem long_ok {g x : Nat} {l : List Int} (HS : Sep w0 w O (Go.Proofs.Ytgepekailoopeaa.tape g l :: L)) (hb : Byt l) (hl : l.length ≤ 140737488355328) (hx : fN l 0 4 = x) (h : 4 + x ≤ l.length) :
    Calls Try.prog 79 #[.pointer (some ⟨g, 0, none⟩)] w fun e w' => ∃ A c, e = .returned (.tuple #[.slice A x c, .bool true]) ∧ Sep w0 w' O (own 5 1 A x c (by8 ((l.drop 4).take x)) :: Go.Proofs.Ytgepekailoopeaa.tape g (l.drop (4 + x)) :: L) := by
  have HL := (HS.lit #[.int .i64 4] 3 1 1 rfl (by decide)).up1
  have e1 := numL_ok (b := true) (l := l) (ss := [4]) (by decide) (by show 4 ≤ l.length; omega)
  rw [show [4].map Int.ofNat = [4] from rfl, show cut l [4] = [fN l 0 4] by simp [cut, fN], hx] at e1
  have hdl : ¬ (((l.drop 4).length : Int) < x) := by rw [List.length_drop]; omega
  have hdl2 : (l.drop 4).length ≤ 140737488355328 := by rw [List.length_drop]; omega
  have e2 : tot [4] = 4 := rfl
  rw [e2, if_pos rfl] at e1
  rw [← List.drop_drop]
  obtain ⟨r, hr⟩ : ∃ r, l.drop 4 = r := ⟨_, rfl⟩
  rw [hr] at e1 hdl hdl2 ⊢
  have E1 := hid e1
  have y1 : IntKind.u64.wrap (r.length : Int) = r.length := by rw [IntKind.wrap_u64]; omega
  have y2 : IntKind.i64.wrap (x : Int) = x := by rw [IntKind.wrap_i64]; omega
  have hak : askL true r (x : Int) = ⟨true, r.take x, r.drop x⟩ := by unfold askL; rw [if_pos (by omega), Int.toNat_natCast]; rfl
  have hlt : (r.take x).length = x := by rw [List.length_take]; omega
  have HK := hid hak
  have HLT := hid hlt
  clear e1 hr hx e2 hak hlt
  go_enter Try.func79, Try.ntmps79
  go_wp2_with fail
  refine (numbers_any (zs := [4]) HL Rb.i0 (by decide) hb hl).mono ?_
  rintro e w3 ⟨A1, c1, rfl, HS3⟩
  rw [E1.out] at HS3 ⊢
  dsimp only at HS3 ⊢
  rw [show ([(x : Int)] : List Int).length = 1 from rfl] at HS3 ⊢
  obtain ⟨g1, rfl⟩ := HS3.own_some (by decide)
  have hc : w3.cell? ⟨g1, 0, none⟩ = some (.int .u64 x) := HS3.kcell (j := 0) (by simp) rfl
  go_upto_region 2 with (fail)
  go_quiet (first | (go_at_call 22; exact Calls.quiet_of_same (Calls.quiet_at (len_calls (HS3.up1.drewN _)) (by with_reducible rfl))))
  have HS4 := HS3.up1.drewN nq
  go_wp2_with fail
  refine (take_any (m := (x : Int)) HS4 hdl2).mono ?_
  rintro e w5 ⟨A5, c5, rfl, HS5⟩
  rw [HK.out] at HS5 ⊢
  dsimp only at HS5 ⊢
  rw [HLT.out] at HS5 ⊢
  go_wp2
  go_ret2
  exact ⟨A5, c5, rfl, HS5.sel 4 [0, 1]⟩

set_option maxHeartbeats 2000000 in
set_option maxRecDepth 100000 in
theorem name_calls {op : Int} {A : Option Addr} {n c : Nat} {d : List Int} (HS : Sep w0 w O L) (hr : Rb w0 O L 1 A n (by8 d)) :
    Calls Try.prog 87 #[.agg #[.int .u32 op, .slice A n c]] w fun e w' => e = .returned (if 16 < d.length then .tuple #[.agg zWish, .int .i64 3] else .tuple #[.agg #[.int .u32 op, .string (strOfNums d), .slice none 0 0], .int .i64 0]) ∧ Sep w0 w' O L := by
  have hn := hr.klen HS
  have HSa := (HS.alloc #[.int .u32 op, .slice A n c] 31).allocB zWish 66 (B := w.heap.size + 1) (by simp)
  by_cases h : 16 < n
  · have i1 : (16 : Int) < n := by omega
    rw [if_pos (by omega)]
    clear h hn
    go_enter Try.func87, Try.ntmps87
    go_wp2
    (try simp only [Exit.inBlock, Exit.then])
    refine bodyPost_ret (results_rowa rfl _ _ _ _ _ _ _ rfl HSa.blk_heap Try.underlying66 rfl info_hwish) rfl ?_
    exact ⟨rfl, HSa.drop.drop⟩
  · have i1 : ¬ (16 : Int) < n := by omega
    rw [if_neg (by omega)]
    have hs := run_str (P := Try.prog) (c := c) (hr.cons.cons.read HSa) 23 9 5 Try.underlying23 Try.underlying5 Try.underlying9
    generalize strOfNums d = s at *
    have HR := (HS.alloc #[.int .u32 op, .slice A n c] 31).allocB #[.int .u32 op, .string s, .slice none 0 0] 66 (B := w.heap.size + 1) (by simp)
    clear h hn
    go_enter Try.func87, Try.ntmps87
    go_wp2
    (try simp only [Exit.inBlock, Exit.then])
    refine bodyPost_ret (results_rowa rfl _ _ _ _ _ _ _ rfl HR.blk_heap Try.underlying66 rfl info_hwish) rfl ?_
    exact ⟨rfl, HR.drop.drop⟩

set_option maxHeartbeats 2000000 in
set_option maxRecDepth 100000 in
theorem none_calls {op : Int} {A : Option Addr} {n c : Nat} {d : List Int} (HS : Sep w0 w O L) (hr : Rb w0 O L 1 A n (by8 d)) :
    Calls Try.prog 88 #[.agg #[.int .u32 op, .slice A n c]] w fun e w' => e = .returned (if 0 < d.length then .tuple #[.agg zWish, .int .i64 5] else .tuple #[.agg #[.int .u32 op, .string eStr, .slice none 0 0], .int .i64 0]) ∧ Sep w0 w' O L := by
  have hn := hr.klen HS
  have HSa := (HS.alloc #[.int .u32 op, .slice A n c] 31).allocB zWish 66 (B := w.heap.size + 1) (by simp)
  by_cases h : 0 < n
  · have i1 : (0 : Int) < n := by omega
    rw [if_pos (by omega)]
    clear h hn
    go_enter Try.func88, Try.ntmps88
    go_wp2
    (try simp only [Exit.inBlock, Exit.then])
    refine bodyPost_ret (results_rowa rfl _ _ _ _ _ _ _ rfl HSa.blk_heap Try.underlying66 rfl info_hwish) rfl ?_
    exact ⟨rfl, HSa.drop.drop⟩
  · have i1 : ¬ (0 : Int) < n := by omega
    rw [if_neg (by omega)]
    have HR := (HS.alloc #[.int .u32 op, .slice A n c] 31).allocB #[.int .u32 op, .string eStr, .slice none 0 0] 66 (B := w.heap.size + 1) (by simp)
    clear h hn
    go_enter Try.func88, Try.ntmps88
    go_wp2
    (try simp only [Exit.inBlock, Exit.then])
    refine bodyPost_ret (results_rowa rfl _ _ _ _ _ _ _ rfl HR.blk_heap Try.underlying66 rfl info_hwish) rfl ?_
    exact ⟨rfl, HR.drop.drop⟩
end
end Go.Proofs.Ytgepekailoopeaa
