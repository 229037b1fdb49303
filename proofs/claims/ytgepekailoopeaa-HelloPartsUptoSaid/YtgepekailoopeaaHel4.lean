/-
  Contracts of hello.take, Take, TakeReply.
-/
import Derived.Test.YtgepekailoopeaaHel3
namespace Go.Proofs.Ytgepekailoopeaa
open Go.RowKit
set_option linter.unusedVariables false
set_option linter.unusedSimpArgs false
/-- how many bytes are gone: what has so long a head, behind a magic -/
def hlN (l : List Int) (magic : Int) (hd : Nat) : Nat :=
  if otherAt l 0 magic then 0 else if l.length < hd then 0 else if 256 < fN l (hd - 4) 4 then 0 else if l.length < hd + (fN l (hd - 4) 4).toNat then 0 else hd + (fN l (hd - 4) 4).toNat
def hlE (l : List Int) (magic : Int) (hd : Nat) : Int :=
  if otherAt l 0 magic then 33 else if l.length < hd then 0 else if 256 < fN l (hd - 4) 4 then 3 else 0
theorem hl_cases {l : List Int} (hb : Byt l) (magic : Int) {hd : Nat} (h4 : 4 ≤ hd) : (hlN l magic hd = 0 ∧ (otherAt l 0 magic = true ∧ hlE l magic hd = 33 ∨ otherAt l 0 magic = false ∧ (l.length < hd ∧ hlE l magic hd = 0 ∨ hd ≤ l.length ∧ ∃ x : Nat, fN l (hd - 4) 4 = x ∧ (256 < x ∧ hlE l magic hd = 3 ∨ x ≤ 256 ∧ l.length < hd + x ∧ hlE l magic hd = 0)))) ∨
    (otherAt l 0 magic = false ∧ hlE l magic hd = 0 ∧ ∃ x : Nat, fN l (hd - 4) 4 = x ∧ x ≤ 256 ∧ hd + x ≤ l.length ∧ hlN l magic hd = hd + x) := by
  cases h1 : otherAt l 0 magic
  · by_cases h2 : l.length < hd
    · exact .inl ⟨by unfold hlN; rw [h1, if_neg (by decide), if_pos h2], .inr ⟨rfl, .inl ⟨h2, by unfold hlE; rw [h1, if_neg (by decide), if_pos h2]⟩⟩⟩
    · have hbd := fN_bd hb (hd - 4) 4
      obtain ⟨x, hx⟩ : ∃ x : Nat, fN l (hd - 4) 4 = x := ⟨_, (Int.toNat_of_nonneg hbd.1).symm⟩
      by_cases h3 : 256 < x
      · exact .inl ⟨by unfold hlN; rw [h1, if_neg (by decide), if_neg h2, if_pos (by omega)], .inr ⟨rfl, .inr ⟨by omega, x, hx, .inl ⟨h3, by unfold hlE; rw [h1, if_neg (by decide), if_neg h2, if_pos (by omega)]⟩⟩⟩⟩
      · have e : hlE l magic hd = 0 := by unfold hlE; rw [h1, if_neg (by decide), if_neg h2, if_neg (by omega)]
        by_cases h4 : l.length < hd + x
        · exact .inl ⟨by unfold hlN; rw [h1, if_neg (by decide), if_neg h2, if_neg (by omega), hx, Int.toNat_natCast, if_pos h4], .inr ⟨rfl, .inr ⟨by omega, x, hx, .inr ⟨by omega, h4, e⟩⟩⟩⟩
        · exact .inr ⟨rfl, e, x, hx, by omega, by omega, by unfold hlN; rw [h1, if_neg (by decide), if_neg h2, if_neg (by omega), hx, Int.toNat_natCast, if_neg h4]⟩
  · exact .inl ⟨by unfold hlN; rw [h1, if_pos rfl], .inl ⟨rfl, by unfold hlE; rw [h1, if_pos rfl]⟩⟩
theorem info_hraw : (Try.prog.info? 31).map (·.size) = some 2 := by kernel_rfl
theorem info_hrep : (Try.prog.info? 35).map (·.size) = some 3 := by kernel_rfl
theorem info_int : (Try.prog.info? 3).map (fun i => (i.zero, i.size, i.bytes)) = some (some (.int .i64 0), 1, 8) := by kernel_rfl
section
variable {w0 w : World} {O : Nat → Prop} {L : List Asr}

theorem Sep.blk_set2 {g : Nat} {t : TypeId} {a0 a1 : Value} (h : Sep w0 w O (blk g t #[a0, a1] :: L)) (b0 b1 : Value) :
    Sep w0 ((w.setCell ⟨g, 0, none⟩ b0).setCell ⟨g, 1, none⟩ b1) O (blk g t #[b0, b1] :: L) := by
  have := (h.blk_set 0 b0).blk_set 1 b1
  simpa using this
theorem Sep.blk_set3 {g : Nat} {t : TypeId} {a0 a1 a2 : Value} (h : Sep w0 w O (blk g t #[a0, a1, a2] :: L)) (b0 b1 b2 : Value) :
    Sep w0 (((w.setCell ⟨g, 0, none⟩ b0).setCell ⟨g, 1, none⟩ b1).setCell ⟨g, 2, none⟩ b2) O (blk g t #[b0, b1, b2] :: L) := by
  have := ((h.blk_set 0 b0).blk_set 1 b1).blk_set 2 b2
  simpa using this
theorem hclone_calls {A : Option Addr} {n c : Nat} {xs : List Value} (h1 : ∀ u ∈ xs, u.oneCell' = true) (HS : Sep w0 w O L) (hr : Rb w0 O L 1 A n xs) (hn : n ≤ 140737488355328) :
    Calls Try.prog 82 #[.slice A n c] w fun e w' => ∃ A' c', e = .returned (.slice A' n c') ∧ Sep w0 w' O (own 5 1 A' n c' xs :: L) := by
  obtain ⟨i0, hi0, hz0, hz1, hz2⟩ := info_parts info_u8
  have q := fun w a n c n' c' => Lib.run_eql_slice_nil (P := Try.prog) w 23 5 a n c n' c' Try.underlying23
  rcases A with _ | ad
  · obtain ⟨rfl, rfl⟩ := hr.none_ HS
    go_enter Try.func82, Try.ntmps82
    go_wp2
    go_ret
    exact ⟨_, _, rfl, HS.nil _ _⟩
  · have HL := HS.lit #[] 5 1 0 rfl (Nat.zero_le _)
    have hrd := (hr.cons (P := own 5 1 (some ⟨w.heap.size, 0, none⟩) 0 0 [])).read HL
    go_enter Try.func82, Try.ntmps82
    go_wp2_with (at_builtin; refine wpList_append_sep rfl (.tmp 5) (.tmp 6) 23 rfl 5 i0 _ 1 1 Try.underlying23 hi0 hz0 hz1 hz2 rfl (by decide) rfl HL rfl hrd h1 (by simp only [maxLen]; omega) (by omega) (Nat.zero_add n) rfl ?_; intro A' c' w1 HS1 hsz1)
    go_ret
    exact ⟨_, _, rfl, HS1⟩

set_option maxHeartbeats 4000000 in
set_option maxRecDepth 100000 in
theorem htake2_no {g kc : Nat} {As : Option Addr} {l : List Int} {magic : Int} (HS : Sep w0 w O (own 3 1 As 2 kc (iv [4, 4]) :: Go.Proofs.Ytgepekailoopeaa.tape g l :: L)) (hb : Byt l) (hl : l.length ≤ 140737488355328) (h0 : hlN l magic 16 = 0) :
    Calls Try.prog 65 #[.pointer (some ⟨g, 0, none⟩), .int .u64 magic, .slice As 2 kc] w fun e w' => e = .returned (.tuple #[.slice none 0 0, .slice none 0 0, .int .i64 (hlE l magic 16)]) ∧ Sep w0 w' O (Go.Proofs.Ytgepekailoopeaa.tape g l :: L) := by
  obtain ⟨i0, hi0, hz0, hz1, hz2⟩ := info_parts info_int
  have HB := hid hb
  have o1 : ∀ {w : World} {L : List Asr}, Sep w0 w O (Go.Proofs.Ytgepekailoopeaa.tape g l :: L) → Calls Try.prog 73 #[.pointer (some ⟨g, 0, none⟩), .int .i64 0, .int .u64 magic] w fun e w' => e = .returned (.bool (otherAt l 0 magic)) ∧ Sep w0 w' O (Go.Proofs.Ytgepekailoopeaa.tape g l :: L) := fun H => other_calls (a := 0) (by decide) H hb hl
  have O1 := hid @o1
  clear o1
  rcases hl_cases hb magic (hd := 16) (by decide) with ⟨_, ⟨h1, hE⟩ | ⟨h1, ⟨h2, hE⟩ | ⟨h2, x2, hx, h3⟩⟩⟩ | ⟨_, _, x, _, _, _, h6⟩
  · rw [hE]
    rw [h1] at O1
    clear hE h1 h0 hb
    go_enter Try.func65, Try.ntmps65
    go_wp2_with fail
    refine (O1.out HS.up1).mono ?_
    rintro e w1 ⟨rfl, HS1⟩
    go_wp2
    go_ret3
    exact ⟨rfl, HS1.sel 2 [0]⟩
  · rw [hE]
    rw [h1] at O1
    have e1 := numL_no (b := false) (l := l) (ss := [8, 4, 4]) (by show l.length < 16; omega)
    rw [show [8, 4, 4].map Int.ofNat = [8, 4, 4] from rfl] at e1
    have E1 := hid e1
    have E2 : Aside (([] : List Int).length = 0) := ⟨rfl⟩
    clear hE h1 h0 hb e1 h2
    go_enter Try.func65, Try.ntmps65
    go_wp2_with fail
    refine (O1.out HS.up1).mono ?_
    rintro e w1 ⟨rfl, HS1⟩
    have HL := HS1.up1.lit #[.int .i64 8] 3 1 1 rfl (by decide)
    go_upto_region 4 with (first
      | (at_builtin; go_loud (refine wpList_append_sep rfl (.tmp 19) (.tmp 20) 154 rfl 3 i0 _ 1 8 Try.underlying154 hi0 hz0 hz1 hz2 rfl (by decide) rfl HL rfl HL.rd1 (kv_one .i64 [4, 4]) (by decide) (by decide) rfl rfl ?_); intro A2 c2 w2 HS2 hsz2)
      | (go_at_call 74; refine (numbers_any (b := false) (zs := [8, 4, 4]) HS2.up2 Rb.i0 (by decide) HB.out hl).mono ?_; rintro e w3 ⟨A3, c3, rfl, HS3⟩; rw [E1.out] at HS3 ⊢; dsimp only at HS3 ⊢; rw [E2.out] at HS3 ⊢))
    go_wp2
    go_ret3
    exact ⟨rfl, HS3.sel 4 [1]⟩
  · have e1 := numL_ok (b := false) (l := l) (ss := [8, 4, 4]) (by decide) (by show 16 ≤ l.length; omega)
    rw [show [8, 4, 4].map Int.ofNat = [8, 4, 4] from rfl, show cut l [8, 4, 4] = [num (l.take 8), fN l 8 4, fN l 12 4] by simp [cut, fN, List.drop_drop], hx] at e1
    simp only [Bool.false_eq_true, if_false] at e1
    clear hx h0
    generalize num (l.take 8) = x0 at *
    generalize fN l 8 4 = x1 at *
    have E1 := hid e1
    have E2 : Aside (([x0, x1, (x2 : Int)] : List Int).length = 3) := ⟨rfl⟩
    rcases h3 with ⟨h3, hE⟩ | ⟨h3, h4, hE⟩
    · rw [hE]
      rw [h1] at O1
      have q1 : 256 < (x2 : Int) := by omega
      clear hE h1 hb e1 h3
      go_enter Try.func65, Try.ntmps65
      go_wp2_with fail
      refine (O1.out HS.up1).mono ?_
      rintro e w1 ⟨rfl, HS1⟩
      have HL := HS1.up1.lit #[.int .i64 8] 3 1 1 rfl (by decide)
      go_upto_region 4 with (first
        | (at_builtin; go_loud (refine wpList_append_sep rfl (.tmp 19) (.tmp 20) 154 rfl 3 i0 _ 1 8 Try.underlying154 hi0 hz0 hz1 hz2 rfl (by decide) rfl HL rfl HL.rd1 (kv_one .i64 [4, 4]) (by decide) (by decide) rfl rfl ?_); intro A2 c2 w2 HS2 hsz2)
        | (go_at_call 74; refine (numbers_any (b := false) (zs := [8, 4, 4]) HS2.up2 Rb.i0 (by decide) HB.out hl).mono ?_; rintro e w3 ⟨A3, c3, rfl, HS3⟩; rw [E1.out] at HS3 ⊢; dsimp only at HS3 ⊢; rw [E2.out] at HS3 ⊢))
      obtain ⟨g1, rfl⟩ := HS3.own_some (by decide)
      have hc : w3.cell? ⟨g1, 2, none⟩ = some (.int .u64 x2) := HS3.kcell (j := 2) (by simp) rfl
      go_wp2
      go_ret3
      exact ⟨rfl, HS3.sel 4 [1]⟩
    · rw [hE]
      rw [h1] at O1
      have q1 : ¬ 256 < (x2 : Int) := by omega
      have y1 : IntKind.i64.wrap (x2 : Int) = x2 := by rw [IntKind.wrap_i64]; omega
      have y2 : IntKind.i64.wrap (16 + (x2 : Int)) = 16 + x2 := by rw [IntKind.wrap_i64]; omega
      have hak : askL true l (16 + (x2 : Int)) = ⟨false, [], l⟩ := by unfold askL; rw [if_neg (by omega)]
      have HK := hid hak
      clear hE h1 hb e1 h3 hak
      go_enter Try.func65, Try.ntmps65
      go_wp2_with fail
      refine (O1.out HS.up1).mono ?_
      rintro e w1 ⟨rfl, HS1⟩
      have HL := HS1.up1.lit #[.int .i64 8] 3 1 1 rfl (by decide)
      go_upto_region 4 with (first
        | (at_builtin; go_loud (refine wpList_append_sep rfl (.tmp 19) (.tmp 20) 154 rfl 3 i0 _ 1 8 Try.underlying154 hi0 hz0 hz1 hz2 rfl (by decide) rfl HL rfl HL.rd1 (kv_one .i64 [4, 4]) (by decide) (by decide) rfl rfl ?_); intro A2 c2 w2 HS2 hsz2)
        | (go_at_call 74; refine (numbers_any (b := false) (zs := [8, 4, 4]) HS2.up2 Rb.i0 (by decide) HB.out hl).mono ?_; rintro e w3 ⟨A3, c3, rfl, HS3⟩; rw [E1.out] at HS3 ⊢; dsimp only at HS3 ⊢; rw [E2.out] at HS3 ⊢))
      obtain ⟨g1, rfl⟩ := HS3.own_some (by decide)
      have hc : w3.cell? ⟨g1, 2, none⟩ = some (.int .u64 x2) := HS3.kcell (j := 2) (by simp) rfl
      go_wp2_with fail
      refine (take_any (m := 16 + (x2 : Int)) HS3.up1 hl).mono ?_
      rintro e w4 ⟨A4, c4, rfl, HS4⟩
      rw [HK.out] at HS4 ⊢
      dsimp only at HS4 ⊢
      go_wp2
      go_ret3
      exact ⟨rfl, HS4.sel 5 [1]⟩
  · omega

set_option maxHeartbeats 4000000 in
set_option maxRecDepth 100000 in
theorem htake2_ok {g kc x : Nat} {As : Option Addr} {l : List Int} {magic : Int} (HS : Sep w0 w O (own 3 1 As 2 kc (iv [4, 4]) :: Go.Proofs.Ytgepekailoopeaa.tape g l :: L)) (hb : Byt l) (hl : l.length ≤ 140737488355328) (h1 : otherAt l 0 magic = false) (hx : fN l 12 4 = x) (h3 : x ≤ 256) (h4 : 16 + x ≤ l.length) :
    Calls Try.prog 65 #[.pointer (some ⟨g, 0, none⟩), .int .u64 magic, .slice As 2 kc] w fun e w' => ∃ g1 c1 A2 c2, e = .returned (.tuple #[.slice (some ⟨g1, 1, none⟩) 2 c1, .slice A2 x c2, .int .i64 0]) ∧ 2 ≤ c1 ∧ Sep w0 w' O (own 5 1 A2 x c2 (by8 ((l.drop 16).take x)) :: own 58 1 (some ⟨g1, 0, none⟩) 3 (c1 + 1) (uv [num (l.take 8), fN l 8 4, fN l 12 4]) :: Go.Proofs.Ytgepekailoopeaa.tape g (l.drop (16 + x)) :: L) := by
  obtain ⟨i0, hi0, hz0, hz1, hz2⟩ := info_parts info_int
  have HB := hid hb
  have o1 : ∀ {w : World} {L : List Asr}, Sep w0 w O (Go.Proofs.Ytgepekailoopeaa.tape g l :: L) → Calls Try.prog 73 #[.pointer (some ⟨g, 0, none⟩), .int .i64 0, .int .u64 magic] w fun e w' => e = .returned (.bool (otherAt l 0 magic)) ∧ Sep w0 w' O (Go.Proofs.Ytgepekailoopeaa.tape g l :: L) := fun H => other_calls (a := 0) (by decide) H hb hl
  have O1 := hid @o1
  clear o1
  rw [h1] at O1
  have e1 := numL_ok (b := false) (l := l) (ss := [8, 4, 4]) (by decide) (by show 16 ≤ l.length; omega)
  rw [show [8, 4, 4].map Int.ofNat = [8, 4, 4] from rfl, show cut l [8, 4, 4] = [num (l.take 8), fN l 8 4, fN l 12 4] by simp [cut, fN, List.drop_drop], hx] at e1
  simp only [Bool.false_eq_true, if_false] at e1
  rw [hx]
  have hlen : (l.take (16 + x)).length = 16 + x := by rw [List.length_take]; omega
  have hseg : (l.take (16 + x)).drop 16 = (l.drop 16).take x := by rw [List.drop_take, Nat.add_sub_cancel_left]
  have hak : askL true l (16 + (x : Int)) = ⟨true, l.take (16 + x), l.drop (16 + x)⟩ := by
    unfold askL
    rw [if_pos (by omega), show (16 + (x : Int)).toNat = 16 + x by omega]
    rfl
  rw [← hseg]
  have HK := hid hak
  have HLN := hid hlen
  clear hx h1 hak hseg hlen
  generalize num (l.take 8) = x0 at *
  generalize fN l 8 4 = x1 at *
  have E1 := hid e1
  have E2 : Aside (([x0, x1, (x : Int)] : List Int).length = 3) := ⟨rfl⟩
  have q1 : ¬ 256 < (x : Int) := by omega
  have y1 : IntKind.i64.wrap (x : Int) = x := by rw [IntKind.wrap_i64]; omega
  have y2 : IntKind.i64.wrap (16 + (x : Int)) = 16 + x := by rw [IntKind.wrap_i64]; omega
  clear hb e1
  go_enter Try.func65, Try.ntmps65
  go_wp2_with fail
  refine (O1.out HS.up1).mono ?_
  rintro e w1 ⟨rfl, HS1⟩
  have HL := HS1.up1.lit #[.int .i64 8] 3 1 1 rfl (by decide)
  go_upto_region 4 with (first
    | (at_builtin; go_loud (refine wpList_append_sep rfl (.tmp 19) (.tmp 20) 154 rfl 3 i0 _ 1 8 Try.underlying154 hi0 hz0 hz1 hz2 rfl (by decide) rfl HL rfl HL.rd1 (kv_one .i64 [4, 4]) (by decide) (by decide) rfl rfl ?_); intro A2 c2 w2 HS2 hsz2)
    | (go_at_call 74; refine (numbers_any (b := false) (zs := [8, 4, 4]) HS2.up2 Rb.i0 (by decide) HB.out hl).mono ?_; rintro e w3 ⟨A3, c3, rfl, HS3⟩; rw [E1.out] at HS3 ⊢; dsimp only at HS3 ⊢; rw [E2.out] at HS3 ⊢))
  obtain ⟨g1, rfl⟩ := HS3.own_some (by decide)
  have hc : w3.cell? ⟨g1, 2, none⟩ = some (.int .u64 x) := HS3.kcell (j := 2) (by simp) rfl
  go_wp2_with fail
  refine (take_any (m := 16 + (x : Int)) HS3.up1 hl).mono ?_
  rintro e w4 ⟨A4, c4, rfl, HS4⟩
  rw [HK.out] at HS4 ⊢
  dsimp only at HS4 ⊢
  rw [HLN.out] at HS4 ⊢
  have HS5 := HS4.sel 5 [0, 2, 1]
  replace HS5 : Sep w0 w4 O (own 5 1 A4 (16 + x) c4 (by8 (l.take (16 + x))) :: own 58 1 (some ⟨g1, 0, none⟩) 3 c3 (uv [x0, x1, (x : Int)]) :: Go.Proofs.Ytgepekailoopeaa.tape g (l.drop (16 + x)) :: L) := HS5
  clear HS4 HS3 HS2 HL hc hsz2
  have hle := own_le HS5
  have hle1 := own_le HS5.up1
  obtain ⟨g4, rfl⟩ := HS5.own_some (by omega)
  have ca : ¬ c3 = 1 := by omega
  have k1 : (1 : Int) ≤ 3 := by decide
  have k2 : (3 : Int) ≤ c3 := by omega
  have k3 : (16 : Int) ≤ 16 + x := by omega
  have k4 : (16 : Int) + x ≤ c4 := by omega
  have k5 : 16 + x - 16 = x := by omega
  have hrp := (Rb.i0 (w0 := w0) (O := O) (L := own 58 1 (some ⟨g1, 0, none⟩) 3 c3 (uv [x0, x1, (x : Int)]) :: Go.Proofs.Ytgepekailoopeaa.tape g (l.drop (16 + x)) :: L) (e := 5) (size := 1) (A := some ⟨g4, 0, none⟩) (n := 16 + x) (k := c4) (xs := by8 (l.take (16 + x)))).ktail HLN.out (j := 16) (cap := c4) (by omega) hle
  rw [Option.map_some, show 16 + x - 16 = x by omega, add_at] at hrp
  obtain ⟨DA, hDA⟩ : ∃ DA : Option Addr, (if c4 = 16 then some (⟨g4, 0, none⟩ : Addr) else some ⟨g4, 16, none⟩) = DA := ⟨_, rfl⟩
  rw [hDA] at hrp
  go_upto_region 13 with (fail)
  go_region_held_law (fun _ => True) (trivial)
    (first | (go_at_call 82; refine (hclone_calls (by8_one _) HS5.drew hrp (by omega)).mono ?_; rintro e w6 ⟨A6, c6, rfl, HS6⟩))
  all_goals
    go_wp2
    go_ret3
    refine ⟨g1, c3 - 1, A6, c6, rfl, by omega, ?_⟩
    have ec : c3 - 1 + 1 = c3 := by omega
    rw [ec]
    exact HS6.sel 2 [0]

set_option maxHeartbeats 4000000 in
set_option maxRecDepth 100000 in
theorem htake3_no {g kc : Nat} {As : Option Addr} {l : List Int} {magic : Int} (HS : Sep w0 w O (own 3 1 As 3 kc (iv [4, 4, 4]) :: Go.Proofs.Ytgepekailoopeaa.tape g l :: L)) (hb : Byt l) (hl : l.length ≤ 140737488355328) (h0 : hlN l magic 20 = 0) :
    Calls Try.prog 65 #[.pointer (some ⟨g, 0, none⟩), .int .u64 magic, .slice As 3 kc] w fun e w' => e = .returned (.tuple #[.slice none 0 0, .slice none 0 0, .int .i64 (hlE l magic 20)]) ∧ Sep w0 w' O (Go.Proofs.Ytgepekailoopeaa.tape g l :: L) := by
  obtain ⟨i0, hi0, hz0, hz1, hz2⟩ := info_parts info_int
  have HB := hid hb
  have o1 : ∀ {w : World} {L : List Asr}, Sep w0 w O (Go.Proofs.Ytgepekailoopeaa.tape g l :: L) → Calls Try.prog 73 #[.pointer (some ⟨g, 0, none⟩), .int .i64 0, .int .u64 magic] w fun e w' => e = .returned (.bool (otherAt l 0 magic)) ∧ Sep w0 w' O (Go.Proofs.Ytgepekailoopeaa.tape g l :: L) := fun H => other_calls (a := 0) (by decide) H hb hl
  have O1 := hid @o1
  clear o1
  rcases hl_cases hb magic (hd := 20) (by decide) with ⟨_, ⟨h1, hE⟩ | ⟨h1, ⟨h2, hE⟩ | ⟨h2, x3, hx, h3⟩⟩⟩ | ⟨_, _, x, _, _, _, h6⟩
  · rw [hE]
    rw [h1] at O1
    clear hE h1 h0 hb
    go_enter Try.func65, Try.ntmps65
    go_wp2_with fail
    refine (O1.out HS.up1).mono ?_
    rintro e w1 ⟨rfl, HS1⟩
    go_wp2
    go_ret3
    exact ⟨rfl, HS1.sel 2 [0]⟩
  · rw [hE]
    rw [h1] at O1
    have e1 := numL_no (b := false) (l := l) (ss := [8, 4, 4, 4]) (by show l.length < 20; omega)
    rw [show [8, 4, 4, 4].map Int.ofNat = [8, 4, 4, 4] from rfl] at e1
    have E1 := hid e1
    have E2 : Aside (([] : List Int).length = 0) := ⟨rfl⟩
    clear hE h1 h0 hb e1 h2
    go_enter Try.func65, Try.ntmps65
    go_wp2_with fail
    refine (O1.out HS.up1).mono ?_
    rintro e w1 ⟨rfl, HS1⟩
    have HL := HS1.up1.lit #[.int .i64 8] 3 1 1 rfl (by decide)
    go_upto_region 4 with (first
      | (at_builtin; go_loud (refine wpList_append_sep rfl (.tmp 19) (.tmp 20) 154 rfl 3 i0 _ 1 8 Try.underlying154 hi0 hz0 hz1 hz2 rfl (by decide) rfl HL rfl HL.rd1 (kv_one .i64 [4, 4, 4]) (by decide) (by decide) rfl rfl ?_); intro A2 c2 w2 HS2 hsz2)
      | (go_at_call 74; refine (numbers_any (b := false) (zs := [8, 4, 4, 4]) HS2.up2 Rb.i0 (by decide) HB.out hl).mono ?_; rintro e w3 ⟨A3, c3, rfl, HS3⟩; rw [E1.out] at HS3 ⊢; dsimp only at HS3 ⊢; rw [E2.out] at HS3 ⊢))
    go_wp2
    go_ret3
    exact ⟨rfl, HS3.sel 4 [1]⟩
  · have e1 := numL_ok (b := false) (l := l) (ss := [8, 4, 4, 4]) (by decide) (by show 20 ≤ l.length; omega)
    rw [show [8, 4, 4, 4].map Int.ofNat = [8, 4, 4, 4] from rfl, show cut l [8, 4, 4, 4] = [num (l.take 8), fN l 8 4, fN l 12 4, fN l 16 4] by simp [cut, fN, List.drop_drop], hx] at e1
    simp only [Bool.false_eq_true, if_false] at e1
    clear hx h0
    generalize num (l.take 8) = x0 at *
    generalize fN l 8 4 = x1 at *
    generalize fN l 12 4 = x2 at *
    have E1 := hid e1
    have E2 : Aside (([x0, x1, x2, (x3 : Int)] : List Int).length = 4) := ⟨rfl⟩
    rcases h3 with ⟨h3, hE⟩ | ⟨h3, h4, hE⟩
    · rw [hE]
      rw [h1] at O1
      have q1 : 256 < (x3 : Int) := by omega
      clear hE h1 hb e1 h3
      go_enter Try.func65, Try.ntmps65
      go_wp2_with fail
      refine (O1.out HS.up1).mono ?_
      rintro e w1 ⟨rfl, HS1⟩
      have HL := HS1.up1.lit #[.int .i64 8] 3 1 1 rfl (by decide)
      go_upto_region 4 with (first
        | (at_builtin; go_loud (refine wpList_append_sep rfl (.tmp 19) (.tmp 20) 154 rfl 3 i0 _ 1 8 Try.underlying154 hi0 hz0 hz1 hz2 rfl (by decide) rfl HL rfl HL.rd1 (kv_one .i64 [4, 4, 4]) (by decide) (by decide) rfl rfl ?_); intro A2 c2 w2 HS2 hsz2)
        | (go_at_call 74; refine (numbers_any (b := false) (zs := [8, 4, 4, 4]) HS2.up2 Rb.i0 (by decide) HB.out hl).mono ?_; rintro e w3 ⟨A3, c3, rfl, HS3⟩; rw [E1.out] at HS3 ⊢; dsimp only at HS3 ⊢; rw [E2.out] at HS3 ⊢))
      obtain ⟨g1, rfl⟩ := HS3.own_some (by decide)
      have hc : w3.cell? ⟨g1, 3, none⟩ = some (.int .u64 x3) := HS3.kcell (j := 3) (by simp) rfl
      go_wp2
      go_ret3
      exact ⟨rfl, HS3.sel 4 [1]⟩
    · rw [hE]
      rw [h1] at O1
      have q1 : ¬ 256 < (x3 : Int) := by omega
      have y1 : IntKind.i64.wrap (x3 : Int) = x3 := by rw [IntKind.wrap_i64]; omega
      have y2 : IntKind.i64.wrap (20 + (x3 : Int)) = 20 + x3 := by rw [IntKind.wrap_i64]; omega
      have hak : askL true l (20 + (x3 : Int)) = ⟨false, [], l⟩ := by unfold askL; rw [if_neg (by omega)]
      have HK := hid hak
      clear hE h1 hb e1 h3 hak
      go_enter Try.func65, Try.ntmps65
      go_wp2_with fail
      refine (O1.out HS.up1).mono ?_
      rintro e w1 ⟨rfl, HS1⟩
      have HL := HS1.up1.lit #[.int .i64 8] 3 1 1 rfl (by decide)
      go_upto_region 4 with (first
        | (at_builtin; go_loud (refine wpList_append_sep rfl (.tmp 19) (.tmp 20) 154 rfl 3 i0 _ 1 8 Try.underlying154 hi0 hz0 hz1 hz2 rfl (by decide) rfl HL rfl HL.rd1 (kv_one .i64 [4, 4, 4]) (by decide) (by decide) rfl rfl ?_); intro A2 c2 w2 HS2 hsz2)
        | (go_at_call 74; refine (numbers_any (b := false) (zs := [8, 4, 4, 4]) HS2.up2 Rb.i0 (by decide) HB.out hl).mono ?_; rintro e w3 ⟨A3, c3, rfl, HS3⟩; rw [E1.out] at HS3 ⊢; dsimp only at HS3 ⊢; rw [E2.out] at HS3 ⊢))
      obtain ⟨g1, rfl⟩ := HS3.own_some (by decide)
      have hc : w3.cell? ⟨g1, 3, none⟩ = some (.int .u64 x3) := HS3.kcell (j := 3) (by simp) rfl
      go_wp2_with fail
      refine (take_any (m := 20 + (x3 : Int)) HS3.up1 hl).mono ?_
      rintro e w4 ⟨A4, c4, rfl, HS4⟩
      rw [HK.out] at HS4 ⊢
      dsimp only at HS4 ⊢
      go_wp2
      go_ret3
      exact ⟨rfl, HS4.sel 5 [1]⟩
  · omega

set_option maxHeartbeats 4000000 in
set_option maxRecDepth 100000 in
theorem htake3_ok {g kc x : Nat} {As : Option Addr} {l : List Int} {magic : Int} (HS : Sep w0 w O (own 3 1 As 3 kc (iv [4, 4, 4]) :: Go.Proofs.Ytgepekailoopeaa.tape g l :: L)) (hb : Byt l) (hl : l.length ≤ 140737488355328) (h1 : otherAt l 0 magic = false) (hx : fN l 16 4 = x) (h3 : x ≤ 256) (h4 : 20 + x ≤ l.length) :
    Calls Try.prog 65 #[.pointer (some ⟨g, 0, none⟩), .int .u64 magic, .slice As 3 kc] w fun e w' => ∃ g1 c1 A2 c2, e = .returned (.tuple #[.slice (some ⟨g1, 1, none⟩) 3 c1, .slice A2 x c2, .int .i64 0]) ∧ 3 ≤ c1 ∧ Sep w0 w' O (own 5 1 A2 x c2 (by8 ((l.drop 20).take x)) :: own 58 1 (some ⟨g1, 0, none⟩) 4 (c1 + 1) (uv [num (l.take 8), fN l 8 4, fN l 12 4, fN l 16 4]) :: Go.Proofs.Ytgepekailoopeaa.tape g (l.drop (20 + x)) :: L) := by
  obtain ⟨i0, hi0, hz0, hz1, hz2⟩ := info_parts info_int
  have HB := hid hb
  have o1 : ∀ {w : World} {L : List Asr}, Sep w0 w O (Go.Proofs.Ytgepekailoopeaa.tape g l :: L) → Calls Try.prog 73 #[.pointer (some ⟨g, 0, none⟩), .int .i64 0, .int .u64 magic] w fun e w' => e = .returned (.bool (otherAt l 0 magic)) ∧ Sep w0 w' O (Go.Proofs.Ytgepekailoopeaa.tape g l :: L) := fun H => other_calls (a := 0) (by decide) H hb hl
  have O1 := hid @o1
  clear o1
  rw [h1] at O1
  have e1 := numL_ok (b := false) (l := l) (ss := [8, 4, 4, 4]) (by decide) (by show 20 ≤ l.length; omega)
  rw [show [8, 4, 4, 4].map Int.ofNat = [8, 4, 4, 4] from rfl, show cut l [8, 4, 4, 4] = [num (l.take 8), fN l 8 4, fN l 12 4, fN l 16 4] by simp [cut, fN, List.drop_drop], hx] at e1
  simp only [Bool.false_eq_true, if_false] at e1
  rw [hx]
  have hlen : (l.take (20 + x)).length = 20 + x := by rw [List.length_take]; omega
  have hseg : (l.take (20 + x)).drop 20 = (l.drop 20).take x := by rw [List.drop_take, Nat.add_sub_cancel_left]
  have hak : askL true l (20 + (x : Int)) = ⟨true, l.take (20 + x), l.drop (20 + x)⟩ := by
    unfold askL
    rw [if_pos (by omega), show (20 + (x : Int)).toNat = 20 + x by omega]
    rfl
  rw [← hseg]
  have HK := hid hak
  have HLN := hid hlen
  clear hx h1 hak hseg hlen
  generalize num (l.take 8) = x0 at *
  generalize fN l 8 4 = x1 at *
  generalize fN l 12 4 = x2 at *
  have E1 := hid e1
  have E2 : Aside (([x0, x1, x2, (x : Int)] : List Int).length = 4) := ⟨rfl⟩
  have q1 : ¬ 256 < (x : Int) := by omega
  have y1 : IntKind.i64.wrap (x : Int) = x := by rw [IntKind.wrap_i64]; omega
  have y2 : IntKind.i64.wrap (20 + (x : Int)) = 20 + x := by rw [IntKind.wrap_i64]; omega
  clear hb e1
  go_enter Try.func65, Try.ntmps65
  go_wp2_with fail
  refine (O1.out HS.up1).mono ?_
  rintro e w1 ⟨rfl, HS1⟩
  have HL := HS1.up1.lit #[.int .i64 8] 3 1 1 rfl (by decide)
  go_upto_region 4 with (first
    | (at_builtin; go_loud (refine wpList_append_sep rfl (.tmp 19) (.tmp 20) 154 rfl 3 i0 _ 1 8 Try.underlying154 hi0 hz0 hz1 hz2 rfl (by decide) rfl HL rfl HL.rd1 (kv_one .i64 [4, 4, 4]) (by decide) (by decide) rfl rfl ?_); intro A2 c2 w2 HS2 hsz2)
    | (go_at_call 74; refine (numbers_any (b := false) (zs := [8, 4, 4, 4]) HS2.up2 Rb.i0 (by decide) HB.out hl).mono ?_; rintro e w3 ⟨A3, c3, rfl, HS3⟩; rw [E1.out] at HS3 ⊢; dsimp only at HS3 ⊢; rw [E2.out] at HS3 ⊢))
  obtain ⟨g1, rfl⟩ := HS3.own_some (by decide)
  have hc : w3.cell? ⟨g1, 3, none⟩ = some (.int .u64 x) := HS3.kcell (j := 3) (by simp) rfl
  go_wp2_with fail
  refine (take_any (m := 20 + (x : Int)) HS3.up1 hl).mono ?_
  rintro e w4 ⟨A4, c4, rfl, HS4⟩
  rw [HK.out] at HS4 ⊢
  dsimp only at HS4 ⊢
  rw [HLN.out] at HS4 ⊢
  have HS5 := HS4.sel 5 [0, 2, 1]
  replace HS5 : Sep w0 w4 O (own 5 1 A4 (20 + x) c4 (by8 (l.take (20 + x))) :: own 58 1 (some ⟨g1, 0, none⟩) 4 c3 (uv [x0, x1, x2, (x : Int)]) :: Go.Proofs.Ytgepekailoopeaa.tape g (l.drop (20 + x)) :: L) := HS5
  clear HS4 HS3 HS2 HL hc hsz2
  have hle := own_le HS5
  have hle1 := own_le HS5.up1
  obtain ⟨g4, rfl⟩ := HS5.own_some (by omega)
  have ca : ¬ c3 = 1 := by omega
  have k1 : (1 : Int) ≤ 4 := by decide
  have k2 : (4 : Int) ≤ c3 := by omega
  have k3 : (20 : Int) ≤ 20 + x := by omega
  have k4 : (20 : Int) + x ≤ c4 := by omega
  have k5 : 20 + x - 20 = x := by omega
  have hrp := (Rb.i0 (w0 := w0) (O := O) (L := own 58 1 (some ⟨g1, 0, none⟩) 4 c3 (uv [x0, x1, x2, (x : Int)]) :: Go.Proofs.Ytgepekailoopeaa.tape g (l.drop (20 + x)) :: L) (e := 5) (size := 1) (A := some ⟨g4, 0, none⟩) (n := 20 + x) (k := c4) (xs := by8 (l.take (20 + x)))).ktail HLN.out (j := 20) (cap := c4) (by omega) hle
  rw [Option.map_some, show 20 + x - 20 = x by omega, add_at] at hrp
  obtain ⟨DA, hDA⟩ : ∃ DA : Option Addr, (if c4 = 20 then some (⟨g4, 0, none⟩ : Addr) else some ⟨g4, 20, none⟩) = DA := ⟨_, rfl⟩
  rw [hDA] at hrp
  go_upto_region 13 with (fail)
  go_region_held_law (fun _ => True) (trivial)
    (first | (go_at_call 82; refine (hclone_calls (by8_one _) HS5.drew hrp (by omega)).mono ?_; rintro e w6 ⟨A6, c6, rfl, HS6⟩))
  all_goals
    go_wp2
    go_ret3
    refine ⟨g1, c3 - 1, A6, c6, rfl, by omega, ?_⟩
    have ec : c3 - 1 + 1 = c3 := by omega
    rw [ec]
    exact HS6.sel 2 [0]
end
end Go.Proofs.Ytgepekailoopeaa
