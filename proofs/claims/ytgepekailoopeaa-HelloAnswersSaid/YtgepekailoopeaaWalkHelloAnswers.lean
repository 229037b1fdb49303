/-
  The walk of HelloAnswers.
-/
import Derived.Test.YtgepekailoopeaaLaw22
import Derived.Test.YtgepekailoopeaaSees22
import Derived.Test.YtgepekailoopeaaVolSeeR
import Derived.Test.YtgepekailoopeaaRefAns
namespace Go.Proofs.Ytgepekailoopeaa
open Go.RowKit
set_option linter.unusedVariables false
set_option linter.unusedSimpArgs false
theorem info_rvol : (Try.prog.info? 62).map (fun i => (i.zero, i.size, i.bytes)) = some (some (.agg #[.string eStr, .int .u64 0, .bool false]), 3, 32) := by kernel_rfl
theorem cell_alloc {w : World} {a : Addr} {v : Value} {o : Obj} (h : w.cell? a = some v) : (w.alloc o).cell? a = some v := by
  have hlt : a.block < w.heap.size := cellH_lt (h := w.heap) (a := a) (v := v) h
  exact (cellH_same (h := w.heap) (h' := (w.alloc o).heap) (a := a) (Below.heap_alloc w o _ hlt)).trans h
theorem alloc3 {w : World} {o : Obj} {a b c : Addr} {x y z : Value} (h : w.cell? a = some x ∧ w.cell? b = some y ∧ w.cell? c = some z) : (w.alloc o).cell? a = some x ∧ (w.alloc o).cell? b = some y ∧ (w.alloc o).cell? c = some z := ⟨cell_alloc h.1, cell_alloc h.2.1, cell_alloc h.2.2⟩
theorem alloc3d {w : World} {o : Obj} {a b c : Addr} {x y z : Value} (h : w.drew.cell? a = some x ∧ w.drew.cell? b = some y ∧ w.drew.cell? c = some z) : (w.alloc o).drew.cell? a = some x ∧ (w.alloc o).drew.cell? b = some y ∧ (w.alloc o).drew.cell? c = some z := ⟨cell_alloc (w := w) h.1, cell_alloc (w := w) h.2.1, cell_alloc (w := w) h.2.2⟩
theorem alloc6 {w : World} {o : Obj} {a b c a' b' c' : Addr} {x y z x' y' z' : Value} (h : w.cell? a = some x ∧ w.cell? b = some y ∧ w.cell? c = some z ∧ w.cell? a' = some x' ∧ w.cell? b' = some y' ∧ w.cell? c' = some z') : (w.alloc o).cell? a = some x ∧ (w.alloc o).cell? b = some y ∧ (w.alloc o).cell? c = some z ∧ (w.alloc o).cell? a' = some x' ∧ (w.alloc o).cell? b' = some y' ∧ (w.alloc o).cell? c' = some z' :=
  ⟨cell_alloc h.1, cell_alloc h.2.1, cell_alloc h.2.2.1, cell_alloc h.2.2.2.1, cell_alloc h.2.2.2.2.1, cell_alloc h.2.2.2.2.2⟩
theorem dataA_gives {t : TypeId} {r : Rp} : ∀ {rs : List Rp}, r ∈ rs → Gives (dataA t rs) 1 r.A r.d.length (by8 r.d)
  | x :: rs, hm => by
    intro h F hp
    obtain ⟨F1, F2, e, d, p, q⟩ := hp
    rcases List.mem_cons.1 hm with rfl | hm
    · exact (own_gives _ _ _ _ _ _ h F1 p).mono fun b hb => (e b).2 (.inl hb)
    · exact (dataA_gives hm h F2 q).mono fun b hb => (e b).2 (.inr hb)
theorem Rb.dat {w0 : World} {O : Nat → Prop} {L : List Asr} {t : TypeId} {rs : List Rp} (k : Nat) (h : L[k]? = some (dataA t rs)) : ∀ r ∈ rs, Rb w0 O L 1 r.A r.d.length (by8 r.d) :=
  fun r hr => .inr ⟨_, List.mem_of_getElem? h, dataA_gives hr⟩
theorem Rb.ownAt' {w0 : World} {O : Nat → Prop} {L : List Asr} {e : TypeId} {size : Nat} {A : Option Addr} {n c : Nat} {xs : List Value} (k : Nat) (h : L[k]? = some (Go.Proofs.Ytgepekailoopeaa.own e size A n c xs)) : Rb w0 O L size A n xs := .own (List.mem_of_getElem? h)
theorem namR_len (op : Int) (vs : List Vol) : (namR op vs).length ≤ vs.length := by
  induction vs with
  | nil => exact Nat.le_refl _
  | cons v vs ih =>
    have : namR op (v :: vs) = (if v.nm.size ≤ 16 then [(op, 2, nameB v.nm)] else []) ++ namR op vs := by simp [namR]
    rw [this, List.length_append, List.length_cons]
    split <;> simp <;> omega
theorem expR_len (op : Int) (nm : ByteArray) (size : Int) (fx : Bool) (inf : List Int) : (expR op nm size fx inf).length ≤ 3 := by
  unfold expR
  by_cases h1 : nm.size ≤ 16 ∧ 1 ∈ inf <;> by_cases h3 : 3 ∈ inf <;> simp [h1, h3]
theorem ansR_len (op : Int) (wn : ByteArray) (inf : List Int) (vs : List Vol) : (ansR op wn inf vs).length ≤ vs.length + 4 := by
  unfold ansR
  split
  · have := namR_len op vs
    rw [List.length_append]; simp; omega
  · split
    · split
      · simp
      · rename_i v _
        have := expR_len op v.nm v.size v.fixed inf
        rw [List.length_append]; simp; omega
    · split <;> simp
set_option maxHeartbeats 16000000 in
set_option maxRecDepth 100000 in
theorem helloAnswers_walk (cs0 : Array Value) (A1 : Option Addr) (n1 c1 : Nat) (a2 : Int) (x0 : Sh.V (.agg (.pair (.int .u32) (.pair .str (.pair (.slice (.int .u16) 2) .unit))))) (x1 : Sh.V (.slice (.agg (.pair (.int .u64) (.pair .str (.pair (.int .u64) (.pair (.int .u64) (.pair .bool (.pair (.int .u64) .unit))))))) 56)) (x2 : Sh.V (.int .i64)) (w : World) (s0 : Sees w.heap (.agg (.pair (.int .u32) (.pair .str (.pair (.slice (.int .u16) 2) .unit)))) cs0.toList x0) (s1 : Sees w.heap (.slice (.agg (.pair (.int .u64) (.pair .str (.pair (.int .u64) (.pair (.int .u64) (.pair .bool (.pair (.int .u64) .unit))))))) 56) [.slice A1 n1 c1] x1) (s2 : Sees w.heap (.int .i64) [.int .i64 a2] x2) (y0 : Light (.agg (.pair (.int .u32) (.pair .str (.pair (.slice (.int .u16) 2) .unit)))) x0) (y1 : Light (.slice (.agg (.pair (.int .u64) (.pair .str (.pair (.int .u64) (.pair (.int .u64) (.pair .bool (.pair (.int .u64) .unit))))))) 56) x1) (y2 : Light (.int .i64) x2) :
    Calls Try.prog 4 #[.agg cs0, .slice A1 n1 c1, .int .i64 a2] w fun e w' => e = .returned (.bool true) ∧ Below w.heap.size w w' := by
  obtain ⟨op, nm, A0, c0, inf, rfl, ⟨o0, o1⟩, hnm, hr0, hc0, hb0, hd0⟩ := sees_wish s0 y0
  obtain ⟨hc1, h56, vs, hvl, hok, hr1⟩ := sees_vols s1 y1
  obtain ⟨z, rfl⟩ : ∃ z : Int, z = a2 := ⟨_, rfl⟩
  obtain ⟨i0, hi0, hz0, hz1, hz2⟩ := info_parts info_rvol
  have R0 := hid (fun L => Rb.came (L := L) hr0)
  have R1 := hid (fun L => Rb.came (L := L) hr1)
  obtain ⟨ni, hni⟩ : ∃ m, m = inf.length := ⟨_, rfl⟩
  rw [← hni] at hc0 hd0 R0 ⊢
  have hn9 : n1 ≤ 2513169434843 := by omega
  obtain ⟨R, hR⟩ : ∃ R, R = ansR op nm inf vs := ⟨_, rfl⟩
  obtain ⟨m, hm⟩ : ∃ m, m = R.length := ⟨_, rfl⟩
  have hm9 : m ≤ n1 + 4 := by rw [hm, hR, ← hvl]; exact ansR_len _ _ _ _
  have P1 : ∀ {W : World} {L' : List Asr}, Sep w W (fun _ => False) L' → Calls Try.prog 28 #[.agg #[.int .u32 op, .string nm, .slice A0 ni c0], .slice A1 n1 c1] W fun e w' => ∃ (rs : List Rp) (A' : Option Addr) (c' : Nat), rs.map Rp.out = R ∧ e = .returned (.slice A' m c') ∧ Sep w w' (fun _ => False) (own 35 3 A' m c' (rrow rs) :: dataA 5 rs :: L') := by
    intro W L' H
    refine (answers_calls H (R1.out _) hvl hn9 hok (R0.out _) (by omega)).mono ?_
    rintro e w' ⟨rs, A', c', h1, rfl, h3⟩
    have hl : rs.length = m := by rw [hm, hR, ← h1, List.length_map]
    exact ⟨rs, A', c', by rw [hR]; exact h1, by rw [hl], by rw [hl] at h3; exact h3⟩
  have P2 : ∀ {W : World} {L' : List Asr} {A : Option Addr} {c : Nat}, Sep w W (fun _ => False) L' → Rb w (fun _ => False) L' 3 A n1 (crow vs) → Calls Try.prog 30 #[.agg #[.int .u32 op, .string nm, .slice A0 ni c0], .slice A n1 c] W fun e w' => ∃ (rs : List Rp) (A' : Option Addr) (c' : Nat), rs.map Rp.out = R ∧ e = .returned (.slice A' m c') ∧ Sep w w' (fun _ => False) (own 27 3 A' m c' (rrow rs) :: dataA 5 rs :: L') := by
    intro W L' A c H q
    refine (ranswers_calls H q hvl hn9 hok (R0.out _) (by omega)).mono ?_
    rintro e w' ⟨rs, A', c', h1, rfl, h3⟩
    have hl : rs.length = m := by rw [hm, hR, ← h1, List.length_map]
    exact ⟨rs, A', c', by rw [hR]; exact h1, by rw [hl], by rw [hl] at h3; exact h3⟩
  have HP1 := hid @P1
  have HP2 := hid @P2
  have HVL := hid hvl
  obtain ⟨K, hK⟩ : ∃ K, K = refK z := ⟨_, rfl⟩
  have P3 : ∀ {W : World} {L' : List Asr}, Sep w W (fun _ => False) L' → Calls Try.prog 29 #[.int .u32 op, .int .i64 z] W fun en w' => en = .returned (.agg #[.int .u32 op, .int .u32 K, .slice none 0 0]) ∧ Sep w w' (fun _ => False) L' := by rw [hK]; exact fun H => hrefuse_calls H
  have P4 : ∀ {W : World} {L' : List Asr}, Sep w W (fun _ => False) L' → Calls Try.prog 31 #[.int .u32 op, .int .i64 z] W fun en w' => en = .returned (.agg #[.int .u32 op, .int .u32 K, .slice none 0 0]) ∧ Sep w w' (fun _ => False) L' := by rw [hK]; exact fun H => rrefuse_calls H
  have HP3 := hid @P3
  have HP4 := hid @P4
  clear P1 P2 P3 P4 hR hm hvl hni s0 s1 s2 y0 y1 y2 hr0 hr1 hb0 hok hK
  have HSa := (Sep.start w).alloc #[.int .u32 op, .string nm, .slice A0 ni c0] 55
  have HT := HSa.nil 62 3
  go_enter Try.func4, Try.ntmps4
  go_wp2_with fail
  go_loopw [7, 8] (fun b i wr => ∃ (k cj : Nat) (B : Option Addr), k ≤ n1 ∧ i = .int .i64 k ∧ b = .slice B k cj ∧ Sep w wr (fun _ => False) (own 62 3 B k cj (crow (vs.take k)) :: blk w.heap.size 55 #[.int .u32 op, .string nm, .slice A0 ni c0] :: [])) (fun _ i _ => n1 - (intOf i).toNat)
  case atStart => exact ⟨0, 0, none, Nat.zero_le _, rfl, rfl, by simpa [crow] using HT⟩
  case round =>
    obtain ⟨k, cj, B, hk, rfl, rfl, HSk⟩ := hrel
    clear HT HSa
    by_cases hlt : k < n1
    · obtain ⟨ad, v, rfl, hvk, -, x1, x2, -, x4, -⟩ := (R1.out _).volAt HSk hlt
      have hj : (k : Int) < n1 := by omega
      have j0 : (0 : Int) ≤ k := by omega
      have HE : Aside (crow (vs.take k) ++ v.three = crow (vs.take (k + 1))) := ⟨by rw [List.take_add_one, hvk]; simp [crow]⟩
      have HVOL : Aside (∀ {W : World} {L' : List Asr}, Sep w W (fun _ => False) L' → W.cell? ⟨(ad.add (k * 6)).block, (ad.add (k * 6)).off + 1, none⟩ = some (.string v.nm) ∧ W.cell? ⟨(ad.add (k * 6)).block, (ad.add (k * 6)).off + 2, none⟩ = some (.int .u64 v.size) ∧ W.cell? ⟨(ad.add (k * 6)).block, (ad.add (k * 6)).off + 4, none⟩ = some (.bool v.fixed)) := ⟨by
        intro W L' H
        obtain ⟨ad', u, hA, hu, -, y1, y2, -, y4, -⟩ := (R1.out _).volAt H hlt
        injection hA with hA
        subst hA
        rw [hvk] at hu
        injection hu with hu
        subst hu
        exact ⟨y1, y2, y4⟩⟩
      clear hvk x1 x2 x4
      obtain ⟨vid, vnm, vsz, vrt, vfx, vor⟩ := v
      dsimp only [Vol.three] at HE HVOL
      have HL := (HSk.lit #[.string vnm, .int .u64 vsz, .bool vfx] 62 3 1 rfl (by decide)).up1
      have h1c : Aside (∀ u ∈ (#[.string vnm, .int .u64 vsz, .bool vfx] : Array Value).toList, u.oneCell' = true) := ⟨by
        intro u hu
        simp at hu
        rcases hu with rfl | rfl | rfl <;> rfl⟩
      have hrd := HL.rd1
      have hb1 : k + 1 ≤ maxLen := by simp only [maxLen]; omega
      have hb2 : (k + 1) * 32 ≤ 140737488355328 := by omega
      have Z0 := hid (HVOL.out HSk.drew)
      go_upto_region 5 with (fail)
      go_region_held_law (fun w' => w'.cell? ⟨(ad.add (k * 6)).block, (ad.add (k * 6)).off + 1, none⟩ = some (.string vnm) ∧ w'.cell? ⟨(ad.add (k * 6)).block, (ad.add (k * 6)).off + 2, none⟩ = some (.int .u64 vsz) ∧ w'.cell? ⟨(ad.add (k * 6)).block, (ad.add (k * 6)).off + 4, none⟩ = some (.bool vfx))
        (first | with_reducible exact Z2.out | with_reducible exact Z0.out | exact alloc3 (by assumption) | exact alloc3d (by assumption))
        (first | (refine step_append_sep rfl (.tmp 17) (.tmp 34) 57 rfl 62 i0 _ 3 32 Try.underlying57 hi0 hz0 hz1 hz2 rfl (by decide) rfl HL rfl hrd h1c.out hb1 hb2 rfl HE.out ?_; intro B3 c3 w3 HS3 hsz3; have Z2 := hid (HVOL.out HS3)))
      all_goals
        clear Z0 Z2
        go_wp2
        go_roundw
        case rel => exact ⟨k + 1, c3, B3, by omega, by go_num, rfl, HS3.sel 3 [0, 2]⟩
        case measure => simp [intOf]; omega
    · obtain rfl : n1 = k := by omega
      have hj : ¬ (n1 : Int) < n1 := by omega
      rw [List.take_of_length_le (by rw [HVL.out]; exact Nat.le_refl _)] at HSk
      have a0 := HSk.up1.blk_at 0 rfl
      have a1 := HSk.up1.blk_at 1 rfl
      have a2 := HSk.up1.blk_at 2 rfl
      go_wp2_with fail
      refine (HP1.out HSk).mono ?_
      rintro e w2 ⟨rs, A2, c2, hout, rfl, HS2⟩
      have HOUT := hid hout
      clear hout a0 a1 a2
      go_wp2_with fail
      refine (replies_calls HS2 Rb.i0 (by omega)).mono ?_
      rintro e w3 ⟨A3, c3, rfl, HS3⟩
      have HS3' : Sep w w3 (fun _ => False) (own 27 3 A3 m c3 (rrow rs) :: dataA 5 rs :: own 62 3 B n1 cj (crow vs) :: blk w.heap.size 55 #[.int .u32 op, .string nm, .slice A0 ni c0] :: []) := HS3.sel 5 [0, 2, 3, 4]
      clear HS2 HS3 HSk
      have a0 := HS3'.up3.blk_at 0 rfl
      go_wp2_with fail
      refine (HP3.out HS3').mono ?_
      rintro e w4 ⟨rfl, HS4⟩
      clear a0
      have HS5 := HS4.alloc #[.int .u32 op, .int .u32 K, .slice none 0 0] 27
      obtain ⟨g4, hg4⟩ : ∃ g, g = w4.heap.size := ⟨_, rfl⟩
      go_upto_region 8 with (fail)
      rw [← hg4] at HS5 ⊢
      obtain ⟨w5, hw5, HS6⟩ : ∃ W, W = w4.alloc (.cells #[.int .u32 op, .int .u32 K, .slice none 0 0] 27) ∧ Sep w W (fun _ => False) (blk g4 27 #[.int .u32 op, .int .u32 K, .slice none 0 0] :: own 27 3 A3 m c3 (rrow rs) :: dataA 5 rs :: own 62 3 B n1 cj (crow vs) :: blk w.heap.size 55 #[.int .u32 op, .string nm, .slice A0 ni c0] :: []) := ⟨_, rfl, HS5⟩
      rw [← hw5]
      clear hw5 HS5 HS4 HS3' hg4
      have HCL : Aside (∀ {W : World} {L' : List Asr}, Sep w W (fun _ => False) (blk g4 27 #[.int .u32 op, .int .u32 K, .slice none 0 0] :: blk w.heap.size 55 #[.int .u32 op, .string nm, .slice A0 ni c0] :: L') → W.cell? ⟨w.heap.size, 0, none⟩ = some (.int .u32 op) ∧ W.cell? ⟨w.heap.size, 1, none⟩ = some (.string nm) ∧ W.cell? ⟨w.heap.size, 2, none⟩ = some (.slice A0 ni c0) ∧ W.cell? ⟨g4, 0, none⟩ = some (.int .u32 op) ∧ W.cell? ⟨g4, 1, none⟩ = some (.int .u32 K) ∧ W.cell? ⟨g4, 2, none⟩ = some (.slice none 0 0)) := ⟨fun H => ⟨H.up1.blk_at 0 rfl, H.up1.blk_at 1 rfl, H.up1.blk_at 2 rfl, H.blk_at 0 rfl, H.blk_at 1 rfl, H.blk_at 2 rfl⟩⟩
      have HD := HS6.drew
      have Z0 := hid (HCL.out (HD.sel 5 [0, 4]))
      go_region_held_law (fun W => W.cell? ⟨w.heap.size, 0, none⟩ = some (.int .u32 op) ∧ W.cell? ⟨w.heap.size, 1, none⟩ = some (.string nm) ∧ W.cell? ⟨w.heap.size, 2, none⟩ = some (.slice A0 ni c0) ∧ W.cell? ⟨g4, 0, none⟩ = some (.int .u32 op) ∧ W.cell? ⟨g4, 1, none⟩ = some (.int .u32 K) ∧ W.cell? ⟨g4, 2, none⟩ = some (.slice none 0 0))
        (first | with_reducible exact Z5.out | with_reducible exact Z4.out | with_reducible exact Z3.out | with_reducible exact Z2.out | with_reducible exact Z1.out | with_reducible exact Z0.out | exact alloc6 (by assumption))
        (first
          | (go_at_call 30; (with_reducible refine (HP2.out HD (Rb.ownAt' 3 rfl)).mono ?_); rintro e w8 ⟨rs2, A8, c8, hout2, rfl, HS8⟩; have Z1 := hid (HCL.out (HS8.sel 7 [2, 6])); have HOUT2 := hid hout2; clear hout2)
          | (go_at_call 25; (with_reducible refine (rsame_true (rs := rs) (rs' := rs2) HS8 (Rb.ownAt' 3 rfl) (Rb.ownAt' 0 rfl) (HOUT.out.trans HOUT2.out.symm) (Rb.dat 4 rfl) (Rb.dat 1 rfl) (by omega)).mono ?_); rintro e w9 ⟨rfl, HS9⟩; have Z2 := hid (HCL.out (HS9.sel 7 [2, 6])); have HM9 : Sep w w9 (fun _ => False) (blk g4 27 #[.int .u32 op, .int .u32 K, .slice none 0 0] :: blk w.heap.size 55 #[.int .u32 op, .string nm, .slice A0 ni c0] :: []) := HS9.sel 7 [2, 6])
          | (go_at_call 31; (with_reducible refine (HP4.out HM9).mono ?_); rintro e w10 ⟨rfl, HS10⟩; have Z3 := hid (HCL.out HS10))
          | (go_at_call 31; (with_reducible refine (HP4.out (HM9.lit #[.int .u32 op, .int .u32 K, .slice none 0 0] 27 3 1 rfl (by decide))).mono ?_); rintro e w10 ⟨rfl, HS10⟩; have Z4 := hid (HCL.out (HS10.sel 3 [1, 2])))
          | (go_at_call 25; have HX := rsame_true (c := 1) (d := 1) (rs := [⟨op, K, none, 0, []⟩]) (rs' := [⟨op, K, none, 0, []⟩]) (HS10.lit #[.int .u32 op, .int .u32 K, .slice none 0 0] 27 3 1 rfl (by decide)) (Rb.ownAt' 1 rfl) (Rb.ownAt' 0 rfl) rfl (by intro r hr; obtain rfl := List.mem_singleton.1 hr; exact Rb.nil) (by intro r hr; obtain rfl := List.mem_singleton.1 hr; exact Rb.nil) (by decide); (with_reducible refine HX.mono ?_); rintro e w11 ⟨rfl, HS11⟩; have Z5 := hid (HCL.out (HS11.sel 4 [2, 3])))
          | (go_at_call 25; have HX := rsame_true (c := 1) (d := 1) (rs := [⟨op, K, none, 0, []⟩]) (rs' := [⟨op, K, none, 0, []⟩]) ((HS10.lit #[.int .u32 op, .int .u32 K, .slice none 0 0] 27 3 1 rfl (by decide)).litB #[.int .u32 op, .int .u32 K, .slice none 0 0] 27 3 1 rfl (by decide) (B := w10.heap.size + 1) (by simp)) (Rb.ownAt' 1 rfl) (Rb.ownAt' 0 rfl) rfl (by intro r hr; obtain rfl := List.mem_singleton.1 hr; exact Rb.nil) (by intro r hr; obtain rfl := List.mem_singleton.1 hr; exact Rb.nil) (by decide); (with_reducible refine HX.mono ?_); rintro e w11 ⟨rfl, HS11⟩; have Z5 := hid (HCL.out (HS11.sel 4 [2, 3])))
          | (go_at_call 25; have HX := rsame_true (c := 1) (d := 1) (rs := [⟨op, K, none, 0, []⟩]) (rs' := [⟨op, K, none, 0, []⟩]) ((HS10.lit #[.int .u32 op, .int .u32 K, .slice none 0 0] 27 3 1 rfl (by decide)).litB #[.int .u32 op, .int .u32 K, .slice none 0 0] 27 3 1 rfl (by decide) (B := w10.heap.size + 1) (by simp)) (Rb.ownAt' 0 rfl) (Rb.ownAt' 1 rfl) rfl (by intro r hr; obtain rfl := List.mem_singleton.1 hr; exact Rb.nil) (by intro r hr; obtain rfl := List.mem_singleton.1 hr; exact Rb.nil) (by decide); (with_reducible refine HX.mono ?_); rintro e w11 ⟨rfl, HS11⟩; have Z5 := hid (HCL.out (HS11.sel 4 [2, 3])))
          | (go_at_call 26; (with_reducible refine (wakes_calls HS11).mono ?_); rintro e w12 ⟨rfl, HS12⟩; have Z4 := hid (HCL.out (HS12.sel 4 [2, 3]))))
      all_goals
        go_wp2
        go_ret
        exact ⟨rfl, HS12.below⟩
end Go.Proofs.Ytgepekailoopeaa
