/-
  Contract of cisternref22.Answers.
-/
import Derived.Test.YtgepekailoopeaaRefAns0
import Derived.Test.YtgepekailoopeaaInfPR
import Derived.Test.YtgepekailoopeaaInfN
import Derived.Test.YtgepekailoopeaaHelH
namespace Go.Proofs.Ytgepekailoopeaa
open Go.RowKit
set_option linter.unusedVariables false
set_option linter.unusedSimpArgs false
/-- what the document's answer is told of a volume -/
def Vol.three (v : Vol) : List Value := [.string v.nm, .int .u64 v.size, .bool v.fixed]
def crow (l : List Vol) : List Value := l.flatMap Vol.three
theorem three_len (v : Vol) : v.three.length = 3 := rfl
theorem crow_len (l : List Vol) : (crow l).length = l.length * 3 := by
  induction l with
  | nil => rfl
  | cons v l ih =>
    have : crow (v :: l) = v.three ++ crow l := by simp [crow]
    rw [this, List.length_append, ih, three_len, List.length_cons]; omega
theorem crow_get (l : List Vol) : ∀ (i j : Nat), j < 3 → (crow l)[i * 3 + j]? = (l[i]?).bind fun x => x.three[j]? := by
  induction l with
  | nil => intro i j _; simp [crow]
  | cons x l ih =>
    intro i j hj
    have e : crow (x :: l) = x.three ++ crow l := by simp [crow]
    rw [e]
    cases i with
    | zero =>
      rw [Nat.zero_mul, Nat.zero_add, List.getElem?_append_left (by simpa [Vol.three] using hj)]
      simp
    | succ i =>
      rw [List.getElem?_append_right (by simp [Vol.three]; omega), show (i + 1) * 3 + j - x.three.length = i * 3 + j by rw [three_len]; omega, ih i j hj]
      simp
section
variable {w0 w : World} {O : Nat → Prop} {L : List Asr}
theorem Rb.cvolAt {A : Option Addr} {n k : Nat} {l : List Vol} (hr : Rb w0 O L 3 A n (crow l)) (HS : Sep w0 w O L) (hk : k < n) :
    ∃ ad v, A = some ad ∧ l[k]? = some v ∧ w.cell? (ad.add (k * 3)) = some (.string v.nm) ∧ w.cell? ⟨(ad.add (k * 3)).block, (ad.add (k * 3)).off + 1, none⟩ = some (.int .u64 v.size) ∧ w.cell? ⟨(ad.add (k * 3)).block, (ad.add (k * 3)).off + 2, none⟩ = some (.bool v.fixed) := by
  have hl : (crow l).length = n * 3 := hr.len HS
  rw [crow_len] at hl
  have hlt : k < l.length := by omega
  obtain ⟨ad, hA, _, hc⟩ := (hr.read HS).2 (by omega)
  have hv : l[k]? = some l[k] := List.getElem?_eq_getElem hlt
  have hh : ∀ i v, (l[k]).three[i]? = some v → i < 3 → w.cell? ((ad.add (k * 3)).add i) = some v := by
    intro i v hi h6
    rw [add_add]
    exact hc (k * 3 + i) v (by rw [crow_get l k i h6, hv]; exact hi)
  have hh' : ∀ i v, (l[k]).three[i]? = some v → i < 3 → 0 < i → w.cell? ⟨(ad.add (k * 3)).block, (ad.add (k * 3)).off + i, none⟩ = some v := by
    intro i v hi h6 h0
    have := hh i v hi h6
    rwa [show (ad.add (k * 3)).add i = ⟨(ad.add (k * 3)).block, (ad.add (k * 3)).off + i, none⟩ by unfold Addr.add; rw [if_neg (show ¬ i = 0 by omega)]] at this
  have h0 := hh 0 _ rfl (by decide)
  rw [show (ad.add (k * 3)).add 0 = ad.add (k * 3) by simp [Addr.add]] at h0
  exact ⟨ad, l[k], hA, hv, h0, hh' 1 _ rfl (by decide) (by decide), hh' 2 _ rfl (by decide) (by decide)⟩
theorem Sep.rsnoc {t te : TypeId} {r : Rp} {rs : List Rp} {B : Option Addr} {m c : Nat} {X : Asr} (h : Sep w0 w O (own te 3 B m c (rrow rs ++ r.cells) :: X :: dataA t rs :: own t 1 r.A r.d.length r.c (by8 r.d) :: L)) :
    Sep w0 w O (own te 3 B m c (rrow (rs ++ [r])) :: dataA t (rs ++ [r]) :: L) := by
  have h1 : Sep w0 w O (dataA t rs :: own t 1 r.A r.d.length r.c (by8 r.d) :: own te 3 B m c (rrow rs ++ r.cells) :: L) := h.sel 4 [2, 3, 0]
  have h2 := h1.dataSnoc
  rw [rrow_snoc]
  exact h2.up1
def RrOut (w0 : World) (O : Nat → Prop) (R : List (Int × Int × List Int)) (L : List Asr) : Ending → World → Prop := fun e w' =>
  ∃ (rs : List Rp) (A' : Option Addr) (c' : Nat), rs.map Rp.out = R ∧ e = .returned (.slice A' rs.length c') ∧ Sep w0 w' O (own 27 3 A' rs.length c' (rrow rs) :: dataA 5 rs :: L)
theorem rep_one (a b : Int) (D : Option Addr) (m c : Nat) : ∀ u ∈ (#[.int .u32 a, .int .u32 b, .slice D m c] : Array Value).toList, u.oneCell' = true := by
  intro u hu
  simp at hu
  rcases hu with rfl | rfl | rfl <;> rfl

set_option maxHeartbeats 16000000 in
set_option maxRecDepth 100000 in
theorem ranswers_two {wn : ByteArray} {Ai A : Option Addr} {ni ci n c : Nat} (HS : Sep w0 w O L) :
    Calls Try.prog 30 #[.agg #[.int .u32 2, .string wn, .slice Ai ni ci], .slice A n c] w (RrOut w0 O [(2, 1, [])] L) := by
  obtain ⟨Q, hQ⟩ : ∃ Q : Ending → World → Prop, Q = RrOut w0 O ([(2, 1, [])]) L := ⟨_, rfl⟩
  have HQ := hid hQ
  rw [← hQ]
  clear hQ
  obtain ⟨i0, hi0, hz0, hz1, hz2⟩ := info_parts info_rrep3
  have HSa := HS.alloc #[.int .u32 2, .string wn, .slice Ai ni ci] 55
  have HE : Sep w0 _ O (own 27 3 none 0 0 (rrow []) :: dataA 5 [] :: blk w.heap.size 55 #[.int .u32 2, .string wn, .slice Ai ni ci] :: L) := HSa.emp.nil 27 3
  have HL : Sep w0 _ O (own 27 3 none 0 0 (rrow []) :: own 27 3 (some ⟨w.heap.size + 1, 0, none⟩) 1 1 [.int .u32 2, .int .u32 1, .slice none 0 0] :: dataA 5 [] :: own 5 1 none ([] : List Int).length 0 (by8 []) :: blk w.heap.size 55 #[.int .u32 2, .string wn, .slice Ai ni ci] :: L) := ((HE.nil 5 1).litB #[.int .u32 2, .int .u32 1, .slice none 0 0] 27 3 1 rfl (by decide) (B := w.heap.size + 1) (by simp)).sel 5 [2, 0, 3, 1, 4]
  go_enter Try.func30, Try.ntmps30
  go_wp2_with (at_builtin; (refine wpList_append_sep rfl (.tmp 130) (.tmp 134) 50 rfl 27 i0 _ 3 32 Try.underlying50 hi0 hz0 hz1 hz2 rfl (by decide) rfl HL rfl HL.rd1 (rep_one 2 1 none 0 0) (by decide) (by decide) rfl rfl ?_; intro B5 c5 w5 HS5 hsz5))
  rw [HQ.out]
  have HZ := Sep.rsnoc (r := ⟨2, 1, none, 0, []⟩) (rs := []) HS5
  exact ⟨[⟨2, 1, none, 0, []⟩], B5, c5, rfl, rfl, HZ.sel 3 [0, 1]⟩

set_option maxHeartbeats 16000000 in
set_option maxRecDepth 100000 in
theorem ranswers_none {op : Int} {wn : ByteArray} {Ai A : Option Addr} {ni ci n c : Nat} (HS : Sep w0 w O L) (h2 : op ≠ 2) (h3 : op ≠ 3) (h6 : op ≠ 6) (h7 : op ≠ 7) :
    Calls Try.prog 30 #[.agg #[.int .u32 op, .string wn, .slice Ai ni ci], .slice A n c] w (RrOut w0 O [] L) := by
  obtain ⟨Q, hQ⟩ : ∃ Q : Ending → World → Prop, Q = RrOut w0 O ([]) L := ⟨_, rfl⟩
  have HQ := hid hQ
  rw [← hQ]
  clear hQ
  have HSa := HS.alloc #[.int .u32 op, .string wn, .slice Ai ni ci] 55
  have b2 : (op == 2) = false := by simpa using h2
  have b3 : (op == 3) = false := by simpa using h3
  have b6 : (op == 6) = false := by simpa using h6
  have b7 : (op == 7) = false := by simpa using h7
  clear h2 h3 h6 h7
  go_enter Try.func30, Try.ntmps30
  go_wp2
  rw [HQ.out]
  exact ⟨[], none, 0, rfl, rfl, HSa.drop.emp.nil _ _⟩

set_option maxHeartbeats 16000000 in
set_option maxRecDepth 100000 in
theorem ranswers_list {wn : ByteArray} {Ai A : Option Addr} {ni ci n c : Nat} {vs : List Vol} (HS : Sep w0 w O L) (hr : Rb w0 O L 3 A n (crow vs)) (hvn : vs.length = n) (hn : n ≤ 2513169434843) :
    Calls Try.prog 30 #[.agg #[.int .u32 3, .string wn, .slice Ai ni ci], .slice A n c] w (RrOut w0 O (namR 3 vs ++ [(3, 1, [])]) L) := by
  obtain ⟨Q, hQ⟩ : ∃ Q : Ending → World → Prop, Q = RrOut w0 O (namR 3 vs ++ [(3, 1, [])]) L := ⟨_, rfl⟩
  have HQ := hid hQ
  rw [← hQ]
  clear hQ
  obtain ⟨i0, hi0, hz0, hz1, hz2⟩ := info_parts info_rrep3
  have HSa := HS.alloc #[.int .u32 3, .string wn, .slice Ai ni ci] 55
  have HE : Sep w0 _ O (own 27 3 none 0 0 (rrow []) :: dataA 5 [] :: blk w.heap.size 55 #[.int .u32 3, .string wn, .slice Ai ni ci] :: L) := HSa.emp.nil 27 3
  have HVN := hid hvn
  clear hvn HSa HS
  go_enter Try.func30, Try.ntmps30
  go_wp2_with fail
  go_loopw [5, 6] (fun b i wr => ∃ (k m c2 : Nat) (B : Option Addr) (rs : List Rp), k ≤ n ∧ i = .int .i64 k ∧ b = .slice B m c2 ∧ Aside (rs.map Rp.out = namR 3 (vs.take k)) ∧ Aside (rs.length = m) ∧ m ≤ k ∧
    Sep w0 wr O (own 27 3 B m c2 (rrow rs) :: dataA 5 rs :: blk w.heap.size 55 #[.int .u32 3, .string wn, .slice Ai ni ci] :: L)) (fun _ i _ => n - (intOf i).toNat)
  case atStart => exact ⟨0, 0, 0, none, [], Nat.zero_le _, rfl, rfl, ⟨rfl⟩, ⟨rfl⟩, Nat.le_refl _, HE⟩
  case round =>
    obtain ⟨k, m, c2, B, rs, hk, rfl, rfl, hout, hrl, hmk, HS1⟩ := hrel
    clear HE
    by_cases hlt : k < n
    · obtain ⟨ad, v, rfl, hvk, x0, x1, x2⟩ := (hr.cons.cons.cons).cvolAt HS1 hlt
      have hj : (k : Int) < n := by omega
      have j0 : (0 : Int) ≤ k := by omega
      have HNS := hid (namR_succ (op := 3) hvk)
      clear hvk x1 x2
      obtain ⟨vnm, hvnm⟩ : ∃ x, x = v.nm := ⟨_, rfl⟩
      rw [← hvnm] at x0 HNS
      clear hvnm
      go_wp2_with fail
      refine (rputname_calls (nm := vnm) HS1).mono ?_
      rintro e w4 ⟨A4, c4, rfl, HS4⟩
      clear x0
      by_cases h16 : vnm.size ≤ 16
      · have hE : nameE vnm = 0 := by unfold nameE; rw [if_neg (by omega)]
        have H16 := hid h16
        rw [hE]
        obtain ⟨nb, hnb⟩ : ∃ nb, nameB vnm = nb := ⟨_, rfl⟩
        rw [hnb] at HS4 ⊢ HNS
        clear hE h16 hnb
        have HL : Sep w0 _ O (own 27 3 B m c2 (rrow rs) :: own 27 3 (some ⟨w4.heap.size, 0, none⟩) 1 1 [.int .u32 3, .int .u32 2, .slice A4 nb.length c4] :: dataA 5 rs :: own 5 1 A4 nb.length c4 (by8 nb) :: blk w.heap.size 55 #[.int .u32 3, .string wn, .slice Ai ni ci] :: L) := (HS4.lit #[.int .u32 3, .int .u32 2, .slice A4 nb.length c4] 27 3 1 rfl (by decide)).sel 5 [2, 0, 3, 1, 4]
        have hb1 : m + 1 ≤ maxLen := by simp only [maxLen]; omega
        have hb2 : (m + 1) * 32 ≤ 140737488355328 := by omega
        go_wp2_with (at_builtin; (refine wpList_append_sep rfl (.tmp 37) (.tmp 40) 50 rfl 27 i0 _ 3 32 Try.underlying50 hi0 hz0 hz1 hz2 rfl (by decide) rfl HL rfl HL.rd1 (rep_one 3 2 A4 nb.length c4) hb1 hb2 rfl rfl ?_; intro B5 c5 w5 HS5 hsz5))
        have HZ := Sep.rsnoc (r := ⟨3, 2, A4, c4, nb⟩) (rs := rs) HS5
        go_roundw
        case rel =>
          refine ⟨k + 1, m + 1, c5, B5, rs ++ [⟨3, 2, A4, c4, nb⟩], by omega, by go_num, rfl, ⟨?_⟩, ⟨?_⟩, by omega, HZ⟩
          · rw [HNS.out, if_pos H16.out, List.map_append, hout.out]; rfl
          · rw [List.length_append, hrl.out]; rfl
        case measure => simp [intOf]; omega
      · have hE : (nameE vnm == 0) = false := by unfold nameE; rw [if_pos (by omega)]; rfl
        have H16 := hid h16
        generalize nameE vnm = EE at *
        clear h16
        go_wp2
        go_roundw
        case rel =>
          refine ⟨k + 1, m, c2, B, rs, by omega, by go_num, rfl, ⟨?_⟩, hrl, by omega, HS4.drop⟩
          rw [HNS.out, if_neg H16.out, List.append_nil, hout.out]
        case measure => simp [intOf]; omega
    · obtain rfl : n = k := by omega
      have hj : ¬ (n : Int) < n := by omega
      have o0 := HS1.up2.blk_at 0 rfl
      have HL : Sep w0 _ O (own 27 3 B m c2 (rrow rs) :: own 27 3 (some ⟨wr.heap.size, 0, none⟩) 1 1 [.int .u32 3, .int .u32 1, .slice none 0 0] :: dataA 5 rs :: own 5 1 none ([] : List Int).length 0 (by8 []) :: blk w.heap.size 55 #[.int .u32 3, .string wn, .slice Ai ni ci] :: L) := ((HS1.nil 5 1).lit #[.int .u32 3, .int .u32 1, .slice none 0 0] 27 3 1 rfl (by decide)).sel 5 [2, 0, 3, 1, 4]
      have hb1 : m + 1 ≤ maxLen := by simp only [maxLen]; omega
      have hb2 : (m + 1) * 32 ≤ 140737488355328 := by omega
      go_wp2_with (at_builtin; (refine wpList_append_sep rfl (.tmp 130) (.tmp 134) 50 rfl 27 i0 _ 3 32 Try.underlying50 hi0 hz0 hz1 hz2 rfl (by decide) rfl HL rfl HL.rd1 (rep_one 3 1 none 0 0) hb1 hb2 rfl rfl ?_; intro B5 c5 w5 HS5 hsz5))
      have HZ := Sep.rsnoc (r := ⟨3, 1, none, 0, []⟩) (rs := rs) HS5
      have hlen : (rs ++ [(⟨3, 1, none, 0, []⟩ : Rp)]).length = m + 1 := by rw [List.length_append, hrl.out]; rfl
      have htk : vs.take n = vs := List.take_of_length_le (by rw [HVN.out]; exact Nat.le_refl _)
      rw [HQ.out]
      refine ⟨rs ++ [⟨3, 1, none, 0, []⟩], B5, c5, ?_, by rw [hlen], by rw [hlen]; exact HZ.sel 3 [0, 1]⟩
      rw [List.map_append, hout.out, htk]
      rfl

theorem vPos_at {vs : List Vol} {wn : ByteArray} {k : Nat} {v : Vol} (hv : vs[k]? = some v) (hb : (v.nm.toList == wn.toList) = true) (hnot : ∀ v ∈ vs.take k, (v.nm.toList == wn.toList) = false) : vPos vs wn = some k := by
  unfold vPos
  rw [List.findIdx?_eq_some_iff_getElem]
  obtain ⟨hlt', hev⟩ := List.getElem?_eq_some_iff.1 hv
  refine ⟨hlt', by rw [hev]; exact hb, fun j hj => ?_⟩
  have : vs[j]'(by omega) ∈ vs.take k := by
    rw [List.mem_take_iff_getElem]
    exact ⟨j, by omega, rfl⟩
  rw [hnot _ this]
  simp
theorem vPos_no {vs : List Vol} {wn : ByteArray} (hnot : ∀ v ∈ vs, (v.nm.toList == wn.toList) = false) : vPos vs wn = none := by
  unfold vPos
  rw [List.findIdx?_eq_none_iff]
  intro v hv
  simpa using hnot v hv

set_option maxHeartbeats 16000000 in
set_option maxRecDepth 100000 in
theorem ranswers_6 {wn : ByteArray} {Ai A : Option Addr} {ni ci n c : Nat} {vs : List Vol} {inf : List Int} (HS : Sep w0 w O L) (hr : Rb w0 O L 3 A n (crow vs)) (hvn : vs.length = n) (hn : n ≤ 2513169434843) (hok : ∀ v ∈ vs, v.Ok) (hri : Rb w0 O L 1 Ai ni (kv .u16 inf)) (hni : ni ≤ 70368744177664) :
    Calls Try.prog 30 #[.agg #[.int .u32 6, .string wn, .slice Ai ni ci], .slice A n c] w (RrOut w0 O (ansR 6 wn inf vs) L) := by
  obtain ⟨Q, hQ⟩ : ∃ Q : Ending → World → Prop, Q = RrOut w0 O (ansR 6 wn inf vs) L := ⟨_, rfl⟩
  have HQ := hid hQ
  rw [← hQ]
  clear hQ
  obtain ⟨i0, hi0, hz0, hz1, hz2⟩ := info_parts info_rrep3
  have HSa := HS.alloc #[.int .u32 6, .string wn, .slice Ai ni ci] 55
  have HVN := hid hvn
  have HOK := hid hok
  have HAN : Aside (ansR 6 wn inf vs = (match (vPos vs wn).bind (fun k => vs[k]?) with
    | none => [(6, 2147483654, [])]
    | some v => expR 6 v.nm v.size v.fixed inf ++ [(6, 1, [])])) := ⟨by unfold ansR; rw [if_neg (by decide), if_pos (by decide)]; rfl⟩
  clear hvn HS hok
  go_enter Try.func30, Try.ntmps30
  go_wp2_with fail
  go_loopw [9] (fun i wr => ∃ k : Nat, k ≤ n ∧ i = .int .i64 k ∧ Aside (∀ v ∈ vs.take k, (v.nm.toList == wn.toList) = false) ∧ Sep w0 wr O (blk w.heap.size 55 #[.int .u32 6, .string wn, .slice Ai ni ci] :: L)) (fun i _ => n - (intOf i).toNat)
  case atStart => exact ⟨0, Nat.zero_le _, rfl, ⟨by simp⟩, HSa⟩
  case round =>
    obtain ⟨k, hk, rfl, hnot, HS1⟩ := hrel
    clear HSa
    by_cases hlt : k < n
    · obtain ⟨ad, v, rfl, hvk, x0, x1, x2⟩ := hr.cons.cvolAt HS1 hlt
      have hj : (k : Int) < n := by omega
      have j0 : (0 : Int) ≤ k := by omega
      have HVK := hid hvk
      have hvok : v.Ok := HOK.out v (List.mem_of_getElem? hvk)
      have HVOL : Aside (∀ {W : World} {L' : List Asr}, Sep w0 W O L' → Rb w0 O L' 3 (some ad) n (crow vs) → W.cell? (ad.add (k * 3)) = some (.string v.nm) ∧ W.cell? ⟨(ad.add (k * 3)).block, (ad.add (k * 3)).off + 1, none⟩ = some (.int .u64 v.size) ∧ W.cell? ⟨(ad.add (k * 3)).block, (ad.add (k * 3)).off + 2, none⟩ = some (.bool v.fixed)) := ⟨by
        intro W L' H R
        obtain ⟨ad', u, hA, hu, y0, y1, y2⟩ := R.cvolAt H hlt
        injection hA with hA
        subst hA
        rw [HVK.out] at hu
        injection hu with hu
        subst hu
        exact ⟨y0, y1, y2⟩⟩
      obtain ⟨vid, vnm, vsz, vrt, vfx, vor⟩ := v
      dsimp only at x0 x1 x2 HVOL
      obtain ⟨_, ⟨z0, z1⟩, _, _, hvn9⟩ := hvok
      dsimp only at z0 z1 hvn9
      have Z1 := hid z1
      clear hvk z1
      cases hB : (vnm.toList == wn.toList)
      · have o1 := HS1.blk_at 1 rfl
        go_upto_region 15 with (fail)
        go_quiet (fail)
        have HS2 := HS1.drewN nq
        have HBB := hid hB
        clear x0 x1 x2 o1 hB
        go_wp2
        go_roundw
        case rel =>
          refine ⟨k + 1, by omega, by go_num, ⟨?_⟩, HS2⟩
          intro u hu
          rw [List.take_add_one, HVK.out] at hu
          rcases List.mem_append.1 hu with hu | hu
          · exact hnot.out u hu
          · simp at hu; subst hu; exact HBB.out
        case measure => simp [intOf]; omega
      · have hpos : vPos vs wn = some k := vPos_at HVK.out hB hnot.out
        have HANS : Aside (ansR 6 wn inf vs = expR 6 vnm vsz vfx inf ++ [(6, 1, [])]) := ⟨by
          rw [HAN.out, hpos]
          simp only [Option.bind_some, HVK.out]⟩
        have hkn : ((k : Int) == n) = false := by simp; omega
        clear hpos
        have o1 := HS1.blk_at 1 rfl
        go_upto_region 15 with (fail)
        go_quiet (fail)
        obtain ⟨w6, hw6, HS6⟩ : ∃ W, W = wr.drewN nq ∧ Sep w0 W O (blk w.heap.size 55 #[.int .u32 6, .string wn, .slice Ai ni ci] :: L) := ⟨_, rfl, HS1.drewN nq⟩
        rw [← hw6]
        clear x0 x1 x2 o1 hw6 HS1
        obtain ⟨x0, x1, x2⟩ := HVOL.out HS6 hr.cons
        have HE : Sep w0 w6 O (own 27 3 none 0 0 (rrow []) :: dataA 5 [] :: blk w.heap.size 55 #[.int .u32 6, .string wn, .slice Ai ni ci] :: L) := HS6.emp.nil 27 3
        have o0 := HS6.blk_at 0 rfl
        have o1 := HS6.blk_at 1 rfl
        have o2 := HS6.blk_at 2 rfl
        obtain ⟨D3, hD3⟩ : ∃ D, D = be 2 3 ++ be 4 1 ++ be 4 256 ++ be 4 4096 := ⟨_, rfl⟩
        have HP3 : Aside (∀ {W : World} {L' : List Asr}, Sep w0 W O L' → Calls Try.prog 50 #[.agg #[.int .u16 3, .int .u64 0, .int .u16 0, .string eStr, .int .u32 1, .int .u32 256, .int .u32 4096]] W (InfOut w0 O 0 D3 L')) := ⟨by
          intro W L' H
          rw [hD3]
          exact rputinfo3_ok H (by decide) (by decide) (by decide) (by decide) (by decide) (by decide) (by decide) (by decide) (by decide) (by decide) rfl ⟨rfl, rfl⟩⟩
        obtain ⟨F, D0, hF, hD0, HP0⟩ : ∃ (F : Int) (D0 : List Int), F = (if vfx then 111 else 109) ∧ D0 = be 2 0 ++ be 8 vsz ++ be 2 F ∧ Aside (∀ {W : World} {L' : List Asr}, Sep w0 W O L' → Calls Try.prog 50 #[.agg #[.int .u16 0, .int .u64 vsz, .int .u16 F, .string eStr, .int .u32 0, .int .u32 0, .int .u32 0]] W (InfOut w0 O 0 D0 L')) := by
          refine ⟨_, _, rfl, rfl, ⟨?_⟩⟩
          intro W L' H
          exact rputinfo0_ok H z0 Z1.out (by cases vfx <;> decide) (by cases vfx <;> decide) (by decide) (by decide) (by decide) (by decide) (by decide) (by decide) rfl ⟨rfl, rfl, rfl⟩
        have HEX : Aside (expR 6 vnm vsz vfx inf = [(6, 3, D0)] ++ (if vnm.size ≤ 16 ∧ 1 ∈ inf then [(6, 3, be 2 1 ++ strInts vnm)] else []) ++ (if 3 ∈ inf then [(6, 3, D3)] else [])) := ⟨by rw [hD0, hF, hD3]; rfl⟩
        rw [HEX.out] at HANS
        clear hD0 hD3
        have HA : ∀ (x : Int) (b : Bool), decide (x ∈ inf) = b → Aside (∀ {W : World} {L' : List Asr}, Sep w0 W O L' → Rb w0 O L' 1 Ai ni (kv .u16 inf) → Calls Try.prog 72 #[.agg #[.int .u32 6, .string wn, .slice Ai ni ci], .int .u16 x] W fun e w' => e = .returned (.bool b) ∧ Sep w0 w' O L') := by
          intro x b hb
          refine ⟨?_⟩
          intro W L' H R
          rw [← hb]
          exact rasked_calls H R hni
        by_cases g1 : 1 ∈ inf <;> by_cases g3 : 3 ∈ inf <;> by_cases g16 : vnm.size ≤ 16
        · rw [if_pos ⟨g16, g1⟩, if_pos g3] at HANS
          obtain ⟨D1, hD1⟩ : ∃ D, D = be 2 1 ++ strInts vnm := ⟨_, rfl⟩
          have HP1 : Aside (∀ {W : World} {L' : List Asr}, Sep w0 W O L' → Calls Try.prog 50 #[.agg #[.int .u16 1, .int .u64 0, .int .u16 0, .string vnm, .int .u32 0, .int .u32 0, .int .u32 0]] W (InfOut w0 O 0 D1 L')) := ⟨by
            intro W L' H
            rw [hD1]
            exact rputinfo1_ok H (by decide) (by decide) (by decide) (by decide) (by decide) (by decide) (by decide) (by decide) (by decide) (by decide) ⟨rfl, rfl, rfl, rfl, rfl⟩ (by omega)⟩
          rw [← hD1] at HANS
          clear hD1
          have HA1 := (HA 1 true (decide_eq_true g1))
          have HA3 := (HA 3 true (decide_eq_true g3))
          clear HA g1 g3 g16 hB HAN HEX
          rcases vfx with _ | _
          all_goals
            simp only [Bool.false_eq_true, if_false, if_true] at hF
            subst hF
            go_wp2_with fail
            refine (HP0.out HE).mono ?_
            rintro e w11 ⟨A11, c11, rfl, HS11⟩
            clear x0 x1 x2 o0 o1 o2
            have HL12 : Sep w0 _ O (own 27 3 none 0 0 (rrow []) :: own 27 3 (some ⟨w11.heap.size, 0, none⟩) 1 1 [.int .u32 6, .int .u32 3, .slice A11 D0.length c11] :: dataA 5 [] :: own 5 1 A11 D0.length c11 (by8 D0) :: blk w.heap.size 55 #[.int .u32 6, .string wn, .slice Ai ni ci] :: L) := (HS11.lit #[.int .u32 6, .int .u32 3, .slice A11 D0.length c11] 27 3 1 rfl (by decide)).sel 5 [2, 0, 3, 1, 4]
            have o0 := HS11.up3.blk_at 0 rfl
            go_wp2_with (at_builtin; (refine wpList_append_sep rfl (.tmp 85) (.tmp 90) 50 rfl 27 i0 _ 3 32 Try.underlying50 hi0 hz0 hz1 hz2 rfl (by decide) rfl HL12 rfl HL12.rd1 (rep_one 6 3 A11 (D0.length) c11) (by decide) (by decide) rfl rfl ?_; intro B12 c12 w12 HS12 hsz12; have HZ12 := Sep.rsnoc (r := ⟨6, 3, A11, c11, D0⟩) (rs := []) HS12; clear o0; have x0 := (HVOL.out HZ12 hr.cons.cons.cons).1; have o0 := HZ12.up2.blk_at 0 rfl; have o1 := HZ12.up2.blk_at 1 rfl; have o2 := HZ12.up2.blk_at 2 rfl))
            refine (HP1.out HZ12).mono ?_
            rintro e w13 ⟨A13, c13, rfl, HS13⟩
            clear x0 o0 o1 o2
            have o0 := HS13.up3.blk_at 0 rfl
            have o1 := HS13.up3.blk_at 1 rfl
            have o2 := HS13.up3.blk_at 2 rfl
            go_wp2_with fail
            refine (HA1.out HS13 hri.cons.cons.cons.cons).mono ?_
            rintro e w14 ⟨rfl, HS14⟩
            clear o0 o1 o2
            have HL15 : Sep w0 _ O (own 27 3 B12 1 c12 (rrow [⟨6, 3, A11, c11, D0⟩]) :: own 27 3 (some ⟨w14.heap.size, 0, none⟩) 1 1 [.int .u32 6, .int .u32 3, .slice A13 D1.length c13] :: dataA 5 [⟨6, 3, A11, c11, D0⟩] :: own 5 1 A13 D1.length c13 (by8 D1) :: blk w.heap.size 55 #[.int .u32 6, .string wn, .slice Ai ni ci] :: L) := (HS14.lit #[.int .u32 6, .int .u32 3, .slice A13 D1.length c13] 27 3 1 rfl (by decide)).sel 5 [2, 0, 3, 1, 4]
            have o0 := HS14.up3.blk_at 0 rfl
            go_wp2_with (at_builtin; (refine wpList_append_sep rfl (.tmp 108) (.tmp 113) 50 rfl 27 i0 _ 3 32 Try.underlying50 hi0 hz0 hz1 hz2 rfl (by decide) rfl HL15 rfl HL15.rd1 (rep_one 6 3 A13 (D1.length) c13) (by decide) (by decide) rfl rfl ?_; intro B15 c15 w15 HS15 hsz15; have HZ15 := Sep.rsnoc (r := ⟨6, 3, A13, c13, D1⟩) (rs := [⟨6, 3, A11, c11, D0⟩]) HS15; clear o0; have o0 := HZ15.up2.blk_at 0 rfl; have o1 := HZ15.up2.blk_at 1 rfl; have o2 := HZ15.up2.blk_at 2 rfl))
            refine (HA3.out HZ15 hri.cons.cons.cons).mono ?_
            rintro e w16 ⟨rfl, HS16⟩
            clear o0 o1 o2
            go_wp2_with fail
            refine (HP3.out HS16).mono ?_
            rintro e w17 ⟨A17, c17, rfl, HS17⟩
            have HL18 : Sep w0 _ O (own 27 3 B15 2 c15 (rrow [⟨6, 3, A11, c11, D0⟩, ⟨6, 3, A13, c13, D1⟩]) :: own 27 3 (some ⟨w17.heap.size, 0, none⟩) 1 1 [.int .u32 6, .int .u32 3, .slice A17 D3.length c17] :: dataA 5 [⟨6, 3, A11, c11, D0⟩, ⟨6, 3, A13, c13, D1⟩] :: own 5 1 A17 D3.length c17 (by8 D3) :: blk w.heap.size 55 #[.int .u32 6, .string wn, .slice Ai ni ci] :: L) := (HS17.lit #[.int .u32 6, .int .u32 3, .slice A17 D3.length c17] 27 3 1 rfl (by decide)).sel 5 [2, 0, 3, 1, 4]
            have o0 := HS17.up3.blk_at 0 rfl
            go_wp2_with (at_builtin; first | (refine wpList_append_sep rfl (.tmp 123) (.tmp 128) 50 rfl 27 i0 _ 3 32 Try.underlying50 hi0 hz0 hz1 hz2 rfl (by decide) rfl HL18 rfl HL18.rd1 (rep_one 6 3 A17 (D3.length) c17) (by decide) (by decide) rfl rfl ?_; intro B18 c18 w18 HS18 hsz18; have HZ18 := Sep.rsnoc (r := ⟨6, 3, A17, c17, D3⟩) (rs := [⟨6, 3, A11, c11, D0⟩, ⟨6, 3, A13, c13, D1⟩]) HS18; clear o0; have o0 := HZ18.up2.blk_at 0 rfl; have HLZ : Sep w0 _ O (own 27 3 B18 3 c18 (rrow [⟨6, 3, A11, c11, D0⟩, ⟨6, 3, A13, c13, D1⟩, ⟨6, 3, A17, c17, D3⟩]) :: own 27 3 (some ⟨w18.heap.size, 0, none⟩) 1 1 [.int .u32 6, .int .u32 1, .slice none 0 0] :: dataA 5 [⟨6, 3, A11, c11, D0⟩, ⟨6, 3, A13, c13, D1⟩, ⟨6, 3, A17, c17, D3⟩] :: own 5 1 none ([] : List Int).length 0 (by8 []) :: blk w.heap.size 55 #[.int .u32 6, .string wn, .slice Ai ni ci] :: L) := ((HZ18.nil 5 1).lit #[.int .u32 6, .int .u32 1, .slice none 0 0] 27 3 1 rfl (by decide)).sel 5 [2, 0, 3, 1, 4]) | (refine wpList_append_sep rfl (.tmp 130) (.tmp 134) 50 rfl 27 i0 _ 3 32 Try.underlying50 hi0 hz0 hz1 hz2 rfl (by decide) rfl HLZ rfl HLZ.rd1 (rep_one 6 1 none (0) 0) (by decide) (by decide) rfl rfl ?_; intro B19 c19 w19 HS19 hsz19))
            have HZ19 := Sep.rsnoc (r := ⟨6, 1, none, 0, []⟩) (rs := [⟨6, 3, A11, c11, D0⟩, ⟨6, 3, A13, c13, D1⟩, ⟨6, 3, A17, c17, D3⟩]) HS19
            rw [HQ.out]
            refine ⟨[⟨6, 3, A11, c11, D0⟩, ⟨6, 3, A13, c13, D1⟩, ⟨6, 3, A17, c17, D3⟩, ⟨6, 1, none, 0, []⟩], B19, c19, ?_, rfl, HZ19.sel 3 [0, 1]⟩
            rw [HANS.out]
            rfl
        · rw [if_neg (fun h => g16 h.1), if_pos g3] at HANS
          obtain ⟨D1, hD1⟩ : ∃ D : List Int, D = [] := ⟨_, rfl⟩
          have HP1 : Aside (∀ {W : World} {L' : List Asr}, Sep w0 W O L' → Calls Try.prog 50 #[.agg #[.int .u16 1, .int .u64 0, .int .u16 0, .string vnm, .int .u32 0, .int .u32 0, .int .u32 0]] W (InfOut w0 O 3 D1 L')) := ⟨by
            intro W L' H
            rw [hD1]
            exact rputinfo1_long H (by decide) (by decide) (by decide) (by decide) (by decide) (by decide) (by decide) (by decide) (by decide) (by decide) ⟨rfl, rfl, rfl, rfl, rfl⟩ (by omega)⟩
          clear hD1
          have HA1 := (HA 1 true (decide_eq_true g1))
          have HA3 := (HA 3 true (decide_eq_true g3))
          clear HA g1 g3 g16 hB HAN HEX
          rcases vfx with _ | _
          all_goals
            simp only [Bool.false_eq_true, if_false, if_true] at hF
            subst hF
            go_wp2_with fail
            refine (HP0.out HE).mono ?_
            rintro e w11 ⟨A11, c11, rfl, HS11⟩
            clear x0 x1 x2 o0 o1 o2
            have HL12 : Sep w0 _ O (own 27 3 none 0 0 (rrow []) :: own 27 3 (some ⟨w11.heap.size, 0, none⟩) 1 1 [.int .u32 6, .int .u32 3, .slice A11 D0.length c11] :: dataA 5 [] :: own 5 1 A11 D0.length c11 (by8 D0) :: blk w.heap.size 55 #[.int .u32 6, .string wn, .slice Ai ni ci] :: L) := (HS11.lit #[.int .u32 6, .int .u32 3, .slice A11 D0.length c11] 27 3 1 rfl (by decide)).sel 5 [2, 0, 3, 1, 4]
            have o0 := HS11.up3.blk_at 0 rfl
            go_wp2_with (at_builtin; (refine wpList_append_sep rfl (.tmp 85) (.tmp 90) 50 rfl 27 i0 _ 3 32 Try.underlying50 hi0 hz0 hz1 hz2 rfl (by decide) rfl HL12 rfl HL12.rd1 (rep_one 6 3 A11 (D0.length) c11) (by decide) (by decide) rfl rfl ?_; intro B12 c12 w12 HS12 hsz12; have HZ12 := Sep.rsnoc (r := ⟨6, 3, A11, c11, D0⟩) (rs := []) HS12; clear o0; have x0 := (HVOL.out HZ12 hr.cons.cons.cons).1; have o0 := HZ12.up2.blk_at 0 rfl; have o1 := HZ12.up2.blk_at 1 rfl; have o2 := HZ12.up2.blk_at 2 rfl))
            refine (HP1.out HZ12).mono ?_
            rintro e w13 ⟨A13, c13, rfl, HS13⟩
            clear x0 o0 o1 o2
            have o0 := HS13.up3.blk_at 0 rfl
            have o1 := HS13.up3.blk_at 1 rfl
            have o2 := HS13.up3.blk_at 2 rfl
            have HZ13 := HS13.drop
            go_wp2_with fail
            refine (HA3.out HZ13 hri.cons.cons.cons).mono ?_
            rintro e w16 ⟨rfl, HS16⟩
            clear o0 o1 o2
            go_wp2_with fail
            refine (HP3.out HS16).mono ?_
            rintro e w17 ⟨A17, c17, rfl, HS17⟩
            have HL18 : Sep w0 _ O (own 27 3 B12 1 c12 (rrow [⟨6, 3, A11, c11, D0⟩]) :: own 27 3 (some ⟨w17.heap.size, 0, none⟩) 1 1 [.int .u32 6, .int .u32 3, .slice A17 D3.length c17] :: dataA 5 [⟨6, 3, A11, c11, D0⟩] :: own 5 1 A17 D3.length c17 (by8 D3) :: blk w.heap.size 55 #[.int .u32 6, .string wn, .slice Ai ni ci] :: L) := (HS17.lit #[.int .u32 6, .int .u32 3, .slice A17 D3.length c17] 27 3 1 rfl (by decide)).sel 5 [2, 0, 3, 1, 4]
            have o0 := HS17.up3.blk_at 0 rfl
            go_wp2_with (at_builtin; first | (refine wpList_append_sep rfl (.tmp 123) (.tmp 128) 50 rfl 27 i0 _ 3 32 Try.underlying50 hi0 hz0 hz1 hz2 rfl (by decide) rfl HL18 rfl HL18.rd1 (rep_one 6 3 A17 (D3.length) c17) (by decide) (by decide) rfl rfl ?_; intro B18 c18 w18 HS18 hsz18; have HZ18 := Sep.rsnoc (r := ⟨6, 3, A17, c17, D3⟩) (rs := [⟨6, 3, A11, c11, D0⟩]) HS18; clear o0; have o0 := HZ18.up2.blk_at 0 rfl; have HLZ : Sep w0 _ O (own 27 3 B18 2 c18 (rrow [⟨6, 3, A11, c11, D0⟩, ⟨6, 3, A17, c17, D3⟩]) :: own 27 3 (some ⟨w18.heap.size, 0, none⟩) 1 1 [.int .u32 6, .int .u32 1, .slice none 0 0] :: dataA 5 [⟨6, 3, A11, c11, D0⟩, ⟨6, 3, A17, c17, D3⟩] :: own 5 1 none ([] : List Int).length 0 (by8 []) :: blk w.heap.size 55 #[.int .u32 6, .string wn, .slice Ai ni ci] :: L) := ((HZ18.nil 5 1).lit #[.int .u32 6, .int .u32 1, .slice none 0 0] 27 3 1 rfl (by decide)).sel 5 [2, 0, 3, 1, 4]) | (refine wpList_append_sep rfl (.tmp 130) (.tmp 134) 50 rfl 27 i0 _ 3 32 Try.underlying50 hi0 hz0 hz1 hz2 rfl (by decide) rfl HLZ rfl HLZ.rd1 (rep_one 6 1 none (0) 0) (by decide) (by decide) rfl rfl ?_; intro B19 c19 w19 HS19 hsz19))
            have HZ19 := Sep.rsnoc (r := ⟨6, 1, none, 0, []⟩) (rs := [⟨6, 3, A11, c11, D0⟩, ⟨6, 3, A17, c17, D3⟩]) HS19
            rw [HQ.out]
            refine ⟨[⟨6, 3, A11, c11, D0⟩, ⟨6, 3, A17, c17, D3⟩, ⟨6, 1, none, 0, []⟩], B19, c19, ?_, rfl, HZ19.sel 3 [0, 1]⟩
            rw [HANS.out]
            rfl
        · rw [if_pos ⟨g16, g1⟩, if_neg g3] at HANS
          obtain ⟨D1, hD1⟩ : ∃ D, D = be 2 1 ++ strInts vnm := ⟨_, rfl⟩
          have HP1 : Aside (∀ {W : World} {L' : List Asr}, Sep w0 W O L' → Calls Try.prog 50 #[.agg #[.int .u16 1, .int .u64 0, .int .u16 0, .string vnm, .int .u32 0, .int .u32 0, .int .u32 0]] W (InfOut w0 O 0 D1 L')) := ⟨by
            intro W L' H
            rw [hD1]
            exact rputinfo1_ok H (by decide) (by decide) (by decide) (by decide) (by decide) (by decide) (by decide) (by decide) (by decide) (by decide) ⟨rfl, rfl, rfl, rfl, rfl⟩ (by omega)⟩
          rw [← hD1] at HANS
          clear hD1
          have HA1 := (HA 1 true (decide_eq_true g1))
          have HA3 := (HA 3 false (decide_eq_false g3))
          clear HA g1 g3 g16 hB HAN HEX
          rcases vfx with _ | _
          all_goals
            simp only [Bool.false_eq_true, if_false, if_true] at hF
            subst hF
            go_wp2_with fail
            refine (HP0.out HE).mono ?_
            rintro e w11 ⟨A11, c11, rfl, HS11⟩
            clear x0 x1 x2 o0 o1 o2
            have HL12 : Sep w0 _ O (own 27 3 none 0 0 (rrow []) :: own 27 3 (some ⟨w11.heap.size, 0, none⟩) 1 1 [.int .u32 6, .int .u32 3, .slice A11 D0.length c11] :: dataA 5 [] :: own 5 1 A11 D0.length c11 (by8 D0) :: blk w.heap.size 55 #[.int .u32 6, .string wn, .slice Ai ni ci] :: L) := (HS11.lit #[.int .u32 6, .int .u32 3, .slice A11 D0.length c11] 27 3 1 rfl (by decide)).sel 5 [2, 0, 3, 1, 4]
            have o0 := HS11.up3.blk_at 0 rfl
            go_wp2_with (at_builtin; (refine wpList_append_sep rfl (.tmp 85) (.tmp 90) 50 rfl 27 i0 _ 3 32 Try.underlying50 hi0 hz0 hz1 hz2 rfl (by decide) rfl HL12 rfl HL12.rd1 (rep_one 6 3 A11 (D0.length) c11) (by decide) (by decide) rfl rfl ?_; intro B12 c12 w12 HS12 hsz12; have HZ12 := Sep.rsnoc (r := ⟨6, 3, A11, c11, D0⟩) (rs := []) HS12; clear o0; have x0 := (HVOL.out HZ12 hr.cons.cons.cons).1; have o0 := HZ12.up2.blk_at 0 rfl; have o1 := HZ12.up2.blk_at 1 rfl; have o2 := HZ12.up2.blk_at 2 rfl))
            refine (HP1.out HZ12).mono ?_
            rintro e w13 ⟨A13, c13, rfl, HS13⟩
            clear x0 o0 o1 o2
            have o0 := HS13.up3.blk_at 0 rfl
            have o1 := HS13.up3.blk_at 1 rfl
            have o2 := HS13.up3.blk_at 2 rfl
            go_wp2_with fail
            refine (HA1.out HS13 hri.cons.cons.cons.cons).mono ?_
            rintro e w14 ⟨rfl, HS14⟩
            clear o0 o1 o2
            have HL15 : Sep w0 _ O (own 27 3 B12 1 c12 (rrow [⟨6, 3, A11, c11, D0⟩]) :: own 27 3 (some ⟨w14.heap.size, 0, none⟩) 1 1 [.int .u32 6, .int .u32 3, .slice A13 D1.length c13] :: dataA 5 [⟨6, 3, A11, c11, D0⟩] :: own 5 1 A13 D1.length c13 (by8 D1) :: blk w.heap.size 55 #[.int .u32 6, .string wn, .slice Ai ni ci] :: L) := (HS14.lit #[.int .u32 6, .int .u32 3, .slice A13 D1.length c13] 27 3 1 rfl (by decide)).sel 5 [2, 0, 3, 1, 4]
            have o0 := HS14.up3.blk_at 0 rfl
            go_wp2_with (at_builtin; (refine wpList_append_sep rfl (.tmp 108) (.tmp 113) 50 rfl 27 i0 _ 3 32 Try.underlying50 hi0 hz0 hz1 hz2 rfl (by decide) rfl HL15 rfl HL15.rd1 (rep_one 6 3 A13 (D1.length) c13) (by decide) (by decide) rfl rfl ?_; intro B15 c15 w15 HS15 hsz15; have HZ15 := Sep.rsnoc (r := ⟨6, 3, A13, c13, D1⟩) (rs := [⟨6, 3, A11, c11, D0⟩]) HS15; clear o0; have o0 := HZ15.up2.blk_at 0 rfl; have o1 := HZ15.up2.blk_at 1 rfl; have o2 := HZ15.up2.blk_at 2 rfl))
            refine (HA3.out HZ15 hri.cons.cons.cons).mono ?_
            rintro e w16 ⟨rfl, HS16⟩
            clear o0 o1 o2
            have HL19 : Sep w0 _ O (own 27 3 B15 2 c15 (rrow [⟨6, 3, A11, c11, D0⟩, ⟨6, 3, A13, c13, D1⟩]) :: own 27 3 (some ⟨w16.heap.size, 0, none⟩) 1 1 [.int .u32 6, .int .u32 1, .slice none 0 0] :: dataA 5 [⟨6, 3, A11, c11, D0⟩, ⟨6, 3, A13, c13, D1⟩] :: own 5 1 none ([] : List Int).length 0 (by8 []) :: blk w.heap.size 55 #[.int .u32 6, .string wn, .slice Ai ni ci] :: L) := ((HS16.nil 5 1).lit #[.int .u32 6, .int .u32 1, .slice none 0 0] 27 3 1 rfl (by decide)).sel 5 [2, 0, 3, 1, 4]
            have o0 := HS16.up2.blk_at 0 rfl
            go_wp2_with (at_builtin; (refine wpList_append_sep rfl (.tmp 130) (.tmp 134) 50 rfl 27 i0 _ 3 32 Try.underlying50 hi0 hz0 hz1 hz2 rfl (by decide) rfl HL19 rfl HL19.rd1 (rep_one 6 1 none (0) 0) (by decide) (by decide) rfl rfl ?_; intro B19 c19 w19 HS19 hsz19))
            have HZ19 := Sep.rsnoc (r := ⟨6, 1, none, 0, []⟩) (rs := [⟨6, 3, A11, c11, D0⟩, ⟨6, 3, A13, c13, D1⟩]) HS19
            rw [HQ.out]
            refine ⟨[⟨6, 3, A11, c11, D0⟩, ⟨6, 3, A13, c13, D1⟩, ⟨6, 1, none, 0, []⟩], B19, c19, ?_, rfl, HZ19.sel 3 [0, 1]⟩
            rw [HANS.out]
            rfl
        · rw [if_neg (fun h => g16 h.1), if_neg g3] at HANS
          obtain ⟨D1, hD1⟩ : ∃ D : List Int, D = [] := ⟨_, rfl⟩
          have HP1 : Aside (∀ {W : World} {L' : List Asr}, Sep w0 W O L' → Calls Try.prog 50 #[.agg #[.int .u16 1, .int .u64 0, .int .u16 0, .string vnm, .int .u32 0, .int .u32 0, .int .u32 0]] W (InfOut w0 O 3 D1 L')) := ⟨by
            intro W L' H
            rw [hD1]
            exact rputinfo1_long H (by decide) (by decide) (by decide) (by decide) (by decide) (by decide) (by decide) (by decide) (by decide) (by decide) ⟨rfl, rfl, rfl, rfl, rfl⟩ (by omega)⟩
          clear hD1
          have HA1 := (HA 1 true (decide_eq_true g1))
          have HA3 := (HA 3 false (decide_eq_false g3))
          clear HA g1 g3 g16 hB HAN HEX
          rcases vfx with _ | _
          all_goals
            simp only [Bool.false_eq_true, if_false, if_true] at hF
            subst hF
            go_wp2_with fail
            refine (HP0.out HE).mono ?_
            rintro e w11 ⟨A11, c11, rfl, HS11⟩
            clear x0 x1 x2 o0 o1 o2
            have HL12 : Sep w0 _ O (own 27 3 none 0 0 (rrow []) :: own 27 3 (some ⟨w11.heap.size, 0, none⟩) 1 1 [.int .u32 6, .int .u32 3, .slice A11 D0.length c11] :: dataA 5 [] :: own 5 1 A11 D0.length c11 (by8 D0) :: blk w.heap.size 55 #[.int .u32 6, .string wn, .slice Ai ni ci] :: L) := (HS11.lit #[.int .u32 6, .int .u32 3, .slice A11 D0.length c11] 27 3 1 rfl (by decide)).sel 5 [2, 0, 3, 1, 4]
            have o0 := HS11.up3.blk_at 0 rfl
            go_wp2_with (at_builtin; (refine wpList_append_sep rfl (.tmp 85) (.tmp 90) 50 rfl 27 i0 _ 3 32 Try.underlying50 hi0 hz0 hz1 hz2 rfl (by decide) rfl HL12 rfl HL12.rd1 (rep_one 6 3 A11 (D0.length) c11) (by decide) (by decide) rfl rfl ?_; intro B12 c12 w12 HS12 hsz12; have HZ12 := Sep.rsnoc (r := ⟨6, 3, A11, c11, D0⟩) (rs := []) HS12; clear o0; have x0 := (HVOL.out HZ12 hr.cons.cons.cons).1; have o0 := HZ12.up2.blk_at 0 rfl; have o1 := HZ12.up2.blk_at 1 rfl; have o2 := HZ12.up2.blk_at 2 rfl))
            refine (HP1.out HZ12).mono ?_
            rintro e w13 ⟨A13, c13, rfl, HS13⟩
            clear x0 o0 o1 o2
            have o0 := HS13.up3.blk_at 0 rfl
            have o1 := HS13.up3.blk_at 1 rfl
            have o2 := HS13.up3.blk_at 2 rfl
            have HZ13 := HS13.drop
            go_wp2_with fail
            refine (HA3.out HZ13 hri.cons.cons.cons).mono ?_
            rintro e w16 ⟨rfl, HS16⟩
            clear o0 o1 o2
            have HL19 : Sep w0 _ O (own 27 3 B12 1 c12 (rrow [⟨6, 3, A11, c11, D0⟩]) :: own 27 3 (some ⟨w16.heap.size, 0, none⟩) 1 1 [.int .u32 6, .int .u32 1, .slice none 0 0] :: dataA 5 [⟨6, 3, A11, c11, D0⟩] :: own 5 1 none ([] : List Int).length 0 (by8 []) :: blk w.heap.size 55 #[.int .u32 6, .string wn, .slice Ai ni ci] :: L) := ((HS16.nil 5 1).lit #[.int .u32 6, .int .u32 1, .slice none 0 0] 27 3 1 rfl (by decide)).sel 5 [2, 0, 3, 1, 4]
            have o0 := HS16.up2.blk_at 0 rfl
            go_wp2_with (at_builtin; (refine wpList_append_sep rfl (.tmp 130) (.tmp 134) 50 rfl 27 i0 _ 3 32 Try.underlying50 hi0 hz0 hz1 hz2 rfl (by decide) rfl HL19 rfl HL19.rd1 (rep_one 6 1 none (0) 0) (by decide) (by decide) rfl rfl ?_; intro B19 c19 w19 HS19 hsz19))
            have HZ19 := Sep.rsnoc (r := ⟨6, 1, none, 0, []⟩) (rs := [⟨6, 3, A11, c11, D0⟩]) HS19
            rw [HQ.out]
            refine ⟨[⟨6, 3, A11, c11, D0⟩, ⟨6, 1, none, 0, []⟩], B19, c19, ?_, rfl, HZ19.sel 3 [0, 1]⟩
            rw [HANS.out]
            rfl
        · rw [if_neg (fun h => g1 h.2), if_pos g3] at HANS
          obtain ⟨D1, hD1⟩ : ∃ D, D = be 2 1 ++ strInts vnm := ⟨_, rfl⟩
          have HP1 : Aside (∀ {W : World} {L' : List Asr}, Sep w0 W O L' → Calls Try.prog 50 #[.agg #[.int .u16 1, .int .u64 0, .int .u16 0, .string vnm, .int .u32 0, .int .u32 0, .int .u32 0]] W (InfOut w0 O 0 D1 L')) := ⟨by
            intro W L' H
            rw [hD1]
            exact rputinfo1_ok H (by decide) (by decide) (by decide) (by decide) (by decide) (by decide) (by decide) (by decide) (by decide) (by decide) ⟨rfl, rfl, rfl, rfl, rfl⟩ (by omega)⟩
          clear hD1
          have HA1 := (HA 1 false (decide_eq_false g1))
          have HA3 := (HA 3 true (decide_eq_true g3))
          clear HA g1 g3 g16 hB HAN HEX
          rcases vfx with _ | _
          all_goals
            simp only [Bool.false_eq_true, if_false, if_true] at hF
            subst hF
            go_wp2_with fail
            refine (HP0.out HE).mono ?_
            rintro e w11 ⟨A11, c11, rfl, HS11⟩
            clear x0 x1 x2 o0 o1 o2
            have HL12 : Sep w0 _ O (own 27 3 none 0 0 (rrow []) :: own 27 3 (some ⟨w11.heap.size, 0, none⟩) 1 1 [.int .u32 6, .int .u32 3, .slice A11 D0.length c11] :: dataA 5 [] :: own 5 1 A11 D0.length c11 (by8 D0) :: blk w.heap.size 55 #[.int .u32 6, .string wn, .slice Ai ni ci] :: L) := (HS11.lit #[.int .u32 6, .int .u32 3, .slice A11 D0.length c11] 27 3 1 rfl (by decide)).sel 5 [2, 0, 3, 1, 4]
            have o0 := HS11.up3.blk_at 0 rfl
            go_wp2_with (at_builtin; (refine wpList_append_sep rfl (.tmp 85) (.tmp 90) 50 rfl 27 i0 _ 3 32 Try.underlying50 hi0 hz0 hz1 hz2 rfl (by decide) rfl HL12 rfl HL12.rd1 (rep_one 6 3 A11 (D0.length) c11) (by decide) (by decide) rfl rfl ?_; intro B12 c12 w12 HS12 hsz12; have HZ12 := Sep.rsnoc (r := ⟨6, 3, A11, c11, D0⟩) (rs := []) HS12; clear o0; have x0 := (HVOL.out HZ12 hr.cons.cons.cons).1; have o0 := HZ12.up2.blk_at 0 rfl; have o1 := HZ12.up2.blk_at 1 rfl; have o2 := HZ12.up2.blk_at 2 rfl))
            refine (HP1.out HZ12).mono ?_
            rintro e w13 ⟨A13, c13, rfl, HS13⟩
            clear x0 o0 o1 o2
            have o0 := HS13.up3.blk_at 0 rfl
            have o1 := HS13.up3.blk_at 1 rfl
            have o2 := HS13.up3.blk_at 2 rfl
            go_wp2_with fail
            refine (HA1.out HS13 hri.cons.cons.cons.cons).mono ?_
            rintro e w14 ⟨rfl, HS14⟩
            clear o0 o1 o2
            have HZ14 := HS14.drop
            have o0 := HZ14.up2.blk_at 0 rfl
            have o1 := HZ14.up2.blk_at 1 rfl
            have o2 := HZ14.up2.blk_at 2 rfl
            go_wp2_with fail
            refine (HA3.out HZ14 hri.cons.cons.cons).mono ?_
            rintro e w16 ⟨rfl, HS16⟩
            clear o0 o1 o2
            go_wp2_with fail
            refine (HP3.out HS16).mono ?_
            rintro e w17 ⟨A17, c17, rfl, HS17⟩
            have HL18 : Sep w0 _ O (own 27 3 B12 1 c12 (rrow [⟨6, 3, A11, c11, D0⟩]) :: own 27 3 (some ⟨w17.heap.size, 0, none⟩) 1 1 [.int .u32 6, .int .u32 3, .slice A17 D3.length c17] :: dataA 5 [⟨6, 3, A11, c11, D0⟩] :: own 5 1 A17 D3.length c17 (by8 D3) :: blk w.heap.size 55 #[.int .u32 6, .string wn, .slice Ai ni ci] :: L) := (HS17.lit #[.int .u32 6, .int .u32 3, .slice A17 D3.length c17] 27 3 1 rfl (by decide)).sel 5 [2, 0, 3, 1, 4]
            have o0 := HS17.up3.blk_at 0 rfl
            go_wp2_with (at_builtin; first | (refine wpList_append_sep rfl (.tmp 123) (.tmp 128) 50 rfl 27 i0 _ 3 32 Try.underlying50 hi0 hz0 hz1 hz2 rfl (by decide) rfl HL18 rfl HL18.rd1 (rep_one 6 3 A17 (D3.length) c17) (by decide) (by decide) rfl rfl ?_; intro B18 c18 w18 HS18 hsz18; have HZ18 := Sep.rsnoc (r := ⟨6, 3, A17, c17, D3⟩) (rs := [⟨6, 3, A11, c11, D0⟩]) HS18; clear o0; have o0 := HZ18.up2.blk_at 0 rfl; have HLZ : Sep w0 _ O (own 27 3 B18 2 c18 (rrow [⟨6, 3, A11, c11, D0⟩, ⟨6, 3, A17, c17, D3⟩]) :: own 27 3 (some ⟨w18.heap.size, 0, none⟩) 1 1 [.int .u32 6, .int .u32 1, .slice none 0 0] :: dataA 5 [⟨6, 3, A11, c11, D0⟩, ⟨6, 3, A17, c17, D3⟩] :: own 5 1 none ([] : List Int).length 0 (by8 []) :: blk w.heap.size 55 #[.int .u32 6, .string wn, .slice Ai ni ci] :: L) := ((HZ18.nil 5 1).lit #[.int .u32 6, .int .u32 1, .slice none 0 0] 27 3 1 rfl (by decide)).sel 5 [2, 0, 3, 1, 4]) | (refine wpList_append_sep rfl (.tmp 130) (.tmp 134) 50 rfl 27 i0 _ 3 32 Try.underlying50 hi0 hz0 hz1 hz2 rfl (by decide) rfl HLZ rfl HLZ.rd1 (rep_one 6 1 none (0) 0) (by decide) (by decide) rfl rfl ?_; intro B19 c19 w19 HS19 hsz19))
            have HZ19 := Sep.rsnoc (r := ⟨6, 1, none, 0, []⟩) (rs := [⟨6, 3, A11, c11, D0⟩, ⟨6, 3, A17, c17, D3⟩]) HS19
            rw [HQ.out]
            refine ⟨[⟨6, 3, A11, c11, D0⟩, ⟨6, 3, A17, c17, D3⟩, ⟨6, 1, none, 0, []⟩], B19, c19, ?_, rfl, HZ19.sel 3 [0, 1]⟩
            rw [HANS.out]
            rfl
        · rw [if_neg (fun h => g1 h.2), if_pos g3] at HANS
          obtain ⟨D1, hD1⟩ : ∃ D : List Int, D = [] := ⟨_, rfl⟩
          have HP1 : Aside (∀ {W : World} {L' : List Asr}, Sep w0 W O L' → Calls Try.prog 50 #[.agg #[.int .u16 1, .int .u64 0, .int .u16 0, .string vnm, .int .u32 0, .int .u32 0, .int .u32 0]] W (InfOut w0 O 3 D1 L')) := ⟨by
            intro W L' H
            rw [hD1]
            exact rputinfo1_long H (by decide) (by decide) (by decide) (by decide) (by decide) (by decide) (by decide) (by decide) (by decide) (by decide) ⟨rfl, rfl, rfl, rfl, rfl⟩ (by omega)⟩
          clear hD1
          have HA1 := (HA 1 false (decide_eq_false g1))
          have HA3 := (HA 3 true (decide_eq_true g3))
          clear HA g1 g3 g16 hB HAN HEX
          rcases vfx with _ | _
          all_goals
            simp only [Bool.false_eq_true, if_false, if_true] at hF
            subst hF
            go_wp2_with fail
            refine (HP0.out HE).mono ?_
            rintro e w11 ⟨A11, c11, rfl, HS11⟩
            clear x0 x1 x2 o0 o1 o2
            have HL12 : Sep w0 _ O (own 27 3 none 0 0 (rrow []) :: own 27 3 (some ⟨w11.heap.size, 0, none⟩) 1 1 [.int .u32 6, .int .u32 3, .slice A11 D0.length c11] :: dataA 5 [] :: own 5 1 A11 D0.length c11 (by8 D0) :: blk w.heap.size 55 #[.int .u32 6, .string wn, .slice Ai ni ci] :: L) := (HS11.lit #[.int .u32 6, .int .u32 3, .slice A11 D0.length c11] 27 3 1 rfl (by decide)).sel 5 [2, 0, 3, 1, 4]
            have o0 := HS11.up3.blk_at 0 rfl
            go_wp2_with (at_builtin; (refine wpList_append_sep rfl (.tmp 85) (.tmp 90) 50 rfl 27 i0 _ 3 32 Try.underlying50 hi0 hz0 hz1 hz2 rfl (by decide) rfl HL12 rfl HL12.rd1 (rep_one 6 3 A11 (D0.length) c11) (by decide) (by decide) rfl rfl ?_; intro B12 c12 w12 HS12 hsz12; have HZ12 := Sep.rsnoc (r := ⟨6, 3, A11, c11, D0⟩) (rs := []) HS12; clear o0; have x0 := (HVOL.out HZ12 hr.cons.cons.cons).1; have o0 := HZ12.up2.blk_at 0 rfl; have o1 := HZ12.up2.blk_at 1 rfl; have o2 := HZ12.up2.blk_at 2 rfl))
            refine (HP1.out HZ12).mono ?_
            rintro e w13 ⟨A13, c13, rfl, HS13⟩
            clear x0 o0 o1 o2
            have o0 := HS13.up3.blk_at 0 rfl
            have o1 := HS13.up3.blk_at 1 rfl
            have o2 := HS13.up3.blk_at 2 rfl
            have HZ13 := HS13.drop
            go_wp2_with fail
            refine (HA3.out HZ13 hri.cons.cons.cons).mono ?_
            rintro e w16 ⟨rfl, HS16⟩
            clear o0 o1 o2
            go_wp2_with fail
            refine (HP3.out HS16).mono ?_
            rintro e w17 ⟨A17, c17, rfl, HS17⟩
            have HL18 : Sep w0 _ O (own 27 3 B12 1 c12 (rrow [⟨6, 3, A11, c11, D0⟩]) :: own 27 3 (some ⟨w17.heap.size, 0, none⟩) 1 1 [.int .u32 6, .int .u32 3, .slice A17 D3.length c17] :: dataA 5 [⟨6, 3, A11, c11, D0⟩] :: own 5 1 A17 D3.length c17 (by8 D3) :: blk w.heap.size 55 #[.int .u32 6, .string wn, .slice Ai ni ci] :: L) := (HS17.lit #[.int .u32 6, .int .u32 3, .slice A17 D3.length c17] 27 3 1 rfl (by decide)).sel 5 [2, 0, 3, 1, 4]
            have o0 := HS17.up3.blk_at 0 rfl
            go_wp2_with (at_builtin; first | (refine wpList_append_sep rfl (.tmp 123) (.tmp 128) 50 rfl 27 i0 _ 3 32 Try.underlying50 hi0 hz0 hz1 hz2 rfl (by decide) rfl HL18 rfl HL18.rd1 (rep_one 6 3 A17 (D3.length) c17) (by decide) (by decide) rfl rfl ?_; intro B18 c18 w18 HS18 hsz18; have HZ18 := Sep.rsnoc (r := ⟨6, 3, A17, c17, D3⟩) (rs := [⟨6, 3, A11, c11, D0⟩]) HS18; clear o0; have o0 := HZ18.up2.blk_at 0 rfl; have HLZ : Sep w0 _ O (own 27 3 B18 2 c18 (rrow [⟨6, 3, A11, c11, D0⟩, ⟨6, 3, A17, c17, D3⟩]) :: own 27 3 (some ⟨w18.heap.size, 0, none⟩) 1 1 [.int .u32 6, .int .u32 1, .slice none 0 0] :: dataA 5 [⟨6, 3, A11, c11, D0⟩, ⟨6, 3, A17, c17, D3⟩] :: own 5 1 none ([] : List Int).length 0 (by8 []) :: blk w.heap.size 55 #[.int .u32 6, .string wn, .slice Ai ni ci] :: L) := ((HZ18.nil 5 1).lit #[.int .u32 6, .int .u32 1, .slice none 0 0] 27 3 1 rfl (by decide)).sel 5 [2, 0, 3, 1, 4]) | (refine wpList_append_sep rfl (.tmp 130) (.tmp 134) 50 rfl 27 i0 _ 3 32 Try.underlying50 hi0 hz0 hz1 hz2 rfl (by decide) rfl HLZ rfl HLZ.rd1 (rep_one 6 1 none (0) 0) (by decide) (by decide) rfl rfl ?_; intro B19 c19 w19 HS19 hsz19))
            have HZ19 := Sep.rsnoc (r := ⟨6, 1, none, 0, []⟩) (rs := [⟨6, 3, A11, c11, D0⟩, ⟨6, 3, A17, c17, D3⟩]) HS19
            rw [HQ.out]
            refine ⟨[⟨6, 3, A11, c11, D0⟩, ⟨6, 3, A17, c17, D3⟩, ⟨6, 1, none, 0, []⟩], B19, c19, ?_, rfl, HZ19.sel 3 [0, 1]⟩
            rw [HANS.out]
            rfl
        · rw [if_neg (fun h => g1 h.2), if_neg g3] at HANS
          obtain ⟨D1, hD1⟩ : ∃ D, D = be 2 1 ++ strInts vnm := ⟨_, rfl⟩
          have HP1 : Aside (∀ {W : World} {L' : List Asr}, Sep w0 W O L' → Calls Try.prog 50 #[.agg #[.int .u16 1, .int .u64 0, .int .u16 0, .string vnm, .int .u32 0, .int .u32 0, .int .u32 0]] W (InfOut w0 O 0 D1 L')) := ⟨by
            intro W L' H
            rw [hD1]
            exact rputinfo1_ok H (by decide) (by decide) (by decide) (by decide) (by decide) (by decide) (by decide) (by decide) (by decide) (by decide) ⟨rfl, rfl, rfl, rfl, rfl⟩ (by omega)⟩
          clear hD1
          have HA1 := (HA 1 false (decide_eq_false g1))
          have HA3 := (HA 3 false (decide_eq_false g3))
          clear HA g1 g3 g16 hB HAN HEX
          rcases vfx with _ | _
          all_goals
            simp only [Bool.false_eq_true, if_false, if_true] at hF
            subst hF
            go_wp2_with fail
            refine (HP0.out HE).mono ?_
            rintro e w11 ⟨A11, c11, rfl, HS11⟩
            clear x0 x1 x2 o0 o1 o2
            have HL12 : Sep w0 _ O (own 27 3 none 0 0 (rrow []) :: own 27 3 (some ⟨w11.heap.size, 0, none⟩) 1 1 [.int .u32 6, .int .u32 3, .slice A11 D0.length c11] :: dataA 5 [] :: own 5 1 A11 D0.length c11 (by8 D0) :: blk w.heap.size 55 #[.int .u32 6, .string wn, .slice Ai ni ci] :: L) := (HS11.lit #[.int .u32 6, .int .u32 3, .slice A11 D0.length c11] 27 3 1 rfl (by decide)).sel 5 [2, 0, 3, 1, 4]
            have o0 := HS11.up3.blk_at 0 rfl
            go_wp2_with (at_builtin; (refine wpList_append_sep rfl (.tmp 85) (.tmp 90) 50 rfl 27 i0 _ 3 32 Try.underlying50 hi0 hz0 hz1 hz2 rfl (by decide) rfl HL12 rfl HL12.rd1 (rep_one 6 3 A11 (D0.length) c11) (by decide) (by decide) rfl rfl ?_; intro B12 c12 w12 HS12 hsz12; have HZ12 := Sep.rsnoc (r := ⟨6, 3, A11, c11, D0⟩) (rs := []) HS12; clear o0; have x0 := (HVOL.out HZ12 hr.cons.cons.cons).1; have o0 := HZ12.up2.blk_at 0 rfl; have o1 := HZ12.up2.blk_at 1 rfl; have o2 := HZ12.up2.blk_at 2 rfl))
            refine (HP1.out HZ12).mono ?_
            rintro e w13 ⟨A13, c13, rfl, HS13⟩
            clear x0 o0 o1 o2
            have o0 := HS13.up3.blk_at 0 rfl
            have o1 := HS13.up3.blk_at 1 rfl
            have o2 := HS13.up3.blk_at 2 rfl
            go_wp2_with fail
            refine (HA1.out HS13 hri.cons.cons.cons.cons).mono ?_
            rintro e w14 ⟨rfl, HS14⟩
            clear o0 o1 o2
            have HZ14 := HS14.drop
            have o0 := HZ14.up2.blk_at 0 rfl
            have o1 := HZ14.up2.blk_at 1 rfl
            have o2 := HZ14.up2.blk_at 2 rfl
            go_wp2_with fail
            refine (HA3.out HZ14 hri.cons.cons.cons).mono ?_
            rintro e w16 ⟨rfl, HS16⟩
            clear o0 o1 o2
            have HL19 : Sep w0 _ O (own 27 3 B12 1 c12 (rrow [⟨6, 3, A11, c11, D0⟩]) :: own 27 3 (some ⟨w16.heap.size, 0, none⟩) 1 1 [.int .u32 6, .int .u32 1, .slice none 0 0] :: dataA 5 [⟨6, 3, A11, c11, D0⟩] :: own 5 1 none ([] : List Int).length 0 (by8 []) :: blk w.heap.size 55 #[.int .u32 6, .string wn, .slice Ai ni ci] :: L) := ((HS16.nil 5 1).lit #[.int .u32 6, .int .u32 1, .slice none 0 0] 27 3 1 rfl (by decide)).sel 5 [2, 0, 3, 1, 4]
            have o0 := HS16.up2.blk_at 0 rfl
            go_wp2_with (at_builtin; (refine wpList_append_sep rfl (.tmp 130) (.tmp 134) 50 rfl 27 i0 _ 3 32 Try.underlying50 hi0 hz0 hz1 hz2 rfl (by decide) rfl HL19 rfl HL19.rd1 (rep_one 6 1 none (0) 0) (by decide) (by decide) rfl rfl ?_; intro B19 c19 w19 HS19 hsz19))
            have HZ19 := Sep.rsnoc (r := ⟨6, 1, none, 0, []⟩) (rs := [⟨6, 3, A11, c11, D0⟩]) HS19
            rw [HQ.out]
            refine ⟨[⟨6, 3, A11, c11, D0⟩, ⟨6, 1, none, 0, []⟩], B19, c19, ?_, rfl, HZ19.sel 3 [0, 1]⟩
            rw [HANS.out]
            rfl
        · rw [if_neg (fun h => g1 h.2), if_neg g3] at HANS
          obtain ⟨D1, hD1⟩ : ∃ D : List Int, D = [] := ⟨_, rfl⟩
          have HP1 : Aside (∀ {W : World} {L' : List Asr}, Sep w0 W O L' → Calls Try.prog 50 #[.agg #[.int .u16 1, .int .u64 0, .int .u16 0, .string vnm, .int .u32 0, .int .u32 0, .int .u32 0]] W (InfOut w0 O 3 D1 L')) := ⟨by
            intro W L' H
            rw [hD1]
            exact rputinfo1_long H (by decide) (by decide) (by decide) (by decide) (by decide) (by decide) (by decide) (by decide) (by decide) (by decide) ⟨rfl, rfl, rfl, rfl, rfl⟩ (by omega)⟩
          clear hD1
          have HA1 := (HA 1 false (decide_eq_false g1))
          have HA3 := (HA 3 false (decide_eq_false g3))
          clear HA g1 g3 g16 hB HAN HEX
          rcases vfx with _ | _
          all_goals
            simp only [Bool.false_eq_true, if_false, if_true] at hF
            subst hF
            go_wp2_with fail
            refine (HP0.out HE).mono ?_
            rintro e w11 ⟨A11, c11, rfl, HS11⟩
            clear x0 x1 x2 o0 o1 o2
            have HL12 : Sep w0 _ O (own 27 3 none 0 0 (rrow []) :: own 27 3 (some ⟨w11.heap.size, 0, none⟩) 1 1 [.int .u32 6, .int .u32 3, .slice A11 D0.length c11] :: dataA 5 [] :: own 5 1 A11 D0.length c11 (by8 D0) :: blk w.heap.size 55 #[.int .u32 6, .string wn, .slice Ai ni ci] :: L) := (HS11.lit #[.int .u32 6, .int .u32 3, .slice A11 D0.length c11] 27 3 1 rfl (by decide)).sel 5 [2, 0, 3, 1, 4]
            have o0 := HS11.up3.blk_at 0 rfl
            go_wp2_with (at_builtin; (refine wpList_append_sep rfl (.tmp 85) (.tmp 90) 50 rfl 27 i0 _ 3 32 Try.underlying50 hi0 hz0 hz1 hz2 rfl (by decide) rfl HL12 rfl HL12.rd1 (rep_one 6 3 A11 (D0.length) c11) (by decide) (by decide) rfl rfl ?_; intro B12 c12 w12 HS12 hsz12; have HZ12 := Sep.rsnoc (r := ⟨6, 3, A11, c11, D0⟩) (rs := []) HS12; clear o0; have x0 := (HVOL.out HZ12 hr.cons.cons.cons).1; have o0 := HZ12.up2.blk_at 0 rfl; have o1 := HZ12.up2.blk_at 1 rfl; have o2 := HZ12.up2.blk_at 2 rfl))
            refine (HP1.out HZ12).mono ?_
            rintro e w13 ⟨A13, c13, rfl, HS13⟩
            clear x0 o0 o1 o2
            have o0 := HS13.up3.blk_at 0 rfl
            have o1 := HS13.up3.blk_at 1 rfl
            have o2 := HS13.up3.blk_at 2 rfl
            have HZ13 := HS13.drop
            go_wp2_with fail
            refine (HA3.out HZ13 hri.cons.cons.cons).mono ?_
            rintro e w16 ⟨rfl, HS16⟩
            clear o0 o1 o2
            have HL19 : Sep w0 _ O (own 27 3 B12 1 c12 (rrow [⟨6, 3, A11, c11, D0⟩]) :: own 27 3 (some ⟨w16.heap.size, 0, none⟩) 1 1 [.int .u32 6, .int .u32 1, .slice none 0 0] :: dataA 5 [⟨6, 3, A11, c11, D0⟩] :: own 5 1 none ([] : List Int).length 0 (by8 []) :: blk w.heap.size 55 #[.int .u32 6, .string wn, .slice Ai ni ci] :: L) := ((HS16.nil 5 1).lit #[.int .u32 6, .int .u32 1, .slice none 0 0] 27 3 1 rfl (by decide)).sel 5 [2, 0, 3, 1, 4]
            have o0 := HS16.up2.blk_at 0 rfl
            go_wp2_with (at_builtin; (refine wpList_append_sep rfl (.tmp 130) (.tmp 134) 50 rfl 27 i0 _ 3 32 Try.underlying50 hi0 hz0 hz1 hz2 rfl (by decide) rfl HL19 rfl HL19.rd1 (rep_one 6 1 none (0) 0) (by decide) (by decide) rfl rfl ?_; intro B19 c19 w19 HS19 hsz19))
            have HZ19 := Sep.rsnoc (r := ⟨6, 1, none, 0, []⟩) (rs := [⟨6, 3, A11, c11, D0⟩]) HS19
            rw [HQ.out]
            refine ⟨[⟨6, 3, A11, c11, D0⟩, ⟨6, 1, none, 0, []⟩], B19, c19, ?_, rfl, HZ19.sel 3 [0, 1]⟩
            rw [HANS.out]
            rfl
    · obtain rfl : n = k := by omega
      have hj : ¬ (n : Int) < n := by omega
      have hpos : vPos vs wn = none := vPos_no fun v hv => hnot.out v (by rw [List.take_of_length_le (by rw [HVN.out]; exact Nat.le_refl _)]; exact hv)
      have HANS : Aside (ansR 6 wn inf vs = [(6, 2147483654, [])]) := ⟨by rw [HAN.out, hpos]; rfl⟩
      clear hpos
      go_upto_region 15 with (fail)
      go_quiet (fail)
      obtain ⟨w6, hw6, HS6⟩ : ∃ W, W = wr.drewN nq ∧ Sep w0 W O (blk w.heap.size 55 #[.int .u32 6, .string wn, .slice Ai ni ci] :: L) := ⟨_, rfl, HS1.drewN nq⟩
      rw [← hw6]
      clear hw6 HS1
      have o0 := HS6.blk_at 0 rfl
      have HL : Sep w0 _ O (own 27 3 (some ⟨w6.heap.size, 0, none⟩) 1 1 [.int .u32 6, .int .u32 2147483654, .slice none 0 0] :: blk w.heap.size 55 #[.int .u32 6, .string wn, .slice Ai ni ci] :: L) := HS6.lit #[.int .u32 6, .int .u32 2147483654, .slice none 0 0] 27 3 1 rfl (by decide)
      have HD : Sep w0 _ O (dataA 5 [⟨6, 2147483654, none, 0, []⟩] :: own 27 3 (some ⟨w6.heap.size, 0, none⟩) 1 1 [.int .u32 6, .int .u32 2147483654, .slice none 0 0] :: blk w.heap.size 55 #[.int .u32 6, .string wn, .slice Ai ni ci] :: L) := Sep.dataSnoc (rs := []) (r := ⟨6, 2147483654, none, 0, []⟩) ((HL.nil 5 1).emp)
      go_wp2
      rw [HQ.out]
      refine ⟨[⟨6, 2147483654, none, 0, []⟩], some ⟨w6.heap.size, 0, none⟩, 1, ?_, rfl, HD.sel 3 [1, 0]⟩
      rw [HANS.out]
      rfl

set_option maxHeartbeats 16000000 in
set_option maxRecDepth 100000 in
theorem ranswers_7 {wn : ByteArray} {Ai A : Option Addr} {ni ci n c : Nat} {vs : List Vol} {inf : List Int} (HS : Sep w0 w O L) (hr : Rb w0 O L 3 A n (crow vs)) (hvn : vs.length = n) (hn : n ≤ 2513169434843) (hok : ∀ v ∈ vs, v.Ok) (hri : Rb w0 O L 1 Ai ni (kv .u16 inf)) (hni : ni ≤ 70368744177664) :
    Calls Try.prog 30 #[.agg #[.int .u32 7, .string wn, .slice Ai ni ci], .slice A n c] w (RrOut w0 O (ansR 7 wn inf vs) L) := by
  obtain ⟨Q, hQ⟩ : ∃ Q : Ending → World → Prop, Q = RrOut w0 O (ansR 7 wn inf vs) L := ⟨_, rfl⟩
  have HQ := hid hQ
  rw [← hQ]
  clear hQ
  obtain ⟨i0, hi0, hz0, hz1, hz2⟩ := info_parts info_rrep3
  have HSa := HS.alloc #[.int .u32 7, .string wn, .slice Ai ni ci] 55
  have HVN := hid hvn
  have HOK := hid hok
  have HAN : Aside (ansR 7 wn inf vs = (match (vPos vs wn).bind (fun k => vs[k]?) with
    | none => [(7, 2147483654, [])]
    | some v => expR 7 v.nm v.size v.fixed inf ++ [(7, 1, [])])) := ⟨by unfold ansR; rw [if_neg (by decide), if_pos (by decide)]; rfl⟩
  clear hvn HS hok
  go_enter Try.func30, Try.ntmps30
  go_wp2_with fail
  go_loopw [9] (fun i wr => ∃ k : Nat, k ≤ n ∧ i = .int .i64 k ∧ Aside (∀ v ∈ vs.take k, (v.nm.toList == wn.toList) = false) ∧ Sep w0 wr O (blk w.heap.size 55 #[.int .u32 7, .string wn, .slice Ai ni ci] :: L)) (fun i _ => n - (intOf i).toNat)
  case atStart => exact ⟨0, Nat.zero_le _, rfl, ⟨by simp⟩, HSa⟩
  case round =>
    obtain ⟨k, hk, rfl, hnot, HS1⟩ := hrel
    clear HSa
    by_cases hlt : k < n
    · obtain ⟨ad, v, rfl, hvk, x0, x1, x2⟩ := hr.cons.cvolAt HS1 hlt
      have hj : (k : Int) < n := by omega
      have j0 : (0 : Int) ≤ k := by omega
      have HVK := hid hvk
      have hvok : v.Ok := HOK.out v (List.mem_of_getElem? hvk)
      have HVOL : Aside (∀ {W : World} {L' : List Asr}, Sep w0 W O L' → Rb w0 O L' 3 (some ad) n (crow vs) → W.cell? (ad.add (k * 3)) = some (.string v.nm) ∧ W.cell? ⟨(ad.add (k * 3)).block, (ad.add (k * 3)).off + 1, none⟩ = some (.int .u64 v.size) ∧ W.cell? ⟨(ad.add (k * 3)).block, (ad.add (k * 3)).off + 2, none⟩ = some (.bool v.fixed)) := ⟨by
        intro W L' H R
        obtain ⟨ad', u, hA, hu, y0, y1, y2⟩ := R.cvolAt H hlt
        injection hA with hA
        subst hA
        rw [HVK.out] at hu
        injection hu with hu
        subst hu
        exact ⟨y0, y1, y2⟩⟩
      obtain ⟨vid, vnm, vsz, vrt, vfx, vor⟩ := v
      dsimp only at x0 x1 x2 HVOL
      obtain ⟨_, ⟨z0, z1⟩, _, _, hvn9⟩ := hvok
      dsimp only at z0 z1 hvn9
      have Z1 := hid z1
      clear hvk z1
      cases hB : (vnm.toList == wn.toList)
      · have o1 := HS1.blk_at 1 rfl
        go_upto_region 15 with (fail)
        go_quiet (fail)
        have HS2 := HS1.drewN nq
        have HBB := hid hB
        clear x0 x1 x2 o1 hB
        go_wp2
        go_roundw
        case rel =>
          refine ⟨k + 1, by omega, by go_num, ⟨?_⟩, HS2⟩
          intro u hu
          rw [List.take_add_one, HVK.out] at hu
          rcases List.mem_append.1 hu with hu | hu
          · exact hnot.out u hu
          · simp at hu; subst hu; exact HBB.out
        case measure => simp [intOf]; omega
      · have hpos : vPos vs wn = some k := vPos_at HVK.out hB hnot.out
        have HANS : Aside (ansR 7 wn inf vs = expR 7 vnm vsz vfx inf ++ [(7, 1, [])]) := ⟨by
          rw [HAN.out, hpos]
          simp only [Option.bind_some, HVK.out]⟩
        have hkn : ((k : Int) == n) = false := by simp; omega
        clear hpos
        have o1 := HS1.blk_at 1 rfl
        go_upto_region 15 with (fail)
        go_quiet (fail)
        obtain ⟨w6, hw6, HS6⟩ : ∃ W, W = wr.drewN nq ∧ Sep w0 W O (blk w.heap.size 55 #[.int .u32 7, .string wn, .slice Ai ni ci] :: L) := ⟨_, rfl, HS1.drewN nq⟩
        rw [← hw6]
        clear x0 x1 x2 o1 hw6 HS1
        obtain ⟨x0, x1, x2⟩ := HVOL.out HS6 hr.cons
        have HE : Sep w0 w6 O (own 27 3 none 0 0 (rrow []) :: dataA 5 [] :: blk w.heap.size 55 #[.int .u32 7, .string wn, .slice Ai ni ci] :: L) := HS6.emp.nil 27 3
        have o0 := HS6.blk_at 0 rfl
        have o1 := HS6.blk_at 1 rfl
        have o2 := HS6.blk_at 2 rfl
        obtain ⟨D3, hD3⟩ : ∃ D, D = be 2 3 ++ be 4 1 ++ be 4 256 ++ be 4 4096 := ⟨_, rfl⟩
        have HP3 : Aside (∀ {W : World} {L' : List Asr}, Sep w0 W O L' → Calls Try.prog 50 #[.agg #[.int .u16 3, .int .u64 0, .int .u16 0, .string eStr, .int .u32 1, .int .u32 256, .int .u32 4096]] W (InfOut w0 O 0 D3 L')) := ⟨by
          intro W L' H
          rw [hD3]
          exact rputinfo3_ok H (by decide) (by decide) (by decide) (by decide) (by decide) (by decide) (by decide) (by decide) (by decide) (by decide) rfl ⟨rfl, rfl⟩⟩
        obtain ⟨F, D0, hF, hD0, HP0⟩ : ∃ (F : Int) (D0 : List Int), F = (if vfx then 111 else 109) ∧ D0 = be 2 0 ++ be 8 vsz ++ be 2 F ∧ Aside (∀ {W : World} {L' : List Asr}, Sep w0 W O L' → Calls Try.prog 50 #[.agg #[.int .u16 0, .int .u64 vsz, .int .u16 F, .string eStr, .int .u32 0, .int .u32 0, .int .u32 0]] W (InfOut w0 O 0 D0 L')) := by
          refine ⟨_, _, rfl, rfl, ⟨?_⟩⟩
          intro W L' H
          exact rputinfo0_ok H z0 Z1.out (by cases vfx <;> decide) (by cases vfx <;> decide) (by decide) (by decide) (by decide) (by decide) (by decide) (by decide) rfl ⟨rfl, rfl, rfl⟩
        have HEX : Aside (expR 7 vnm vsz vfx inf = [(7, 3, D0)] ++ (if vnm.size ≤ 16 ∧ 1 ∈ inf then [(7, 3, be 2 1 ++ strInts vnm)] else []) ++ (if 3 ∈ inf then [(7, 3, D3)] else [])) := ⟨by rw [hD0, hF, hD3]; rfl⟩
        rw [HEX.out] at HANS
        clear hD0 hD3
        have HA : ∀ (x : Int) (b : Bool), decide (x ∈ inf) = b → Aside (∀ {W : World} {L' : List Asr}, Sep w0 W O L' → Rb w0 O L' 1 Ai ni (kv .u16 inf) → Calls Try.prog 72 #[.agg #[.int .u32 7, .string wn, .slice Ai ni ci], .int .u16 x] W fun e w' => e = .returned (.bool b) ∧ Sep w0 w' O L') := by
          intro x b hb
          refine ⟨?_⟩
          intro W L' H R
          rw [← hb]
          exact rasked_calls H R hni
        by_cases g1 : 1 ∈ inf <;> by_cases g3 : 3 ∈ inf <;> by_cases g16 : vnm.size ≤ 16
        · rw [if_pos ⟨g16, g1⟩, if_pos g3] at HANS
          obtain ⟨D1, hD1⟩ : ∃ D, D = be 2 1 ++ strInts vnm := ⟨_, rfl⟩
          have HP1 : Aside (∀ {W : World} {L' : List Asr}, Sep w0 W O L' → Calls Try.prog 50 #[.agg #[.int .u16 1, .int .u64 0, .int .u16 0, .string vnm, .int .u32 0, .int .u32 0, .int .u32 0]] W (InfOut w0 O 0 D1 L')) := ⟨by
            intro W L' H
            rw [hD1]
            exact rputinfo1_ok H (by decide) (by decide) (by decide) (by decide) (by decide) (by decide) (by decide) (by decide) (by decide) (by decide) ⟨rfl, rfl, rfl, rfl, rfl⟩ (by omega)⟩
          rw [← hD1] at HANS
          clear hD1
          have HA1 := (HA 1 true (decide_eq_true g1))
          have HA3 := (HA 3 true (decide_eq_true g3))
          clear HA g1 g3 g16 hB HAN HEX
          rcases vfx with _ | _
          all_goals
            simp only [Bool.false_eq_true, if_false, if_true] at hF
            subst hF
            go_wp2_with fail
            refine (HP0.out HE).mono ?_
            rintro e w11 ⟨A11, c11, rfl, HS11⟩
            clear x0 x1 x2 o0 o1 o2
            have HL12 : Sep w0 _ O (own 27 3 none 0 0 (rrow []) :: own 27 3 (some ⟨w11.heap.size, 0, none⟩) 1 1 [.int .u32 7, .int .u32 3, .slice A11 D0.length c11] :: dataA 5 [] :: own 5 1 A11 D0.length c11 (by8 D0) :: blk w.heap.size 55 #[.int .u32 7, .string wn, .slice Ai ni ci] :: L) := (HS11.lit #[.int .u32 7, .int .u32 3, .slice A11 D0.length c11] 27 3 1 rfl (by decide)).sel 5 [2, 0, 3, 1, 4]
            have o0 := HS11.up3.blk_at 0 rfl
            go_wp2_with (at_builtin; (refine wpList_append_sep rfl (.tmp 85) (.tmp 90) 50 rfl 27 i0 _ 3 32 Try.underlying50 hi0 hz0 hz1 hz2 rfl (by decide) rfl HL12 rfl HL12.rd1 (rep_one 7 3 A11 (D0.length) c11) (by decide) (by decide) rfl rfl ?_; intro B12 c12 w12 HS12 hsz12; have HZ12 := Sep.rsnoc (r := ⟨7, 3, A11, c11, D0⟩) (rs := []) HS12; clear o0; have x0 := (HVOL.out HZ12 hr.cons.cons.cons).1; have o0 := HZ12.up2.blk_at 0 rfl; have o1 := HZ12.up2.blk_at 1 rfl; have o2 := HZ12.up2.blk_at 2 rfl))
            refine (HP1.out HZ12).mono ?_
            rintro e w13 ⟨A13, c13, rfl, HS13⟩
            clear x0 o0 o1 o2
            have o0 := HS13.up3.blk_at 0 rfl
            have o1 := HS13.up3.blk_at 1 rfl
            have o2 := HS13.up3.blk_at 2 rfl
            go_wp2_with fail
            refine (HA1.out HS13 hri.cons.cons.cons.cons).mono ?_
            rintro e w14 ⟨rfl, HS14⟩
            clear o0 o1 o2
            have HL15 : Sep w0 _ O (own 27 3 B12 1 c12 (rrow [⟨7, 3, A11, c11, D0⟩]) :: own 27 3 (some ⟨w14.heap.size, 0, none⟩) 1 1 [.int .u32 7, .int .u32 3, .slice A13 D1.length c13] :: dataA 5 [⟨7, 3, A11, c11, D0⟩] :: own 5 1 A13 D1.length c13 (by8 D1) :: blk w.heap.size 55 #[.int .u32 7, .string wn, .slice Ai ni ci] :: L) := (HS14.lit #[.int .u32 7, .int .u32 3, .slice A13 D1.length c13] 27 3 1 rfl (by decide)).sel 5 [2, 0, 3, 1, 4]
            have o0 := HS14.up3.blk_at 0 rfl
            go_wp2_with (at_builtin; (refine wpList_append_sep rfl (.tmp 108) (.tmp 113) 50 rfl 27 i0 _ 3 32 Try.underlying50 hi0 hz0 hz1 hz2 rfl (by decide) rfl HL15 rfl HL15.rd1 (rep_one 7 3 A13 (D1.length) c13) (by decide) (by decide) rfl rfl ?_; intro B15 c15 w15 HS15 hsz15; have HZ15 := Sep.rsnoc (r := ⟨7, 3, A13, c13, D1⟩) (rs := [⟨7, 3, A11, c11, D0⟩]) HS15; clear o0; have o0 := HZ15.up2.blk_at 0 rfl; have o1 := HZ15.up2.blk_at 1 rfl; have o2 := HZ15.up2.blk_at 2 rfl))
            refine (HA3.out HZ15 hri.cons.cons.cons).mono ?_
            rintro e w16 ⟨rfl, HS16⟩
            clear o0 o1 o2
            go_wp2_with fail
            refine (HP3.out HS16).mono ?_
            rintro e w17 ⟨A17, c17, rfl, HS17⟩
            have HL18 : Sep w0 _ O (own 27 3 B15 2 c15 (rrow [⟨7, 3, A11, c11, D0⟩, ⟨7, 3, A13, c13, D1⟩]) :: own 27 3 (some ⟨w17.heap.size, 0, none⟩) 1 1 [.int .u32 7, .int .u32 3, .slice A17 D3.length c17] :: dataA 5 [⟨7, 3, A11, c11, D0⟩, ⟨7, 3, A13, c13, D1⟩] :: own 5 1 A17 D3.length c17 (by8 D3) :: blk w.heap.size 55 #[.int .u32 7, .string wn, .slice Ai ni ci] :: L) := (HS17.lit #[.int .u32 7, .int .u32 3, .slice A17 D3.length c17] 27 3 1 rfl (by decide)).sel 5 [2, 0, 3, 1, 4]
            have o0 := HS17.up3.blk_at 0 rfl
            go_wp2_with (at_builtin; first | (refine wpList_append_sep rfl (.tmp 123) (.tmp 128) 50 rfl 27 i0 _ 3 32 Try.underlying50 hi0 hz0 hz1 hz2 rfl (by decide) rfl HL18 rfl HL18.rd1 (rep_one 7 3 A17 (D3.length) c17) (by decide) (by decide) rfl rfl ?_; intro B18 c18 w18 HS18 hsz18; have HZ18 := Sep.rsnoc (r := ⟨7, 3, A17, c17, D3⟩) (rs := [⟨7, 3, A11, c11, D0⟩, ⟨7, 3, A13, c13, D1⟩]) HS18; clear o0; have o0 := HZ18.up2.blk_at 0 rfl; have HLZ : Sep w0 _ O (own 27 3 B18 3 c18 (rrow [⟨7, 3, A11, c11, D0⟩, ⟨7, 3, A13, c13, D1⟩, ⟨7, 3, A17, c17, D3⟩]) :: own 27 3 (some ⟨w18.heap.size, 0, none⟩) 1 1 [.int .u32 7, .int .u32 1, .slice none 0 0] :: dataA 5 [⟨7, 3, A11, c11, D0⟩, ⟨7, 3, A13, c13, D1⟩, ⟨7, 3, A17, c17, D3⟩] :: own 5 1 none ([] : List Int).length 0 (by8 []) :: blk w.heap.size 55 #[.int .u32 7, .string wn, .slice Ai ni ci] :: L) := ((HZ18.nil 5 1).lit #[.int .u32 7, .int .u32 1, .slice none 0 0] 27 3 1 rfl (by decide)).sel 5 [2, 0, 3, 1, 4]) | (refine wpList_append_sep rfl (.tmp 130) (.tmp 134) 50 rfl 27 i0 _ 3 32 Try.underlying50 hi0 hz0 hz1 hz2 rfl (by decide) rfl HLZ rfl HLZ.rd1 (rep_one 7 1 none (0) 0) (by decide) (by decide) rfl rfl ?_; intro B19 c19 w19 HS19 hsz19))
            have HZ19 := Sep.rsnoc (r := ⟨7, 1, none, 0, []⟩) (rs := [⟨7, 3, A11, c11, D0⟩, ⟨7, 3, A13, c13, D1⟩, ⟨7, 3, A17, c17, D3⟩]) HS19
            rw [HQ.out]
            refine ⟨[⟨7, 3, A11, c11, D0⟩, ⟨7, 3, A13, c13, D1⟩, ⟨7, 3, A17, c17, D3⟩, ⟨7, 1, none, 0, []⟩], B19, c19, ?_, rfl, HZ19.sel 3 [0, 1]⟩
            rw [HANS.out]
            rfl
        · rw [if_neg (fun h => g16 h.1), if_pos g3] at HANS
          obtain ⟨D1, hD1⟩ : ∃ D : List Int, D = [] := ⟨_, rfl⟩
          have HP1 : Aside (∀ {W : World} {L' : List Asr}, Sep w0 W O L' → Calls Try.prog 50 #[.agg #[.int .u16 1, .int .u64 0, .int .u16 0, .string vnm, .int .u32 0, .int .u32 0, .int .u32 0]] W (InfOut w0 O 3 D1 L')) := ⟨by
            intro W L' H
            rw [hD1]
            exact rputinfo1_long H (by decide) (by decide) (by decide) (by decide) (by decide) (by decide) (by decide) (by decide) (by decide) (by decide) ⟨rfl, rfl, rfl, rfl, rfl⟩ (by omega)⟩
          clear hD1
          have HA1 := (HA 1 true (decide_eq_true g1))
          have HA3 := (HA 3 true (decide_eq_true g3))
          clear HA g1 g3 g16 hB HAN HEX
          rcases vfx with _ | _
          all_goals
            simp only [Bool.false_eq_true, if_false, if_true] at hF
            subst hF
            go_wp2_with fail
            refine (HP0.out HE).mono ?_
            rintro e w11 ⟨A11, c11, rfl, HS11⟩
            clear x0 x1 x2 o0 o1 o2
            have HL12 : Sep w0 _ O (own 27 3 none 0 0 (rrow []) :: own 27 3 (some ⟨w11.heap.size, 0, none⟩) 1 1 [.int .u32 7, .int .u32 3, .slice A11 D0.length c11] :: dataA 5 [] :: own 5 1 A11 D0.length c11 (by8 D0) :: blk w.heap.size 55 #[.int .u32 7, .string wn, .slice Ai ni ci] :: L) := (HS11.lit #[.int .u32 7, .int .u32 3, .slice A11 D0.length c11] 27 3 1 rfl (by decide)).sel 5 [2, 0, 3, 1, 4]
            have o0 := HS11.up3.blk_at 0 rfl
            go_wp2_with (at_builtin; (refine wpList_append_sep rfl (.tmp 85) (.tmp 90) 50 rfl 27 i0 _ 3 32 Try.underlying50 hi0 hz0 hz1 hz2 rfl (by decide) rfl HL12 rfl HL12.rd1 (rep_one 7 3 A11 (D0.length) c11) (by decide) (by decide) rfl rfl ?_; intro B12 c12 w12 HS12 hsz12; have HZ12 := Sep.rsnoc (r := ⟨7, 3, A11, c11, D0⟩) (rs := []) HS12; clear o0; have x0 := (HVOL.out HZ12 hr.cons.cons.cons).1; have o0 := HZ12.up2.blk_at 0 rfl; have o1 := HZ12.up2.blk_at 1 rfl; have o2 := HZ12.up2.blk_at 2 rfl))
            refine (HP1.out HZ12).mono ?_
            rintro e w13 ⟨A13, c13, rfl, HS13⟩
            clear x0 o0 o1 o2
            have o0 := HS13.up3.blk_at 0 rfl
            have o1 := HS13.up3.blk_at 1 rfl
            have o2 := HS13.up3.blk_at 2 rfl
            have HZ13 := HS13.drop
            go_wp2_with fail
            refine (HA3.out HZ13 hri.cons.cons.cons).mono ?_
            rintro e w16 ⟨rfl, HS16⟩
            clear o0 o1 o2
            go_wp2_with fail
            refine (HP3.out HS16).mono ?_
            rintro e w17 ⟨A17, c17, rfl, HS17⟩
            have HL18 : Sep w0 _ O (own 27 3 B12 1 c12 (rrow [⟨7, 3, A11, c11, D0⟩]) :: own 27 3 (some ⟨w17.heap.size, 0, none⟩) 1 1 [.int .u32 7, .int .u32 3, .slice A17 D3.length c17] :: dataA 5 [⟨7, 3, A11, c11, D0⟩] :: own 5 1 A17 D3.length c17 (by8 D3) :: blk w.heap.size 55 #[.int .u32 7, .string wn, .slice Ai ni ci] :: L) := (HS17.lit #[.int .u32 7, .int .u32 3, .slice A17 D3.length c17] 27 3 1 rfl (by decide)).sel 5 [2, 0, 3, 1, 4]
            have o0 := HS17.up3.blk_at 0 rfl
            go_wp2_with (at_builtin; first | (refine wpList_append_sep rfl (.tmp 123) (.tmp 128) 50 rfl 27 i0 _ 3 32 Try.underlying50 hi0 hz0 hz1 hz2 rfl (by decide) rfl HL18 rfl HL18.rd1 (rep_one 7 3 A17 (D3.length) c17) (by decide) (by decide) rfl rfl ?_; intro B18 c18 w18 HS18 hsz18; have HZ18 := Sep.rsnoc (r := ⟨7, 3, A17, c17, D3⟩) (rs := [⟨7, 3, A11, c11, D0⟩]) HS18; clear o0; have o0 := HZ18.up2.blk_at 0 rfl; have HLZ : Sep w0 _ O (own 27 3 B18 2 c18 (rrow [⟨7, 3, A11, c11, D0⟩, ⟨7, 3, A17, c17, D3⟩]) :: own 27 3 (some ⟨w18.heap.size, 0, none⟩) 1 1 [.int .u32 7, .int .u32 1, .slice none 0 0] :: dataA 5 [⟨7, 3, A11, c11, D0⟩, ⟨7, 3, A17, c17, D3⟩] :: own 5 1 none ([] : List Int).length 0 (by8 []) :: blk w.heap.size 55 #[.int .u32 7, .string wn, .slice Ai ni ci] :: L) := ((HZ18.nil 5 1).lit #[.int .u32 7, .int .u32 1, .slice none 0 0] 27 3 1 rfl (by decide)).sel 5 [2, 0, 3, 1, 4]) | (refine wpList_append_sep rfl (.tmp 130) (.tmp 134) 50 rfl 27 i0 _ 3 32 Try.underlying50 hi0 hz0 hz1 hz2 rfl (by decide) rfl HLZ rfl HLZ.rd1 (rep_one 7 1 none (0) 0) (by decide) (by decide) rfl rfl ?_; intro B19 c19 w19 HS19 hsz19))
            have HZ19 := Sep.rsnoc (r := ⟨7, 1, none, 0, []⟩) (rs := [⟨7, 3, A11, c11, D0⟩, ⟨7, 3, A17, c17, D3⟩]) HS19
            rw [HQ.out]
            refine ⟨[⟨7, 3, A11, c11, D0⟩, ⟨7, 3, A17, c17, D3⟩, ⟨7, 1, none, 0, []⟩], B19, c19, ?_, rfl, HZ19.sel 3 [0, 1]⟩
            rw [HANS.out]
            rfl
        · rw [if_pos ⟨g16, g1⟩, if_neg g3] at HANS
          obtain ⟨D1, hD1⟩ : ∃ D, D = be 2 1 ++ strInts vnm := ⟨_, rfl⟩
          have HP1 : Aside (∀ {W : World} {L' : List Asr}, Sep w0 W O L' → Calls Try.prog 50 #[.agg #[.int .u16 1, .int .u64 0, .int .u16 0, .string vnm, .int .u32 0, .int .u32 0, .int .u32 0]] W (InfOut w0 O 0 D1 L')) := ⟨by
            intro W L' H
            rw [hD1]
            exact rputinfo1_ok H (by decide) (by decide) (by decide) (by decide) (by decide) (by decide) (by decide) (by decide) (by decide) (by decide) ⟨rfl, rfl, rfl, rfl, rfl⟩ (by omega)⟩
          rw [← hD1] at HANS
          clear hD1
          have HA1 := (HA 1 true (decide_eq_true g1))
          have HA3 := (HA 3 false (decide_eq_false g3))
          clear HA g1 g3 g16 hB HAN HEX
          rcases vfx with _ | _
          all_goals
            simp only [Bool.false_eq_true, if_false, if_true] at hF
            subst hF
            go_wp2_with fail
            refine (HP0.out HE).mono ?_
            rintro e w11 ⟨A11, c11, rfl, HS11⟩
            clear x0 x1 x2 o0 o1 o2
            have HL12 : Sep w0 _ O (own 27 3 none 0 0 (rrow []) :: own 27 3 (some ⟨w11.heap.size, 0, none⟩) 1 1 [.int .u32 7, .int .u32 3, .slice A11 D0.length c11] :: dataA 5 [] :: own 5 1 A11 D0.length c11 (by8 D0) :: blk w.heap.size 55 #[.int .u32 7, .string wn, .slice Ai ni ci] :: L) := (HS11.lit #[.int .u32 7, .int .u32 3, .slice A11 D0.length c11] 27 3 1 rfl (by decide)).sel 5 [2, 0, 3, 1, 4]
            have o0 := HS11.up3.blk_at 0 rfl
            go_wp2_with (at_builtin; (refine wpList_append_sep rfl (.tmp 85) (.tmp 90) 50 rfl 27 i0 _ 3 32 Try.underlying50 hi0 hz0 hz1 hz2 rfl (by decide) rfl HL12 rfl HL12.rd1 (rep_one 7 3 A11 (D0.length) c11) (by decide) (by decide) rfl rfl ?_; intro B12 c12 w12 HS12 hsz12; have HZ12 := Sep.rsnoc (r := ⟨7, 3, A11, c11, D0⟩) (rs := []) HS12; clear o0; have x0 := (HVOL.out HZ12 hr.cons.cons.cons).1; have o0 := HZ12.up2.blk_at 0 rfl; have o1 := HZ12.up2.blk_at 1 rfl; have o2 := HZ12.up2.blk_at 2 rfl))
            refine (HP1.out HZ12).mono ?_
            rintro e w13 ⟨A13, c13, rfl, HS13⟩
            clear x0 o0 o1 o2
            have o0 := HS13.up3.blk_at 0 rfl
            have o1 := HS13.up3.blk_at 1 rfl
            have o2 := HS13.up3.blk_at 2 rfl
            go_wp2_with fail
            refine (HA1.out HS13 hri.cons.cons.cons.cons).mono ?_
            rintro e w14 ⟨rfl, HS14⟩
            clear o0 o1 o2
            have HL15 : Sep w0 _ O (own 27 3 B12 1 c12 (rrow [⟨7, 3, A11, c11, D0⟩]) :: own 27 3 (some ⟨w14.heap.size, 0, none⟩) 1 1 [.int .u32 7, .int .u32 3, .slice A13 D1.length c13] :: dataA 5 [⟨7, 3, A11, c11, D0⟩] :: own 5 1 A13 D1.length c13 (by8 D1) :: blk w.heap.size 55 #[.int .u32 7, .string wn, .slice Ai ni ci] :: L) := (HS14.lit #[.int .u32 7, .int .u32 3, .slice A13 D1.length c13] 27 3 1 rfl (by decide)).sel 5 [2, 0, 3, 1, 4]
            have o0 := HS14.up3.blk_at 0 rfl
            go_wp2_with (at_builtin; (refine wpList_append_sep rfl (.tmp 108) (.tmp 113) 50 rfl 27 i0 _ 3 32 Try.underlying50 hi0 hz0 hz1 hz2 rfl (by decide) rfl HL15 rfl HL15.rd1 (rep_one 7 3 A13 (D1.length) c13) (by decide) (by decide) rfl rfl ?_; intro B15 c15 w15 HS15 hsz15; have HZ15 := Sep.rsnoc (r := ⟨7, 3, A13, c13, D1⟩) (rs := [⟨7, 3, A11, c11, D0⟩]) HS15; clear o0; have o0 := HZ15.up2.blk_at 0 rfl; have o1 := HZ15.up2.blk_at 1 rfl; have o2 := HZ15.up2.blk_at 2 rfl))
            refine (HA3.out HZ15 hri.cons.cons.cons).mono ?_
            rintro e w16 ⟨rfl, HS16⟩
            clear o0 o1 o2
            have HL19 : Sep w0 _ O (own 27 3 B15 2 c15 (rrow [⟨7, 3, A11, c11, D0⟩, ⟨7, 3, A13, c13, D1⟩]) :: own 27 3 (some ⟨w16.heap.size, 0, none⟩) 1 1 [.int .u32 7, .int .u32 1, .slice none 0 0] :: dataA 5 [⟨7, 3, A11, c11, D0⟩, ⟨7, 3, A13, c13, D1⟩] :: own 5 1 none ([] : List Int).length 0 (by8 []) :: blk w.heap.size 55 #[.int .u32 7, .string wn, .slice Ai ni ci] :: L) := ((HS16.nil 5 1).lit #[.int .u32 7, .int .u32 1, .slice none 0 0] 27 3 1 rfl (by decide)).sel 5 [2, 0, 3, 1, 4]
            have o0 := HS16.up2.blk_at 0 rfl
            go_wp2_with (at_builtin; (refine wpList_append_sep rfl (.tmp 130) (.tmp 134) 50 rfl 27 i0 _ 3 32 Try.underlying50 hi0 hz0 hz1 hz2 rfl (by decide) rfl HL19 rfl HL19.rd1 (rep_one 7 1 none (0) 0) (by decide) (by decide) rfl rfl ?_; intro B19 c19 w19 HS19 hsz19))
            have HZ19 := Sep.rsnoc (r := ⟨7, 1, none, 0, []⟩) (rs := [⟨7, 3, A11, c11, D0⟩, ⟨7, 3, A13, c13, D1⟩]) HS19
            rw [HQ.out]
            refine ⟨[⟨7, 3, A11, c11, D0⟩, ⟨7, 3, A13, c13, D1⟩, ⟨7, 1, none, 0, []⟩], B19, c19, ?_, rfl, HZ19.sel 3 [0, 1]⟩
            rw [HANS.out]
            rfl
        · rw [if_neg (fun h => g16 h.1), if_neg g3] at HANS
          obtain ⟨D1, hD1⟩ : ∃ D : List Int, D = [] := ⟨_, rfl⟩
          have HP1 : Aside (∀ {W : World} {L' : List Asr}, Sep w0 W O L' → Calls Try.prog 50 #[.agg #[.int .u16 1, .int .u64 0, .int .u16 0, .string vnm, .int .u32 0, .int .u32 0, .int .u32 0]] W (InfOut w0 O 3 D1 L')) := ⟨by
            intro W L' H
            rw [hD1]
            exact rputinfo1_long H (by decide) (by decide) (by decide) (by decide) (by decide) (by decide) (by decide) (by decide) (by decide) (by decide) ⟨rfl, rfl, rfl, rfl, rfl⟩ (by omega)⟩
          clear hD1
          have HA1 := (HA 1 true (decide_eq_true g1))
          have HA3 := (HA 3 false (decide_eq_false g3))
          clear HA g1 g3 g16 hB HAN HEX
          rcases vfx with _ | _
          all_goals
            simp only [Bool.false_eq_true, if_false, if_true] at hF
            subst hF
            go_wp2_with fail
            refine (HP0.out HE).mono ?_
            rintro e w11 ⟨A11, c11, rfl, HS11⟩
            clear x0 x1 x2 o0 o1 o2
            have HL12 : Sep w0 _ O (own 27 3 none 0 0 (rrow []) :: own 27 3 (some ⟨w11.heap.size, 0, none⟩) 1 1 [.int .u32 7, .int .u32 3, .slice A11 D0.length c11] :: dataA 5 [] :: own 5 1 A11 D0.length c11 (by8 D0) :: blk w.heap.size 55 #[.int .u32 7, .string wn, .slice Ai ni ci] :: L) := (HS11.lit #[.int .u32 7, .int .u32 3, .slice A11 D0.length c11] 27 3 1 rfl (by decide)).sel 5 [2, 0, 3, 1, 4]
            have o0 := HS11.up3.blk_at 0 rfl
            go_wp2_with (at_builtin; (refine wpList_append_sep rfl (.tmp 85) (.tmp 90) 50 rfl 27 i0 _ 3 32 Try.underlying50 hi0 hz0 hz1 hz2 rfl (by decide) rfl HL12 rfl HL12.rd1 (rep_one 7 3 A11 (D0.length) c11) (by decide) (by decide) rfl rfl ?_; intro B12 c12 w12 HS12 hsz12; have HZ12 := Sep.rsnoc (r := ⟨7, 3, A11, c11, D0⟩) (rs := []) HS12; clear o0; have x0 := (HVOL.out HZ12 hr.cons.cons.cons).1; have o0 := HZ12.up2.blk_at 0 rfl; have o1 := HZ12.up2.blk_at 1 rfl; have o2 := HZ12.up2.blk_at 2 rfl))
            refine (HP1.out HZ12).mono ?_
            rintro e w13 ⟨A13, c13, rfl, HS13⟩
            clear x0 o0 o1 o2
            have o0 := HS13.up3.blk_at 0 rfl
            have o1 := HS13.up3.blk_at 1 rfl
            have o2 := HS13.up3.blk_at 2 rfl
            have HZ13 := HS13.drop
            go_wp2_with fail
            refine (HA3.out HZ13 hri.cons.cons.cons).mono ?_
            rintro e w16 ⟨rfl, HS16⟩
            clear o0 o1 o2
            have HL19 : Sep w0 _ O (own 27 3 B12 1 c12 (rrow [⟨7, 3, A11, c11, D0⟩]) :: own 27 3 (some ⟨w16.heap.size, 0, none⟩) 1 1 [.int .u32 7, .int .u32 1, .slice none 0 0] :: dataA 5 [⟨7, 3, A11, c11, D0⟩] :: own 5 1 none ([] : List Int).length 0 (by8 []) :: blk w.heap.size 55 #[.int .u32 7, .string wn, .slice Ai ni ci] :: L) := ((HS16.nil 5 1).lit #[.int .u32 7, .int .u32 1, .slice none 0 0] 27 3 1 rfl (by decide)).sel 5 [2, 0, 3, 1, 4]
            have o0 := HS16.up2.blk_at 0 rfl
            go_wp2_with (at_builtin; (refine wpList_append_sep rfl (.tmp 130) (.tmp 134) 50 rfl 27 i0 _ 3 32 Try.underlying50 hi0 hz0 hz1 hz2 rfl (by decide) rfl HL19 rfl HL19.rd1 (rep_one 7 1 none (0) 0) (by decide) (by decide) rfl rfl ?_; intro B19 c19 w19 HS19 hsz19))
            have HZ19 := Sep.rsnoc (r := ⟨7, 1, none, 0, []⟩) (rs := [⟨7, 3, A11, c11, D0⟩]) HS19
            rw [HQ.out]
            refine ⟨[⟨7, 3, A11, c11, D0⟩, ⟨7, 1, none, 0, []⟩], B19, c19, ?_, rfl, HZ19.sel 3 [0, 1]⟩
            rw [HANS.out]
            rfl
        · rw [if_neg (fun h => g1 h.2), if_pos g3] at HANS
          obtain ⟨D1, hD1⟩ : ∃ D, D = be 2 1 ++ strInts vnm := ⟨_, rfl⟩
          have HP1 : Aside (∀ {W : World} {L' : List Asr}, Sep w0 W O L' → Calls Try.prog 50 #[.agg #[.int .u16 1, .int .u64 0, .int .u16 0, .string vnm, .int .u32 0, .int .u32 0, .int .u32 0]] W (InfOut w0 O 0 D1 L')) := ⟨by
            intro W L' H
            rw [hD1]
            exact rputinfo1_ok H (by decide) (by decide) (by decide) (by decide) (by decide) (by decide) (by decide) (by decide) (by decide) (by decide) ⟨rfl, rfl, rfl, rfl, rfl⟩ (by omega)⟩
          clear hD1
          have HA1 := (HA 1 false (decide_eq_false g1))
          have HA3 := (HA 3 true (decide_eq_true g3))
          clear HA g1 g3 g16 hB HAN HEX
          rcases vfx with _ | _
          all_goals
            simp only [Bool.false_eq_true, if_false, if_true] at hF
            subst hF
            go_wp2_with fail
            refine (HP0.out HE).mono ?_
            rintro e w11 ⟨A11, c11, rfl, HS11⟩
            clear x0 x1 x2 o0 o1 o2
            have HL12 : Sep w0 _ O (own 27 3 none 0 0 (rrow []) :: own 27 3 (some ⟨w11.heap.size, 0, none⟩) 1 1 [.int .u32 7, .int .u32 3, .slice A11 D0.length c11] :: dataA 5 [] :: own 5 1 A11 D0.length c11 (by8 D0) :: blk w.heap.size 55 #[.int .u32 7, .string wn, .slice Ai ni ci] :: L) := (HS11.lit #[.int .u32 7, .int .u32 3, .slice A11 D0.length c11] 27 3 1 rfl (by decide)).sel 5 [2, 0, 3, 1, 4]
            have o0 := HS11.up3.blk_at 0 rfl
            go_wp2_with (at_builtin; (refine wpList_append_sep rfl (.tmp 85) (.tmp 90) 50 rfl 27 i0 _ 3 32 Try.underlying50 hi0 hz0 hz1 hz2 rfl (by decide) rfl HL12 rfl HL12.rd1 (rep_one 7 3 A11 (D0.length) c11) (by decide) (by decide) rfl rfl ?_; intro B12 c12 w12 HS12 hsz12; have HZ12 := Sep.rsnoc (r := ⟨7, 3, A11, c11, D0⟩) (rs := []) HS12; clear o0; have x0 := (HVOL.out HZ12 hr.cons.cons.cons).1; have o0 := HZ12.up2.blk_at 0 rfl; have o1 := HZ12.up2.blk_at 1 rfl; have o2 := HZ12.up2.blk_at 2 rfl))
            refine (HP1.out HZ12).mono ?_
            rintro e w13 ⟨A13, c13, rfl, HS13⟩
            clear x0 o0 o1 o2
            have o0 := HS13.up3.blk_at 0 rfl
            have o1 := HS13.up3.blk_at 1 rfl
            have o2 := HS13.up3.blk_at 2 rfl
            go_wp2_with fail
            refine (HA1.out HS13 hri.cons.cons.cons.cons).mono ?_
            rintro e w14 ⟨rfl, HS14⟩
            clear o0 o1 o2
            have HZ14 := HS14.drop
            have o0 := HZ14.up2.blk_at 0 rfl
            have o1 := HZ14.up2.blk_at 1 rfl
            have o2 := HZ14.up2.blk_at 2 rfl
            go_wp2_with fail
            refine (HA3.out HZ14 hri.cons.cons.cons).mono ?_
            rintro e w16 ⟨rfl, HS16⟩
            clear o0 o1 o2
            go_wp2_with fail
            refine (HP3.out HS16).mono ?_
            rintro e w17 ⟨A17, c17, rfl, HS17⟩
            have HL18 : Sep w0 _ O (own 27 3 B12 1 c12 (rrow [⟨7, 3, A11, c11, D0⟩]) :: own 27 3 (some ⟨w17.heap.size, 0, none⟩) 1 1 [.int .u32 7, .int .u32 3, .slice A17 D3.length c17] :: dataA 5 [⟨7, 3, A11, c11, D0⟩] :: own 5 1 A17 D3.length c17 (by8 D3) :: blk w.heap.size 55 #[.int .u32 7, .string wn, .slice Ai ni ci] :: L) := (HS17.lit #[.int .u32 7, .int .u32 3, .slice A17 D3.length c17] 27 3 1 rfl (by decide)).sel 5 [2, 0, 3, 1, 4]
            have o0 := HS17.up3.blk_at 0 rfl
            go_wp2_with (at_builtin; first | (refine wpList_append_sep rfl (.tmp 123) (.tmp 128) 50 rfl 27 i0 _ 3 32 Try.underlying50 hi0 hz0 hz1 hz2 rfl (by decide) rfl HL18 rfl HL18.rd1 (rep_one 7 3 A17 (D3.length) c17) (by decide) (by decide) rfl rfl ?_; intro B18 c18 w18 HS18 hsz18; have HZ18 := Sep.rsnoc (r := ⟨7, 3, A17, c17, D3⟩) (rs := [⟨7, 3, A11, c11, D0⟩]) HS18; clear o0; have o0 := HZ18.up2.blk_at 0 rfl; have HLZ : Sep w0 _ O (own 27 3 B18 2 c18 (rrow [⟨7, 3, A11, c11, D0⟩, ⟨7, 3, A17, c17, D3⟩]) :: own 27 3 (some ⟨w18.heap.size, 0, none⟩) 1 1 [.int .u32 7, .int .u32 1, .slice none 0 0] :: dataA 5 [⟨7, 3, A11, c11, D0⟩, ⟨7, 3, A17, c17, D3⟩] :: own 5 1 none ([] : List Int).length 0 (by8 []) :: blk w.heap.size 55 #[.int .u32 7, .string wn, .slice Ai ni ci] :: L) := ((HZ18.nil 5 1).lit #[.int .u32 7, .int .u32 1, .slice none 0 0] 27 3 1 rfl (by decide)).sel 5 [2, 0, 3, 1, 4]) | (refine wpList_append_sep rfl (.tmp 130) (.tmp 134) 50 rfl 27 i0 _ 3 32 Try.underlying50 hi0 hz0 hz1 hz2 rfl (by decide) rfl HLZ rfl HLZ.rd1 (rep_one 7 1 none (0) 0) (by decide) (by decide) rfl rfl ?_; intro B19 c19 w19 HS19 hsz19))
            have HZ19 := Sep.rsnoc (r := ⟨7, 1, none, 0, []⟩) (rs := [⟨7, 3, A11, c11, D0⟩, ⟨7, 3, A17, c17, D3⟩]) HS19
            rw [HQ.out]
            refine ⟨[⟨7, 3, A11, c11, D0⟩, ⟨7, 3, A17, c17, D3⟩, ⟨7, 1, none, 0, []⟩], B19, c19, ?_, rfl, HZ19.sel 3 [0, 1]⟩
            rw [HANS.out]
            rfl
        · rw [if_neg (fun h => g1 h.2), if_pos g3] at HANS
          obtain ⟨D1, hD1⟩ : ∃ D : List Int, D = [] := ⟨_, rfl⟩
          have HP1 : Aside (∀ {W : World} {L' : List Asr}, Sep w0 W O L' → Calls Try.prog 50 #[.agg #[.int .u16 1, .int .u64 0, .int .u16 0, .string vnm, .int .u32 0, .int .u32 0, .int .u32 0]] W (InfOut w0 O 3 D1 L')) := ⟨by
            intro W L' H
            rw [hD1]
            exact rputinfo1_long H (by decide) (by decide) (by decide) (by decide) (by decide) (by decide) (by decide) (by decide) (by decide) (by decide) ⟨rfl, rfl, rfl, rfl, rfl⟩ (by omega)⟩
          clear hD1
          have HA1 := (HA 1 false (decide_eq_false g1))
          have HA3 := (HA 3 true (decide_eq_true g3))
          clear HA g1 g3 g16 hB HAN HEX
          rcases vfx with _ | _
          all_goals
            simp only [Bool.false_eq_true, if_false, if_true] at hF
            subst hF
            go_wp2_with fail
            refine (HP0.out HE).mono ?_
            rintro e w11 ⟨A11, c11, rfl, HS11⟩
            clear x0 x1 x2 o0 o1 o2
            have HL12 : Sep w0 _ O (own 27 3 none 0 0 (rrow []) :: own 27 3 (some ⟨w11.heap.size, 0, none⟩) 1 1 [.int .u32 7, .int .u32 3, .slice A11 D0.length c11] :: dataA 5 [] :: own 5 1 A11 D0.length c11 (by8 D0) :: blk w.heap.size 55 #[.int .u32 7, .string wn, .slice Ai ni ci] :: L) := (HS11.lit #[.int .u32 7, .int .u32 3, .slice A11 D0.length c11] 27 3 1 rfl (by decide)).sel 5 [2, 0, 3, 1, 4]
            have o0 := HS11.up3.blk_at 0 rfl
            go_wp2_with (at_builtin; (refine wpList_append_sep rfl (.tmp 85) (.tmp 90) 50 rfl 27 i0 _ 3 32 Try.underlying50 hi0 hz0 hz1 hz2 rfl (by decide) rfl HL12 rfl HL12.rd1 (rep_one 7 3 A11 (D0.length) c11) (by decide) (by decide) rfl rfl ?_; intro B12 c12 w12 HS12 hsz12; have HZ12 := Sep.rsnoc (r := ⟨7, 3, A11, c11, D0⟩) (rs := []) HS12; clear o0; have x0 := (HVOL.out HZ12 hr.cons.cons.cons).1; have o0 := HZ12.up2.blk_at 0 rfl; have o1 := HZ12.up2.blk_at 1 rfl; have o2 := HZ12.up2.blk_at 2 rfl))
            refine (HP1.out HZ12).mono ?_
            rintro e w13 ⟨A13, c13, rfl, HS13⟩
            clear x0 o0 o1 o2
            have o0 := HS13.up3.blk_at 0 rfl
            have o1 := HS13.up3.blk_at 1 rfl
            have o2 := HS13.up3.blk_at 2 rfl
            have HZ13 := HS13.drop
            go_wp2_with fail
            refine (HA3.out HZ13 hri.cons.cons.cons).mono ?_
            rintro e w16 ⟨rfl, HS16⟩
            clear o0 o1 o2
            go_wp2_with fail
            refine (HP3.out HS16).mono ?_
            rintro e w17 ⟨A17, c17, rfl, HS17⟩
            have HL18 : Sep w0 _ O (own 27 3 B12 1 c12 (rrow [⟨7, 3, A11, c11, D0⟩]) :: own 27 3 (some ⟨w17.heap.size, 0, none⟩) 1 1 [.int .u32 7, .int .u32 3, .slice A17 D3.length c17] :: dataA 5 [⟨7, 3, A11, c11, D0⟩] :: own 5 1 A17 D3.length c17 (by8 D3) :: blk w.heap.size 55 #[.int .u32 7, .string wn, .slice Ai ni ci] :: L) := (HS17.lit #[.int .u32 7, .int .u32 3, .slice A17 D3.length c17] 27 3 1 rfl (by decide)).sel 5 [2, 0, 3, 1, 4]
            have o0 := HS17.up3.blk_at 0 rfl
            go_wp2_with (at_builtin; first | (refine wpList_append_sep rfl (.tmp 123) (.tmp 128) 50 rfl 27 i0 _ 3 32 Try.underlying50 hi0 hz0 hz1 hz2 rfl (by decide) rfl HL18 rfl HL18.rd1 (rep_one 7 3 A17 (D3.length) c17) (by decide) (by decide) rfl rfl ?_; intro B18 c18 w18 HS18 hsz18; have HZ18 := Sep.rsnoc (r := ⟨7, 3, A17, c17, D3⟩) (rs := [⟨7, 3, A11, c11, D0⟩]) HS18; clear o0; have o0 := HZ18.up2.blk_at 0 rfl; have HLZ : Sep w0 _ O (own 27 3 B18 2 c18 (rrow [⟨7, 3, A11, c11, D0⟩, ⟨7, 3, A17, c17, D3⟩]) :: own 27 3 (some ⟨w18.heap.size, 0, none⟩) 1 1 [.int .u32 7, .int .u32 1, .slice none 0 0] :: dataA 5 [⟨7, 3, A11, c11, D0⟩, ⟨7, 3, A17, c17, D3⟩] :: own 5 1 none ([] : List Int).length 0 (by8 []) :: blk w.heap.size 55 #[.int .u32 7, .string wn, .slice Ai ni ci] :: L) := ((HZ18.nil 5 1).lit #[.int .u32 7, .int .u32 1, .slice none 0 0] 27 3 1 rfl (by decide)).sel 5 [2, 0, 3, 1, 4]) | (refine wpList_append_sep rfl (.tmp 130) (.tmp 134) 50 rfl 27 i0 _ 3 32 Try.underlying50 hi0 hz0 hz1 hz2 rfl (by decide) rfl HLZ rfl HLZ.rd1 (rep_one 7 1 none (0) 0) (by decide) (by decide) rfl rfl ?_; intro B19 c19 w19 HS19 hsz19))
            have HZ19 := Sep.rsnoc (r := ⟨7, 1, none, 0, []⟩) (rs := [⟨7, 3, A11, c11, D0⟩, ⟨7, 3, A17, c17, D3⟩]) HS19
            rw [HQ.out]
            refine ⟨[⟨7, 3, A11, c11, D0⟩, ⟨7, 3, A17, c17, D3⟩, ⟨7, 1, none, 0, []⟩], B19, c19, ?_, rfl, HZ19.sel 3 [0, 1]⟩
            rw [HANS.out]
            rfl
        · rw [if_neg (fun h => g1 h.2), if_neg g3] at HANS
          obtain ⟨D1, hD1⟩ : ∃ D, D = be 2 1 ++ strInts vnm := ⟨_, rfl⟩
          have HP1 : Aside (∀ {W : World} {L' : List Asr}, Sep w0 W O L' → Calls Try.prog 50 #[.agg #[.int .u16 1, .int .u64 0, .int .u16 0, .string vnm, .int .u32 0, .int .u32 0, .int .u32 0]] W (InfOut w0 O 0 D1 L')) := ⟨by
            intro W L' H
            rw [hD1]
            exact rputinfo1_ok H (by decide) (by decide) (by decide) (by decide) (by decide) (by decide) (by decide) (by decide) (by decide) (by decide) ⟨rfl, rfl, rfl, rfl, rfl⟩ (by omega)⟩
          clear hD1
          have HA1 := (HA 1 false (decide_eq_false g1))
          have HA3 := (HA 3 false (decide_eq_false g3))
          clear HA g1 g3 g16 hB HAN HEX
          rcases vfx with _ | _
          all_goals
            simp only [Bool.false_eq_true, if_false, if_true] at hF
            subst hF
            go_wp2_with fail
            refine (HP0.out HE).mono ?_
            rintro e w11 ⟨A11, c11, rfl, HS11⟩
            clear x0 x1 x2 o0 o1 o2
            have HL12 : Sep w0 _ O (own 27 3 none 0 0 (rrow []) :: own 27 3 (some ⟨w11.heap.size, 0, none⟩) 1 1 [.int .u32 7, .int .u32 3, .slice A11 D0.length c11] :: dataA 5 [] :: own 5 1 A11 D0.length c11 (by8 D0) :: blk w.heap.size 55 #[.int .u32 7, .string wn, .slice Ai ni ci] :: L) := (HS11.lit #[.int .u32 7, .int .u32 3, .slice A11 D0.length c11] 27 3 1 rfl (by decide)).sel 5 [2, 0, 3, 1, 4]
            have o0 := HS11.up3.blk_at 0 rfl
            go_wp2_with (at_builtin; (refine wpList_append_sep rfl (.tmp 85) (.tmp 90) 50 rfl 27 i0 _ 3 32 Try.underlying50 hi0 hz0 hz1 hz2 rfl (by decide) rfl HL12 rfl HL12.rd1 (rep_one 7 3 A11 (D0.length) c11) (by decide) (by decide) rfl rfl ?_; intro B12 c12 w12 HS12 hsz12; have HZ12 := Sep.rsnoc (r := ⟨7, 3, A11, c11, D0⟩) (rs := []) HS12; clear o0; have x0 := (HVOL.out HZ12 hr.cons.cons.cons).1; have o0 := HZ12.up2.blk_at 0 rfl; have o1 := HZ12.up2.blk_at 1 rfl; have o2 := HZ12.up2.blk_at 2 rfl))
            refine (HP1.out HZ12).mono ?_
            rintro e w13 ⟨A13, c13, rfl, HS13⟩
            clear x0 o0 o1 o2
            have o0 := HS13.up3.blk_at 0 rfl
            have o1 := HS13.up3.blk_at 1 rfl
            have o2 := HS13.up3.blk_at 2 rfl
            go_wp2_with fail
            refine (HA1.out HS13 hri.cons.cons.cons.cons).mono ?_
            rintro e w14 ⟨rfl, HS14⟩
            clear o0 o1 o2
            have HZ14 := HS14.drop
            have o0 := HZ14.up2.blk_at 0 rfl
            have o1 := HZ14.up2.blk_at 1 rfl
            have o2 := HZ14.up2.blk_at 2 rfl
            go_wp2_with fail
            refine (HA3.out HZ14 hri.cons.cons.cons).mono ?_
            rintro e w16 ⟨rfl, HS16⟩
            clear o0 o1 o2
            have HL19 : Sep w0 _ O (own 27 3 B12 1 c12 (rrow [⟨7, 3, A11, c11, D0⟩]) :: own 27 3 (some ⟨w16.heap.size, 0, none⟩) 1 1 [.int .u32 7, .int .u32 1, .slice none 0 0] :: dataA 5 [⟨7, 3, A11, c11, D0⟩] :: own 5 1 none ([] : List Int).length 0 (by8 []) :: blk w.heap.size 55 #[.int .u32 7, .string wn, .slice Ai ni ci] :: L) := ((HS16.nil 5 1).lit #[.int .u32 7, .int .u32 1, .slice none 0 0] 27 3 1 rfl (by decide)).sel 5 [2, 0, 3, 1, 4]
            have o0 := HS16.up2.blk_at 0 rfl
            go_wp2_with (at_builtin; (refine wpList_append_sep rfl (.tmp 130) (.tmp 134) 50 rfl 27 i0 _ 3 32 Try.underlying50 hi0 hz0 hz1 hz2 rfl (by decide) rfl HL19 rfl HL19.rd1 (rep_one 7 1 none (0) 0) (by decide) (by decide) rfl rfl ?_; intro B19 c19 w19 HS19 hsz19))
            have HZ19 := Sep.rsnoc (r := ⟨7, 1, none, 0, []⟩) (rs := [⟨7, 3, A11, c11, D0⟩]) HS19
            rw [HQ.out]
            refine ⟨[⟨7, 3, A11, c11, D0⟩, ⟨7, 1, none, 0, []⟩], B19, c19, ?_, rfl, HZ19.sel 3 [0, 1]⟩
            rw [HANS.out]
            rfl
        · rw [if_neg (fun h => g1 h.2), if_neg g3] at HANS
          obtain ⟨D1, hD1⟩ : ∃ D : List Int, D = [] := ⟨_, rfl⟩
          have HP1 : Aside (∀ {W : World} {L' : List Asr}, Sep w0 W O L' → Calls Try.prog 50 #[.agg #[.int .u16 1, .int .u64 0, .int .u16 0, .string vnm, .int .u32 0, .int .u32 0, .int .u32 0]] W (InfOut w0 O 3 D1 L')) := ⟨by
            intro W L' H
            rw [hD1]
            exact rputinfo1_long H (by decide) (by decide) (by decide) (by decide) (by decide) (by decide) (by decide) (by decide) (by decide) (by decide) ⟨rfl, rfl, rfl, rfl, rfl⟩ (by omega)⟩
          clear hD1
          have HA1 := (HA 1 false (decide_eq_false g1))
          have HA3 := (HA 3 false (decide_eq_false g3))
          clear HA g1 g3 g16 hB HAN HEX
          rcases vfx with _ | _
          all_goals
            simp only [Bool.false_eq_true, if_false, if_true] at hF
            subst hF
            go_wp2_with fail
            refine (HP0.out HE).mono ?_
            rintro e w11 ⟨A11, c11, rfl, HS11⟩
            clear x0 x1 x2 o0 o1 o2
            have HL12 : Sep w0 _ O (own 27 3 none 0 0 (rrow []) :: own 27 3 (some ⟨w11.heap.size, 0, none⟩) 1 1 [.int .u32 7, .int .u32 3, .slice A11 D0.length c11] :: dataA 5 [] :: own 5 1 A11 D0.length c11 (by8 D0) :: blk w.heap.size 55 #[.int .u32 7, .string wn, .slice Ai ni ci] :: L) := (HS11.lit #[.int .u32 7, .int .u32 3, .slice A11 D0.length c11] 27 3 1 rfl (by decide)).sel 5 [2, 0, 3, 1, 4]
            have o0 := HS11.up3.blk_at 0 rfl
            go_wp2_with (at_builtin; (refine wpList_append_sep rfl (.tmp 85) (.tmp 90) 50 rfl 27 i0 _ 3 32 Try.underlying50 hi0 hz0 hz1 hz2 rfl (by decide) rfl HL12 rfl HL12.rd1 (rep_one 7 3 A11 (D0.length) c11) (by decide) (by decide) rfl rfl ?_; intro B12 c12 w12 HS12 hsz12; have HZ12 := Sep.rsnoc (r := ⟨7, 3, A11, c11, D0⟩) (rs := []) HS12; clear o0; have x0 := (HVOL.out HZ12 hr.cons.cons.cons).1; have o0 := HZ12.up2.blk_at 0 rfl; have o1 := HZ12.up2.blk_at 1 rfl; have o2 := HZ12.up2.blk_at 2 rfl))
            refine (HP1.out HZ12).mono ?_
            rintro e w13 ⟨A13, c13, rfl, HS13⟩
            clear x0 o0 o1 o2
            have o0 := HS13.up3.blk_at 0 rfl
            have o1 := HS13.up3.blk_at 1 rfl
            have o2 := HS13.up3.blk_at 2 rfl
            have HZ13 := HS13.drop
            go_wp2_with fail
            refine (HA3.out HZ13 hri.cons.cons.cons).mono ?_
            rintro e w16 ⟨rfl, HS16⟩
            clear o0 o1 o2
            have HL19 : Sep w0 _ O (own 27 3 B12 1 c12 (rrow [⟨7, 3, A11, c11, D0⟩]) :: own 27 3 (some ⟨w16.heap.size, 0, none⟩) 1 1 [.int .u32 7, .int .u32 1, .slice none 0 0] :: dataA 5 [⟨7, 3, A11, c11, D0⟩] :: own 5 1 none ([] : List Int).length 0 (by8 []) :: blk w.heap.size 55 #[.int .u32 7, .string wn, .slice Ai ni ci] :: L) := ((HS16.nil 5 1).lit #[.int .u32 7, .int .u32 1, .slice none 0 0] 27 3 1 rfl (by decide)).sel 5 [2, 0, 3, 1, 4]
            have o0 := HS16.up2.blk_at 0 rfl
            go_wp2_with (at_builtin; (refine wpList_append_sep rfl (.tmp 130) (.tmp 134) 50 rfl 27 i0 _ 3 32 Try.underlying50 hi0 hz0 hz1 hz2 rfl (by decide) rfl HL19 rfl HL19.rd1 (rep_one 7 1 none (0) 0) (by decide) (by decide) rfl rfl ?_; intro B19 c19 w19 HS19 hsz19))
            have HZ19 := Sep.rsnoc (r := ⟨7, 1, none, 0, []⟩) (rs := [⟨7, 3, A11, c11, D0⟩]) HS19
            rw [HQ.out]
            refine ⟨[⟨7, 3, A11, c11, D0⟩, ⟨7, 1, none, 0, []⟩], B19, c19, ?_, rfl, HZ19.sel 3 [0, 1]⟩
            rw [HANS.out]
            rfl
    · obtain rfl : n = k := by omega
      have hj : ¬ (n : Int) < n := by omega
      have hpos : vPos vs wn = none := vPos_no fun v hv => hnot.out v (by rw [List.take_of_length_le (by rw [HVN.out]; exact Nat.le_refl _)]; exact hv)
      have HANS : Aside (ansR 7 wn inf vs = [(7, 2147483654, [])]) := ⟨by rw [HAN.out, hpos]; rfl⟩
      clear hpos
      go_upto_region 15 with (fail)
      go_quiet (fail)
      obtain ⟨w6, hw6, HS6⟩ : ∃ W, W = wr.drewN nq ∧ Sep w0 W O (blk w.heap.size 55 #[.int .u32 7, .string wn, .slice Ai ni ci] :: L) := ⟨_, rfl, HS1.drewN nq⟩
      rw [← hw6]
      clear hw6 HS1
      have o0 := HS6.blk_at 0 rfl
      have HL : Sep w0 _ O (own 27 3 (some ⟨w6.heap.size, 0, none⟩) 1 1 [.int .u32 7, .int .u32 2147483654, .slice none 0 0] :: blk w.heap.size 55 #[.int .u32 7, .string wn, .slice Ai ni ci] :: L) := HS6.lit #[.int .u32 7, .int .u32 2147483654, .slice none 0 0] 27 3 1 rfl (by decide)
      have HD : Sep w0 _ O (dataA 5 [⟨7, 2147483654, none, 0, []⟩] :: own 27 3 (some ⟨w6.heap.size, 0, none⟩) 1 1 [.int .u32 7, .int .u32 2147483654, .slice none 0 0] :: blk w.heap.size 55 #[.int .u32 7, .string wn, .slice Ai ni ci] :: L) := Sep.dataSnoc (rs := []) (r := ⟨7, 2147483654, none, 0, []⟩) ((HL.nil 5 1).emp)
      go_wp2
      rw [HQ.out]
      refine ⟨[⟨7, 2147483654, none, 0, []⟩], some ⟨w6.heap.size, 0, none⟩, 1, ?_, rfl, HD.sel 3 [1, 0]⟩
      rw [HANS.out]
      rfl

theorem ranswers_calls {op : Int} {wn : ByteArray} {Ai A : Option Addr} {ni ci n c : Nat} {vs : List Vol} {inf : List Int} (HS : Sep w0 w O L) (hr : Rb w0 O L 3 A n (crow vs)) (hvn : vs.length = n) (hn : n ≤ 2513169434843) (hok : ∀ v ∈ vs, v.Ok) (hri : Rb w0 O L 1 Ai ni (kv .u16 inf)) (hni : ni ≤ 70368744177664) :
    Calls Try.prog 30 #[.agg #[.int .u32 op, .string wn, .slice Ai ni ci], .slice A n c] w (RrOut w0 O (ansR op wn inf vs) L) := by
  by_cases h3 : op = 3
  · subst h3
    rw [show ansR 3 wn inf vs = namR 3 vs ++ [(3, 1, [])] from if_pos rfl]
    exact ranswers_list HS hr hvn hn
  by_cases h6 : op = 6
  · subst h6; exact ranswers_6 HS hr hvn hn hok hri hni
  by_cases h7 : op = 7
  · subst h7; exact ranswers_7 HS hr hvn hn hok hri hni
  by_cases h2 : op = 2
  · subst h2
    rw [show ansR 2 wn inf vs = [(2, 1, [])] from by unfold ansR; rw [if_neg (by decide), if_neg (by decide), if_pos rfl]]
    exact ranswers_two HS
  · rw [show ansR op wn inf vs = [] from by unfold ansR; rw [if_neg h3, if_neg (by omega), if_neg h2]]
    exact ranswers_none HS h2 h3 h6 h7
end
end Go.Proofs.Ytgepekailoopeaa
