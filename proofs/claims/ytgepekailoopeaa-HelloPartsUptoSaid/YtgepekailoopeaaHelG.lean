/-
  Contract of hello.Answers.
-/
import Derived.Test.YtgepekailoopeaaHelF
namespace Go.Proofs.Ytgepekailoopeaa
open Go.RowKit
set_option linter.unusedVariables false
set_option linter.unusedSimpArgs false
/-- the names of volumes, as they are told -/
def namR (op : Int) (vs : List Vol) : List (Int × Int × List Int) := vs.flatMap fun v => if v.nm.size ≤ 16 then [(op, 2, nameB v.nm)] else []
theorem namR_succ {op : Int} {vs : List Vol} {k : Nat} {v : Vol} (h : vs[k]? = some v) : namR op (vs.take (k + 1)) = namR op (vs.take k) ++ (if v.nm.size ≤ 16 then [(op, 2, nameB v.nm)] else []) := by
  unfold namR
  rw [List.take_add_one, h]
  simp
def ansR (op : Int) (wn : ByteArray) (inf : List Int) (vs : List Vol) : List (Int × Int × List Int) :=
  if op = 3 then namR op vs ++ [(op, 1, [])]
  else if op = 6 ∨ op = 7 then (match (vPos vs wn).bind (fun k => vs[k]?) with
    | none => [(op, 2147483654, [])]
    | some v => expR op v.nm v.size v.fixed inf ++ [(op, 1, [])])
  else if op = 2 then [(op, 1, [])]
  else []
section
variable {w0 w : World} {O : Nat → Prop} {L : List Asr}

set_option maxHeartbeats 4000000 in
set_option maxRecDepth 100000 in
theorem answers_two {wn : ByteArray} {Ai A : Option Addr} {ni ci n c : Nat} (HS : Sep w0 w O L) :
    Calls Try.prog 28 #[.agg #[.int .u32 2, .string wn, .slice Ai ni ci], .slice A n c] w (RpOut w0 O [(2, 1, [])] L) := by
  have HSa := HS.alloc #[.int .u32 2, .string wn, .slice Ai ni ci] 66
  have o0 := HSa.blk_at 0 rfl
  have HE := HSa.emp.nil 35 3
  replace HE : Sep w0 _ O (own 35 3 none 0 0 (rrow []) :: dataA 5 [] :: blk w.heap.size 66 #[.int .u32 2, .string wn, .slice Ai ni ci] :: L) := HE
  obtain ⟨Q, hQ⟩ : ∃ Q : Ending → World → Prop, Q = RpOut w0 O [(2, 1, [])] L := ⟨_, rfl⟩
  have HQ := hid hQ
  rw [← hQ]
  clear hQ
  go_enter Try.func28, Try.ntmps28
  have HGa : Sep w0 ((w.alloc (.cells #[.int .u32 2, .string wn, .slice Ai ni ci] 66)).alloc (.cells #[.slice none 0 0] 23)) O (own 23 1 (some ⟨w.heap.size + 1, 0, none⟩) 1 1 [.slice none ([] : List Int).length 0] :: own 35 3 none 0 0 (rrow []) :: dataA 5 [] :: own 5 1 none ([] : List Int).length 0 (by8 []) :: blk w.heap.size 66 #[.int .u32 2, .string wn, .slice Ai ni ci] :: L) := ((HE.nil 5 1).litB #[.slice none 0 0] 23 1 1 rfl (by decide) (B := w.heap.size + 1) (by simp)).sel 5 [0, 2, 3, 1, 4]
  go_wp2_with fail
  refine (gather_calls (op := 2) (kd := 1) HGa (by decide)).mono ?_
  rintro e w3 ⟨AZ, cZ, rfl, HSZ⟩
  go_wp2
  rw [HQ.out]
  exact ⟨[⟨2, 1, none, 0, []⟩], AZ, cZ, rfl, rfl, HSZ.sel 3 [0, 1]⟩

set_option maxHeartbeats 4000000 in
set_option maxRecDepth 100000 in
theorem answers_none {op : Int} {wn : ByteArray} {Ai A : Option Addr} {ni ci n c : Nat} (HS : Sep w0 w O L) (h2 : op ≠ 2) (h3 : op ≠ 3) (h6 : op ≠ 6) (h7 : op ≠ 7) :
    Calls Try.prog 28 #[.agg #[.int .u32 op, .string wn, .slice Ai ni ci], .slice A n c] w (RpOut w0 O [] L) := by
  have HSa := HS.alloc #[.int .u32 op, .string wn, .slice Ai ni ci] 66
  have o0 := HSa.blk_at 0 rfl
  have b2 := beq_eq_false_iff_ne.2 h2
  have b3 := beq_eq_false_iff_ne.2 h3
  have b6 := beq_eq_false_iff_ne.2 h6
  have b7 := beq_eq_false_iff_ne.2 h7
  obtain ⟨Q, hQ⟩ : ∃ Q : Ending → World → Prop, Q = RpOut w0 O [] L := ⟨_, rfl⟩
  have HQ := hid hQ
  rw [← hQ]
  clear hQ
  clear h2 h3 h6 h7
  go_enter Try.func28, Try.ntmps28
  go_wp2
  rw [HQ.out]
  have HE := HSa.drop.emp.nil 35 3
  exact ⟨[], none, 0, rfl, rfl, HE⟩

set_option maxHeartbeats 4000000 in
set_option maxRecDepth 100000 in
theorem answers_list {wn : ByteArray} {Ai A : Option Addr} {ni ci n c : Nat} {vs : List Vol} (HS : Sep w0 w O L) (hr : Rb w0 O L 6 A n (vrow vs)) (hvn : vs.length = n) (hn : n ≤ 2513169434843) :
    Calls Try.prog 28 #[.agg #[.int .u32 3, .string wn, .slice Ai ni ci], .slice A n c] w (RpOut w0 O (namR 3 vs ++ [(3, 1, [])]) L) := by
  have HSa := HS.alloc #[.int .u32 3, .string wn, .slice Ai ni ci] 66
  have o0 := HSa.blk_at 0 rfl
  have HE := HSa.emp.nil 35 3
  replace HE : Sep w0 _ O (own 35 3 none 0 0 (rrow []) :: dataA 5 [] :: blk w.heap.size 66 #[.int .u32 3, .string wn, .slice Ai ni ci] :: L) := HE
  have HVN := hid hvn
  obtain ⟨Q, hQ⟩ : ∃ Q : Ending → World → Prop, Q = RpOut w0 O (namR 3 vs ++ [(3, 1, [])]) L := ⟨_, rfl⟩
  have HQ := hid hQ
  rw [← hQ]
  clear hQ
  clear hvn HSa HS
  go_enter Try.func28, Try.ntmps28
  go_wp2_with fail
  go_loopw [5, 17] (fun b i wr => ∃ (k m c2 : Nat) (B : Option Addr) (rs : List Rp), k ≤ n ∧ i = .int .i64 k ∧ b = .slice B m c2 ∧ Aside (rs.map Rp.out = namR 3 (vs.take k)) ∧ Aside (rs.length = m) ∧ m ≤ k ∧
    Sep w0 wr O (own 35 3 B m c2 (rrow rs) :: dataA 5 rs :: blk w.heap.size 66 #[.int .u32 3, .string wn, .slice Ai ni ci] :: L)) (fun _ i _ => n - (intOf i).toNat)
  case atStart => exact ⟨0, 0, 0, none, [], Nat.zero_le _, rfl, rfl, ⟨rfl⟩, ⟨rfl⟩, Nat.le_refl _, HE⟩
  case round =>
    obtain ⟨k, m, c2, B, rs, hk, rfl, rfl, hout, hrl, hmk, HS1⟩ := hrel
    clear o0 HE
    have o0 := HS1.up2.blk_at 0 rfl
    by_cases hlt : k < n
    · obtain ⟨ad, v, rfl, hvk, x0, x1, x2, x3, x4, x5⟩ := (hr.cons.cons.cons).volAt HS1 hlt
      have hj : (k : Int) < n := by omega
      have j0 : (0 : Int) ≤ k := by omega
      have HNS := hid (namR_succ (op := 3) hvk)
      have HS2 := HS1.alloc #[.int .u64 v.id, .string v.nm, .int .u64 v.size, .int .u64 v.root, .bool v.fixed, .int .u64 v.orig] 60
      have v1 := HS2.blk_at 1 rfl
      clear hvk
      obtain ⟨vnm, hvnm⟩ : ∃ x, x = v.nm := ⟨_, rfl⟩
      rw [← hvnm] at v1 HNS HS2
      have HVNM := hid hvnm
      have o2 := HS2.up3.blk_at 0 rfl
      go_wp2_with fail
      rw [← hvnm]
      refine (putname_calls (nm := vnm) HS2).mono ?_
      rintro e w4 ⟨A4, c4, rfl, HS4⟩
      clear x0 x1 x2 x3 x4 x5 v1 o2 hvnm o0
      have o0 := HS4.up4.blk_at 0 rfl
      by_cases h16 : vnm.size ≤ 16
      · have hE : nameE vnm = 0 := by unfold nameE; rw [if_neg (by omega)]
        have H16 := hid h16
        rw [hE]
        obtain ⟨nb, hnb⟩ : ∃ nb, nameB vnm = nb := ⟨_, rfl⟩
        rw [hnb] at HS4 ⊢ HNS
        obtain ⟨ln, hln⟩ : ∃ ln, ln = nb.length := ⟨_, rfl⟩
        rw [← hln] at HS4 ⊢
        have HGb : Sep w0 (w4.alloc (.cells #[.slice A4 ln c4] 23)) O (own 23 1 (some ⟨w4.heap.size, 0, none⟩) 1 1 [.slice A4 ln c4] :: own 35 3 B m c2 (rrow rs) :: dataA 5 rs :: own 5 1 A4 ln c4 (by8 nb) :: blk w.heap.size 66 #[.int .u32 3, .string wn, .slice Ai ni ci] :: L) := (HS4.lit #[.slice A4 ln c4] 23 1 1 rfl (by decide)).sel 6 [0, 3, 4, 1, 5]
        rw [hln] at HGb
        have HLN := hid hln
        clear hE h16 hnb
        go_wp2_with fail
        (try rw [HLN.out])
        refine (gather_calls (op := 3) (kd := 2) HGb (by omega)).mono ?_
        rintro e w5 ⟨A5, c5, rfl, HS5⟩
        clear hln
        go_wp2
        go_roundw
        case rel =>
          refine ⟨k + 1, m + 1, c5, A5, rs ++ [⟨3, 2, A4, c4, nb⟩], by omega, by go_num, rfl, ⟨?_⟩, ⟨?_⟩, by omega, HS5⟩
          · rw [HNS.out, if_pos H16.out, List.map_append, hout.out]; rfl
          · rw [List.length_append, hrl.out]; rfl
        case measure => simp [intOf]; omega
      · have hE : (nameE vnm == 0) = false := by unfold nameE; rw [if_pos (by omega)]; rfl
        have H16 := hid h16
        generalize nameE vnm = EE at *
        clear h16
        go_wp2
        go_roundw
        case rel =>
          refine ⟨k + 1, m, c2, B, rs, by omega, by go_num, rfl, ⟨?_⟩, hrl, by omega, HS4.sel 5 [2, 3, 4]⟩
          rw [HNS.out, if_neg H16.out, List.append_nil, hout.out]
        case measure => simp [intOf]; omega
    · obtain rfl : n = k := by omega
      have hj : ¬ (n : Int) < n := by omega
      have HGa : Sep w0 (wr.alloc (.cells #[.slice none 0 0] 23)) O (own 23 1 (some ⟨wr.heap.size, 0, none⟩) 1 1 [.slice none ([] : List Int).length 0] :: own 35 3 B m c2 (rrow rs) :: dataA 5 rs :: own 5 1 none ([] : List Int).length 0 (by8 []) :: blk w.heap.size 66 #[.int .u32 3, .string wn, .slice Ai ni ci] :: L) := ((HS1.nil 5 1).lit #[.slice none 0 0] 23 1 1 rfl (by decide)).sel 5 [0, 2, 3, 1, 4]
      go_wp2_with fail
      refine (gather_calls (op := 3) (kd := 1) HGa (by omega)).mono ?_
      rintro e w3 ⟨AZ, cZ, rfl, HSZ⟩
      have HSZ' : Sep w0 w3 O (own 35 3 AZ (m + 1) cZ (rrow (rs ++ [⟨3, 1, none, 0, []⟩])) :: dataA 5 (rs ++ [⟨3, 1, none, 0, []⟩]) :: L) := HSZ.sel 3 [0, 1]
      have hlen : (rs ++ [(⟨3, 1, none, 0, []⟩ : Rp)]).length = m + 1 := by rw [List.length_append, hrl.out]; rfl
      have HLL := hid hlen
      have htk : vs.take n = vs := List.take_of_length_le (by rw [HVN.out]; exact Nat.le_refl _)
      have HTK := hid htk
      clear hlen htk
      go_wp2
      rw [HQ.out]
      refine ⟨rs ++ [⟨3, 1, none, 0, []⟩], AZ, cZ, ?_, by rw [HLL.out]; rfl, by rw [HLL.out]; exact HSZ'⟩
      rw [List.map_append, hout.out, HTK.out]
      rfl

set_option maxHeartbeats 4000000 in
set_option maxRecDepth 100000 in
theorem answers_miss6 {wn : ByteArray} {Ai A : Option Addr} {ni ci n c : Nat} {vs : List Vol} (HS : Sep w0 w O L) (hr : Rb w0 O L 6 A n (vrow vs)) (hvn : vs.length = n) (hn : n ≤ 2513169434843) (hp : vPos vs wn = none) :
    Calls Try.prog 28 #[.agg #[.int .u32 6, .string wn, .slice Ai ni ci], .slice A n c] w (RpOut w0 O [(6, 2147483654, [])] L) := by
  have HSa := HS.alloc #[.int .u32 6, .string wn, .slice Ai ni ci] 66
  have o0 := HSa.blk_at 0 rfl
  have HP := hid hp
  obtain ⟨Q, hQ⟩ : ∃ Q : Ending → World → Prop, Q = RpOut w0 O [(6, 2147483654, [])] L := ⟨_, rfl⟩
  have HQ := hid hQ
  rw [← hQ]
  clear hQ
  clear hp
  go_enter Try.func28, Try.ntmps28
  go_wp2_with fail
  refine (indexf_calls HSa hr hvn (by omega)).mono ?_
  rintro e w2 ⟨r, rfl, hrr, HS2⟩
  clear o0
  have o0 := HS2.blk_at 0 rfl
  obtain rfl : r = -1 := by
    rcases hrr with ⟨_, h⟩ | ⟨k, h, _⟩
    · exact h
    · rw [HP.out] at h; cases h
  clear hrr
  have HE : Sep w0 w2 O (own 35 3 none 0 0 (rrow []) :: dataA 5 [] :: blk w.heap.size 66 #[.int .u32 6, .string wn, .slice Ai ni ci] :: L) := HS2.emp.nil 35 3
  have HGa : Sep w0 (w2.alloc (.cells #[.slice none 0 0] 23)) O (own 23 1 (some ⟨w2.heap.size, 0, none⟩) 1 1 [.slice none ([] : List Int).length 0] :: own 35 3 none 0 0 (rrow []) :: dataA 5 [] :: own 5 1 none ([] : List Int).length 0 (by8 []) :: blk w.heap.size 66 #[.int .u32 6, .string wn, .slice Ai ni ci] :: L) := ((HE.nil 5 1).lit #[.slice none 0 0] 23 1 1 rfl (by decide)).sel 5 [0, 2, 3, 1, 4]
  go_wp2_with fail
  refine (gather_calls (op := 6) (kd := 2147483654) HGa (by decide)).mono ?_
  rintro e w3 ⟨AZ, cZ, rfl, HSZ⟩
  go_wp2
  rw [HQ.out]
  exact ⟨[⟨6, 2147483654, none, 0, []⟩], AZ, cZ, rfl, rfl, HSZ.sel 3 [0, 1]⟩

set_option maxHeartbeats 4000000 in
set_option maxRecDepth 100000 in
theorem answers_hit6 {wn : ByteArray} {Ai A : Option Addr} {ni ci n c p : Nat} {vs : List Vol} {v : Vol} {inf : List Int} (HS : Sep w0 w O L) (hr : Rb w0 O L 6 A n (vrow vs)) (hvn : vs.length = n) (hn : n ≤ 2513169434843) (hp : vPos vs wn = some p) (hv : vs[p]? = some v) (hok : v.Ok)
    (hri : Rb w0 O L 1 Ai ni (kv .u16 inf)) (hni : ni ≤ 70368744177664) :
    Calls Try.prog 28 #[.agg #[.int .u32 6, .string wn, .slice Ai ni ci], .slice A n c] w (RpOut w0 O (expR 6 v.nm v.size v.fixed inf ++ [(6, 1, [])]) L) := by
  have HSa := HS.alloc #[.int .u32 6, .string wn, .slice Ai ni ci] 66
  have o0 := HSa.blk_at 0 rfl
  have HP := hid hp
  have HV := hid hv
  have hlt : p < n := by
    obtain ⟨h, _⟩ := List.getElem?_eq_some_iff.1 hv
    omega
  obtain ⟨_, ⟨z0, z1⟩, _, _, hnm⟩ := hok
  obtain ⟨Q, hQ⟩ : ∃ Q : Ending → World → Prop, Q = RpOut w0 O (expR 6 v.nm v.size v.fixed inf ++ [(6, 1, [])]) L := ⟨_, rfl⟩
  have HQ := hid hQ
  rw [← hQ]
  clear hQ
  clear hp hv
  go_enter Try.func28, Try.ntmps28
  go_wp2_with fail
  refine (indexf_calls HSa hr hvn (by omega)).mono ?_
  rintro e w2 ⟨r, rfl, hrr, HS2⟩
  clear o0
  obtain rfl : r = p := by
    rcases hrr with ⟨h, _⟩ | ⟨k, h, h'⟩
    · rw [HP.out] at h; cases h
    · rw [HP.out] at h; injection h with h; omega
  clear hrr
  obtain ⟨ad, v', rfl, hvk, x0, x1, x2, x3, x4, x5⟩ := hr.cons.volAt HS2 hlt
  obtain rfl : v = v' := by have := HV.out; rw [hvk] at this; injection this with this; exact this.symm
  clear x0 x1 x2 x3 x4 x5 hvk
  have i0 : ¬ (p : Int) < 0 := by omega
  have i1 : (p : Int) < n := by omega
  have i2 : (0 : Int) ≤ p := by omega
  have hall : ∀ {W : World} {L' : List Asr}, Sep w0 W O (blk w.heap.size 66 #[.int .u32 6, .string wn, .slice Ai ni ci] :: L') → Rb w0 O (blk w.heap.size 66 #[.int .u32 6, .string wn, .slice Ai ni ci] :: L') 6 (some ad) n (vrow vs) → (W.cell? ⟨w.heap.size, 0, none⟩ = some (.int .u32 6) ∧ W.cell? ⟨w.heap.size, 1, none⟩ = some (.string wn) ∧ W.cell? ⟨w.heap.size, 2, none⟩ = some (.slice Ai ni ci) ∧ W.cell? (ad.add (p * 6)) = some (.int .u64 v.id) ∧ W.cell? ⟨(ad.add (p * 6)).block, (ad.add (p * 6)).off + 1, none⟩ = some (.string v.nm) ∧ W.cell? ⟨(ad.add (p * 6)).block, (ad.add (p * 6)).off + 2, none⟩ = some (.int .u64 v.size) ∧ W.cell? ⟨(ad.add (p * 6)).block, (ad.add (p * 6)).off + 3, none⟩ = some (.int .u64 v.root) ∧ W.cell? ⟨(ad.add (p * 6)).block, (ad.add (p * 6)).off + 4, none⟩ = some (.bool v.fixed) ∧ W.cell? ⟨(ad.add (p * 6)).block, (ad.add (p * 6)).off + 5, none⟩ = some (.int .u64 v.orig)) := by
    intro W L' H R
    obtain ⟨ad', u, hA, hu, x0, x1, x2, x3, x4, x5⟩ := R.volAt H hlt
    injection hA with hA
    subst hA
    rw [HV.out] at hu
    injection hu with hu
    subst hu
    exact ⟨H.blk_at 0 rfl, H.blk_at 1 rfl, H.blk_at 2 rfl, x0, x1, x2, x3, x4, x5⟩
  have Z0 : Aside (w2.drew.cell? ⟨w.heap.size, 0, none⟩ = some (.int .u32 6) ∧ w2.drew.cell? ⟨w.heap.size, 1, none⟩ = some (.string wn) ∧ w2.drew.cell? ⟨w.heap.size, 2, none⟩ = some (.slice Ai ni ci) ∧ w2.drew.cell? (ad.add (p * 6)) = some (.int .u64 v.id) ∧ w2.drew.cell? ⟨(ad.add (p * 6)).block, (ad.add (p * 6)).off + 1, none⟩ = some (.string v.nm) ∧ w2.drew.cell? ⟨(ad.add (p * 6)).block, (ad.add (p * 6)).off + 2, none⟩ = some (.int .u64 v.size) ∧ w2.drew.cell? ⟨(ad.add (p * 6)).block, (ad.add (p * 6)).off + 3, none⟩ = some (.int .u64 v.root) ∧ w2.drew.cell? ⟨(ad.add (p * 6)).block, (ad.add (p * 6)).off + 4, none⟩ = some (.bool v.fixed) ∧ w2.drew.cell? ⟨(ad.add (p * 6)).block, (ad.add (p * 6)).off + 5, none⟩ = some (.int .u64 v.orig)) := ⟨hall HS2.drew hr.cons⟩
  have HALL := hid @hall
  clear hall
  go_upto_region 17 with (fail)
  go_region_held_law (fun w' => w'.cell? ⟨w.heap.size, 0, none⟩ = some (.int .u32 6) ∧ w'.cell? ⟨w.heap.size, 1, none⟩ = some (.string wn) ∧ w'.cell? ⟨w.heap.size, 2, none⟩ = some (.slice Ai ni ci) ∧ w'.cell? (ad.add (p * 6)) = some (.int .u64 v.id) ∧ w'.cell? ⟨(ad.add (p * 6)).block, (ad.add (p * 6)).off + 1, none⟩ = some (.string v.nm) ∧ w'.cell? ⟨(ad.add (p * 6)).block, (ad.add (p * 6)).off + 2, none⟩ = some (.int .u64 v.size) ∧ w'.cell? ⟨(ad.add (p * 6)).block, (ad.add (p * 6)).off + 3, none⟩ = some (.int .u64 v.root) ∧ w'.cell? ⟨(ad.add (p * 6)).block, (ad.add (p * 6)).off + 4, none⟩ = some (.bool v.fixed) ∧ w'.cell? ⟨(ad.add (p * 6)).block, (ad.add (p * 6)).off + 5, none⟩ = some (.int .u64 v.orig)) (first | with_reducible exact Z1.out | with_reducible exact Z0.out)
    (first
      | (go_at_call 71; refine (exports_calls HS2.drew hri.cons hni z0 z1 hnm).mono ?_; rintro e w3 ⟨rs, A3, c3, hout, rfl, HS3⟩; have Z1 : Aside (w3.cell? ⟨w.heap.size, 0, none⟩ = some (.int .u32 6) ∧ w3.cell? ⟨w.heap.size, 1, none⟩ = some (.string wn) ∧ w3.cell? ⟨w.heap.size, 2, none⟩ = some (.slice Ai ni ci) ∧ w3.cell? (ad.add (p * 6)) = some (.int .u64 v.id) ∧ w3.cell? ⟨(ad.add (p * 6)).block, (ad.add (p * 6)).off + 1, none⟩ = some (.string v.nm) ∧ w3.cell? ⟨(ad.add (p * 6)).block, (ad.add (p * 6)).off + 2, none⟩ = some (.int .u64 v.size) ∧ w3.cell? ⟨(ad.add (p * 6)).block, (ad.add (p * 6)).off + 3, none⟩ = some (.int .u64 v.root) ∧ w3.cell? ⟨(ad.add (p * 6)).block, (ad.add (p * 6)).off + 4, none⟩ = some (.bool v.fixed) ∧ w3.cell? ⟨(ad.add (p * 6)).block, (ad.add (p * 6)).off + 5, none⟩ = some (.int .u64 v.orig)) := ⟨HALL.out HS3.up2 (hr.sub fun P hP => by simp [hP])⟩))
  all_goals
    clear Z0 Z1
    have o0 := HS3.up2.blk_at 0 rfl
    have HOUT := hid hout
    clear hout
    obtain ⟨m, hm⟩ : ∃ m, m = rs.length := ⟨_, rfl⟩
    have hm9 : m ≤ 3 := by
      have h := congrArg List.length HOUT.out
      rw [List.length_map] at h
      rw [hm, h]
      unfold expR
      by_cases ha : v.nm.size ≤ 16 ∧ 1 ∈ inf <;> by_cases hb : 3 ∈ inf <;> simp [ha, hb]
    rw [← hm] at HS3 ⊢
    have HM := hid hm
    clear hm
    have HGa : Sep w0 (w3.alloc (.cells #[.slice none 0 0] 23)) O (own 23 1 (some ⟨w3.heap.size, 0, none⟩) 1 1 [.slice none ([] : List Int).length 0] :: own 35 3 A3 m c3 (rrow rs) :: dataA 5 rs :: own 5 1 none ([] : List Int).length 0 (by8 []) :: blk w.heap.size 66 #[.int .u32 6, .string wn, .slice Ai ni ci] :: L) := ((HS3.nil 5 1).lit #[.slice none 0 0] 23 1 1 rfl (by decide)).sel 5 [0, 2, 3, 1, 4]
    go_wp2_with fail
    refine (gather_calls (op := 6) (kd := 1) HGa (by omega)).mono ?_
    rintro e w5 ⟨AZ, cZ, rfl, HSZ⟩
    have HSZ' : Sep w0 w5 O (own 35 3 AZ (m + 1) cZ (rrow (rs ++ [⟨6, 1, none, 0, []⟩])) :: dataA 5 (rs ++ [⟨6, 1, none, 0, []⟩]) :: L) := HSZ.sel 3 [0, 1]
    have hlen : (rs ++ [(⟨6, 1, none, 0, []⟩ : Rp)]).length = m + 1 := by rw [List.length_append, HM.out]; rfl
    have HLL := hid hlen
    clear hlen
    go_wp2
    rw [HQ.out]
    refine ⟨rs ++ [⟨6, 1, none, 0, []⟩], AZ, cZ, ?_, by rw [HLL.out]; rfl, by rw [HLL.out]; exact HSZ'⟩
    rw [List.map_append, HOUT.out]
    rfl

set_option maxHeartbeats 4000000 in
set_option maxRecDepth 100000 in
theorem answers_miss7 {wn : ByteArray} {Ai A : Option Addr} {ni ci n c : Nat} {vs : List Vol} (HS : Sep w0 w O L) (hr : Rb w0 O L 6 A n (vrow vs)) (hvn : vs.length = n) (hn : n ≤ 2513169434843) (hp : vPos vs wn = none) :
    Calls Try.prog 28 #[.agg #[.int .u32 7, .string wn, .slice Ai ni ci], .slice A n c] w (RpOut w0 O [(7, 2147483654, [])] L) := by
  have HSa := HS.alloc #[.int .u32 7, .string wn, .slice Ai ni ci] 66
  have o0 := HSa.blk_at 0 rfl
  have HP := hid hp
  obtain ⟨Q, hQ⟩ : ∃ Q : Ending → World → Prop, Q = RpOut w0 O [(7, 2147483654, [])] L := ⟨_, rfl⟩
  have HQ := hid hQ
  rw [← hQ]
  clear hQ
  clear hp
  go_enter Try.func28, Try.ntmps28
  go_wp2_with fail
  refine (indexf_calls HSa hr hvn (by omega)).mono ?_
  rintro e w2 ⟨r, rfl, hrr, HS2⟩
  clear o0
  have o0 := HS2.blk_at 0 rfl
  obtain rfl : r = -1 := by
    rcases hrr with ⟨_, h⟩ | ⟨k, h, _⟩
    · exact h
    · rw [HP.out] at h; cases h
  clear hrr
  have HE : Sep w0 w2 O (own 35 3 none 0 0 (rrow []) :: dataA 5 [] :: blk w.heap.size 66 #[.int .u32 7, .string wn, .slice Ai ni ci] :: L) := HS2.emp.nil 35 3
  have HGa : Sep w0 (w2.alloc (.cells #[.slice none 0 0] 23)) O (own 23 1 (some ⟨w2.heap.size, 0, none⟩) 1 1 [.slice none ([] : List Int).length 0] :: own 35 3 none 0 0 (rrow []) :: dataA 5 [] :: own 5 1 none ([] : List Int).length 0 (by8 []) :: blk w.heap.size 66 #[.int .u32 7, .string wn, .slice Ai ni ci] :: L) := ((HE.nil 5 1).lit #[.slice none 0 0] 23 1 1 rfl (by decide)).sel 5 [0, 2, 3, 1, 4]
  go_wp2_with fail
  refine (gather_calls (op := 7) (kd := 2147483654) HGa (by decide)).mono ?_
  rintro e w3 ⟨AZ, cZ, rfl, HSZ⟩
  go_wp2
  rw [HQ.out]
  exact ⟨[⟨7, 2147483654, none, 0, []⟩], AZ, cZ, rfl, rfl, HSZ.sel 3 [0, 1]⟩

set_option maxHeartbeats 4000000 in
set_option maxRecDepth 100000 in
theorem answers_hit7 {wn : ByteArray} {Ai A : Option Addr} {ni ci n c p : Nat} {vs : List Vol} {v : Vol} {inf : List Int} (HS : Sep w0 w O L) (hr : Rb w0 O L 6 A n (vrow vs)) (hvn : vs.length = n) (hn : n ≤ 2513169434843) (hp : vPos vs wn = some p) (hv : vs[p]? = some v) (hok : v.Ok)
    (hri : Rb w0 O L 1 Ai ni (kv .u16 inf)) (hni : ni ≤ 70368744177664) :
    Calls Try.prog 28 #[.agg #[.int .u32 7, .string wn, .slice Ai ni ci], .slice A n c] w (RpOut w0 O (expR 7 v.nm v.size v.fixed inf ++ [(7, 1, [])]) L) := by
  have HSa := HS.alloc #[.int .u32 7, .string wn, .slice Ai ni ci] 66
  have o0 := HSa.blk_at 0 rfl
  have HP := hid hp
  have HV := hid hv
  have hlt : p < n := by
    obtain ⟨h, _⟩ := List.getElem?_eq_some_iff.1 hv
    omega
  obtain ⟨_, ⟨z0, z1⟩, _, _, hnm⟩ := hok
  obtain ⟨Q, hQ⟩ : ∃ Q : Ending → World → Prop, Q = RpOut w0 O (expR 7 v.nm v.size v.fixed inf ++ [(7, 1, [])]) L := ⟨_, rfl⟩
  have HQ := hid hQ
  rw [← hQ]
  clear hQ
  clear hp hv
  go_enter Try.func28, Try.ntmps28
  go_wp2_with fail
  refine (indexf_calls HSa hr hvn (by omega)).mono ?_
  rintro e w2 ⟨r, rfl, hrr, HS2⟩
  clear o0
  obtain rfl : r = p := by
    rcases hrr with ⟨h, _⟩ | ⟨k, h, h'⟩
    · rw [HP.out] at h; cases h
    · rw [HP.out] at h; injection h with h; omega
  clear hrr
  obtain ⟨ad, v', rfl, hvk, x0, x1, x2, x3, x4, x5⟩ := hr.cons.volAt HS2 hlt
  obtain rfl : v = v' := by have := HV.out; rw [hvk] at this; injection this with this; exact this.symm
  clear x0 x1 x2 x3 x4 x5 hvk
  have i0 : ¬ (p : Int) < 0 := by omega
  have i1 : (p : Int) < n := by omega
  have i2 : (0 : Int) ≤ p := by omega
  have hall : ∀ {W : World} {L' : List Asr}, Sep w0 W O (blk w.heap.size 66 #[.int .u32 7, .string wn, .slice Ai ni ci] :: L') → Rb w0 O (blk w.heap.size 66 #[.int .u32 7, .string wn, .slice Ai ni ci] :: L') 6 (some ad) n (vrow vs) → (W.cell? ⟨w.heap.size, 0, none⟩ = some (.int .u32 7) ∧ W.cell? ⟨w.heap.size, 1, none⟩ = some (.string wn) ∧ W.cell? ⟨w.heap.size, 2, none⟩ = some (.slice Ai ni ci) ∧ W.cell? (ad.add (p * 6)) = some (.int .u64 v.id) ∧ W.cell? ⟨(ad.add (p * 6)).block, (ad.add (p * 6)).off + 1, none⟩ = some (.string v.nm) ∧ W.cell? ⟨(ad.add (p * 6)).block, (ad.add (p * 6)).off + 2, none⟩ = some (.int .u64 v.size) ∧ W.cell? ⟨(ad.add (p * 6)).block, (ad.add (p * 6)).off + 3, none⟩ = some (.int .u64 v.root) ∧ W.cell? ⟨(ad.add (p * 6)).block, (ad.add (p * 6)).off + 4, none⟩ = some (.bool v.fixed) ∧ W.cell? ⟨(ad.add (p * 6)).block, (ad.add (p * 6)).off + 5, none⟩ = some (.int .u64 v.orig)) := by
    intro W L' H R
    obtain ⟨ad', u, hA, hu, x0, x1, x2, x3, x4, x5⟩ := R.volAt H hlt
    injection hA with hA
    subst hA
    rw [HV.out] at hu
    injection hu with hu
    subst hu
    exact ⟨H.blk_at 0 rfl, H.blk_at 1 rfl, H.blk_at 2 rfl, x0, x1, x2, x3, x4, x5⟩
  have Z0 : Aside (w2.drew.cell? ⟨w.heap.size, 0, none⟩ = some (.int .u32 7) ∧ w2.drew.cell? ⟨w.heap.size, 1, none⟩ = some (.string wn) ∧ w2.drew.cell? ⟨w.heap.size, 2, none⟩ = some (.slice Ai ni ci) ∧ w2.drew.cell? (ad.add (p * 6)) = some (.int .u64 v.id) ∧ w2.drew.cell? ⟨(ad.add (p * 6)).block, (ad.add (p * 6)).off + 1, none⟩ = some (.string v.nm) ∧ w2.drew.cell? ⟨(ad.add (p * 6)).block, (ad.add (p * 6)).off + 2, none⟩ = some (.int .u64 v.size) ∧ w2.drew.cell? ⟨(ad.add (p * 6)).block, (ad.add (p * 6)).off + 3, none⟩ = some (.int .u64 v.root) ∧ w2.drew.cell? ⟨(ad.add (p * 6)).block, (ad.add (p * 6)).off + 4, none⟩ = some (.bool v.fixed) ∧ w2.drew.cell? ⟨(ad.add (p * 6)).block, (ad.add (p * 6)).off + 5, none⟩ = some (.int .u64 v.orig)) := ⟨hall HS2.drew hr.cons⟩
  have HALL := hid @hall
  clear hall
  go_upto_region 17 with (fail)
  go_region_held_law (fun w' => w'.cell? ⟨w.heap.size, 0, none⟩ = some (.int .u32 7) ∧ w'.cell? ⟨w.heap.size, 1, none⟩ = some (.string wn) ∧ w'.cell? ⟨w.heap.size, 2, none⟩ = some (.slice Ai ni ci) ∧ w'.cell? (ad.add (p * 6)) = some (.int .u64 v.id) ∧ w'.cell? ⟨(ad.add (p * 6)).block, (ad.add (p * 6)).off + 1, none⟩ = some (.string v.nm) ∧ w'.cell? ⟨(ad.add (p * 6)).block, (ad.add (p * 6)).off + 2, none⟩ = some (.int .u64 v.size) ∧ w'.cell? ⟨(ad.add (p * 6)).block, (ad.add (p * 6)).off + 3, none⟩ = some (.int .u64 v.root) ∧ w'.cell? ⟨(ad.add (p * 6)).block, (ad.add (p * 6)).off + 4, none⟩ = some (.bool v.fixed) ∧ w'.cell? ⟨(ad.add (p * 6)).block, (ad.add (p * 6)).off + 5, none⟩ = some (.int .u64 v.orig)) (first | with_reducible exact Z1.out | with_reducible exact Z0.out)
    (first
      | (go_at_call 71; refine (exports_calls HS2.drew hri.cons hni z0 z1 hnm).mono ?_; rintro e w3 ⟨rs, A3, c3, hout, rfl, HS3⟩; have Z1 : Aside (w3.cell? ⟨w.heap.size, 0, none⟩ = some (.int .u32 7) ∧ w3.cell? ⟨w.heap.size, 1, none⟩ = some (.string wn) ∧ w3.cell? ⟨w.heap.size, 2, none⟩ = some (.slice Ai ni ci) ∧ w3.cell? (ad.add (p * 6)) = some (.int .u64 v.id) ∧ w3.cell? ⟨(ad.add (p * 6)).block, (ad.add (p * 6)).off + 1, none⟩ = some (.string v.nm) ∧ w3.cell? ⟨(ad.add (p * 6)).block, (ad.add (p * 6)).off + 2, none⟩ = some (.int .u64 v.size) ∧ w3.cell? ⟨(ad.add (p * 6)).block, (ad.add (p * 6)).off + 3, none⟩ = some (.int .u64 v.root) ∧ w3.cell? ⟨(ad.add (p * 6)).block, (ad.add (p * 6)).off + 4, none⟩ = some (.bool v.fixed) ∧ w3.cell? ⟨(ad.add (p * 6)).block, (ad.add (p * 6)).off + 5, none⟩ = some (.int .u64 v.orig)) := ⟨HALL.out HS3.up2 (hr.sub fun P hP => by simp [hP])⟩))
  all_goals
    clear Z0 Z1
    have o0 := HS3.up2.blk_at 0 rfl
    have HOUT := hid hout
    clear hout
    obtain ⟨m, hm⟩ : ∃ m, m = rs.length := ⟨_, rfl⟩
    have hm9 : m ≤ 3 := by
      have h := congrArg List.length HOUT.out
      rw [List.length_map] at h
      rw [hm, h]
      unfold expR
      by_cases ha : v.nm.size ≤ 16 ∧ 1 ∈ inf <;> by_cases hb : 3 ∈ inf <;> simp [ha, hb]
    rw [← hm] at HS3 ⊢
    have HM := hid hm
    clear hm
    have HGa : Sep w0 (w3.alloc (.cells #[.slice none 0 0] 23)) O (own 23 1 (some ⟨w3.heap.size, 0, none⟩) 1 1 [.slice none ([] : List Int).length 0] :: own 35 3 A3 m c3 (rrow rs) :: dataA 5 rs :: own 5 1 none ([] : List Int).length 0 (by8 []) :: blk w.heap.size 66 #[.int .u32 7, .string wn, .slice Ai ni ci] :: L) := ((HS3.nil 5 1).lit #[.slice none 0 0] 23 1 1 rfl (by decide)).sel 5 [0, 2, 3, 1, 4]
    go_wp2_with fail
    refine (gather_calls (op := 7) (kd := 1) HGa (by omega)).mono ?_
    rintro e w5 ⟨AZ, cZ, rfl, HSZ⟩
    have HSZ' : Sep w0 w5 O (own 35 3 AZ (m + 1) cZ (rrow (rs ++ [⟨7, 1, none, 0, []⟩])) :: dataA 5 (rs ++ [⟨7, 1, none, 0, []⟩]) :: L) := HSZ.sel 3 [0, 1]
    have hlen : (rs ++ [(⟨7, 1, none, 0, []⟩ : Rp)]).length = m + 1 := by rw [List.length_append, HM.out]; rfl
    have HLL := hid hlen
    clear hlen
    go_wp2
    rw [HQ.out]
    refine ⟨rs ++ [⟨7, 1, none, 0, []⟩], AZ, cZ, ?_, by rw [HLL.out]; rfl, by rw [HLL.out]; exact HSZ'⟩
    rw [List.map_append, HOUT.out]
    rfl
end
end Go.Proofs.Ytgepekailoopeaa
