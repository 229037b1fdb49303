/-
  Contract of cisternref24.Take: a command that is whole.
-/
import Derived.Test.YtankfmfenbhkgaaRef24Take
import Derived.Deep.QuietTactic
import Derived.BigQuiet
namespace Go.Proofs.Ytankfmfenbhkgaa
open Go.RowKit
set_option linter.unusedVariables false
set_option linter.unusedSimpArgs false
section
variable {w0 w : World} {O : Nat → Prop} {L : List Asr}

def subOk (o k m : Nat) : Bool := decide (0 < o ∧ 0 < k ∧ k ≤ 8 ∧ o + k ≤ m)
theorem rnum_sub {ad : Addr} {n c o k m : Nat} {l : List Int} (HS : Sep w0 w O L) (hr : Rb w0 O L 1 (some ad) n (by8 l)) (hb : Byt l) (hm : m ≤ n) (h : subOk o k m = true) :
    Calls Try.prog 35 #[.slice (some ⟨ad.block, ad.off + o, none⟩) k c] w fun e w' => e = .returned (.int .u64 (fN l o k)) ∧ w = w' := by
  obtain ⟨h1, h2, h3, h4⟩ := of_decide_eq_true h
  have q := hr.ksub o (o + k) (by omega) (by omega)
  rw [Nat.add_sub_cancel_left] at q
  have e : ad.add o = ⟨ad.block, ad.off + o, none⟩ := by unfold Addr.add; rw [if_neg (by omega)]
  rw [e] at q
  exact rnum_calls HS q ((hb.drop o).take k) h3

set_option maxHeartbeats 4000000 in
set_option maxRecDepth 100000 in
theorem ref24take_ok {ad : Addr} {n c p q : Nat} {l : List Int} {nm au : ByteArray} {B : Bool} (hnm : nm = strOfNums ((l.drop 24).take p)) (hau : au = strOfNums ((l.drop (24 + p)).take q)) (HS : Sep w0 w O L) (hr : Rb w0 O L 1 (some ad) n (by8 l)) (hb : Byt l) (hc : n ≤ c) (hl : n ≤ 140737488355328)
    (hm : num (l.take 4) = 1128878932) (hp : fN l 22 1 = p) (hq : fN l 23 1 = q) (hB' : (fN l 5 1 == 1) = B) (hx : ¬ 1 < fN l 5 1) (hp16 : p ≤ 16) (hq16 : q ≤ 16) (hlen : 24 + p + q ≤ n) :
    Calls Try.prog 13 #[.slice (some ad) n c] w fun e w' => e = .returned (.tuple #[admV (fN l 4 1) (fN l 6 8) nm au (fN l 14 8) B, .int .i64 (24 + (p : Int) + q), .int .i64 0]) ∧ Sep w0 w' O L := by
  have hn := hr.klen HS
  have HSa := (HS.alloc zAdm 24).allocB zAdm 24 (B := w.heap.size + 1) (by simp)
  have i1 : (4 : Int) ≤ n := by omega
  have i1' : ¬ (n : Int) < 4 := by omega
  have i2 : (n : Int) ≤ c := by omega
  have i3 : (0 : Int) ≤ 4 := by decide
  have i4 : (4 : Int) ≤ c := by omega
  have hs := run_str (P := Try.prog) (c := c) ((hr.ktake (m := 4) (by omega)).cons.cons.read HSa) 25 9 5 Try.underlying25 Try.underlying5 Try.underlying9
  have hs4 : l.take 4 = [67, 73, 83, 84] := num4_inj (hb.take 4) (by rw [List.length_take]; omega) rfl (by decide) (hm.trans (by decide))
  rw [hs4, show strOfNums [67, 73, 83, 84] = ByteArray.mk #[67, 73, 83, 84] from by decide] at hs
  have j1 : ¬ (n : Int) < 24 := by omega
  have k4 := Rb.byteAt hr.cons.cons HSa (o := 4) (by omega) (by decide)
  have k5 := Rb.byteAt hr.cons.cons HSa (o := 5) (by omega) (by decide)
  have k22 := Rb.byteAt hr.cons.cons HSa (o := 22) (by omega) (by decide)
  have k23 := Rb.byteAt hr.cons.cons HSa (o := 23) (by omega) (by decide)
  have b4 := fN_bd hb 4 1
  simp only [show (256 : Int) ^ 1 = 256 from rfl] at b4
  rw [hp] at k22
  rw [hq] at k23
  obtain ⟨x1, hx'⟩ : ∃ x1, fN l 5 1 = x1 := ⟨_, rfl⟩
  rw [hx'] at k5 hx hB'
  have h24 : 24 ≤ n := by omega
  have hrr := hr.cons (P := blk w.heap.size 24 zAdm) |>.cons (P := blk (w.heap.size + 1) 24 zAdm)
  clear hm hs4 hp hq
  have m0 : IntKind.i64.wrap (fN l 4 1) = fN l 4 1 := by rw [IntKind.wrap_i64]; omega
  have m1 : IntKind.i64.wrap (p : Int) = p := by rw [IntKind.wrap_i64]; omega
  have m2 : IntKind.i64.wrap (q : Int) = q := by rw [IntKind.wrap_i64]; omega
  have m4 : IntKind.i64.wrap (24 + (p : Int) + q) = 24 + p + q := by rw [IntKind.wrap_i64]; omega
  have m5 : IntKind.i64.wrap (24 + (p : Int)) = 24 + p := by rw [IntKind.wrap_i64]; omega
  have m6 : ¬ (n : Int) < 24 + p + q := by omega
  have o4 : (4 : Int) < n := by omega
  have o5 : (5 : Int) < n := by omega
  have o22 : (22 : Int) < n := by omega
  have o23 : (23 : Int) < n := by omega
  have n1 : ¬ 16 < (p : Int) := by omega
  have n2 : ¬ 16 < (q : Int) := by omega
  have r1 : (6 : Int) ≤ 14 := by decide
  have r2 : (14 : Int) ≤ c := by omega
  have r3 : (22 : Int) ≤ c := by omega
  have r4 : (24 : Int) ≤ 24 + p := by omega
  have r5 : (24 : Int) + p ≤ c := by omega
  have r6 : (24 : Int) + p ≤ 24 + p + q := by omega
  have r7 : (24 : Int) + p + q ≤ c := by omega
  have c6 : ¬ c = 6 := by omega
  have c14 : ¬ c = 14 := by omega
  have t1 : ((24 : Int) + p).toNat = 24 + p := by omega
  have t2 : ((24 : Int) + p + q).toNat = 24 + p + q := by omega
  have t3 : 24 + p - 24 = p := by omega
  have t4 : 24 + p + q - (24 + p) = q := by omega
  obtain ⟨DA, hDA⟩ : ∃ DA : Option Addr, (if c = 24 then some ad else some ⟨ad.block, ad.off + 24, none⟩) = DA := ⟨_, rfl⟩
  obtain ⟨DB, hDB⟩ : ∃ DB : Option Addr, (if c = 24 + p then some ad else some (ad.add (24 + p))) = DB := ⟨_, rfl⟩
  have strs : ∀ {W' : World} {L' : List Asr}, Sep w0 W' O L' → Rb w0 O L' 1 (some ad) n (by8 l) → ((∀ j, (j = 4 ∨ j = 5) → W'.cell? ⟨ad.block, ad.off + j, none⟩ = some (.int .u8 (if j = 4 then fN l 4 1 else x1))) ∧ (∀ c', (convert 25 9 (.slice DA p c')).run Try.prog W' = .ok (.string nm) W') ∧ (∀ c', (convert 25 9 (.slice DB q c')).run Try.prog W' = .ok (.string au) W')) := by
    intro W' L' H R
    have h4 := Rb.byteAt R H (o := 4) (by omega) (by decide)
    have h5 := Rb.byteAt R H (o := 5) (by omega) (by decide)
    rw [hx'] at h5
    have hq1 := R.kcut (j := 24) (m := 24 + p) (cap := c) (by omega) (by omega) hc
    have hq2 := R.kcut (j := 24 + p) (m := 24 + p + q) (cap := c) (by omega) (by omega) hc
    have e : ad.add 24 = ⟨ad.block, ad.off + 24, none⟩ := by unfold Addr.add; rw [if_neg (by omega)]
    rw [Nat.add_sub_cancel_left, Option.map_some, e, hDA] at hq1
    rw [Nat.add_sub_cancel_left, Option.map_some, hDB] at hq2
    refine ⟨by rintro j (rfl | rfl); exact h4; exact h5, fun c' => ?_, fun c' => ?_⟩
    · rw [hnm]; exact run_str (hq1.read H) _ _ _ Try.underlying25 Try.underlying5 Try.underlying9
    · rw [hau]; exact run_str (hq2.read H) _ _ _ Try.underlying25 Try.underlying5 Try.underlying9
  have HSN : ∀ nq, Sep w0 ((((w.alloc (.cells zAdm 24)).alloc (.cells zAdm 24)).drewN nq).drew) O (blk (w.heap.size + 1) 24 zAdm :: blk w.heap.size 24 zAdm :: L) := fun nq => (HSa.drewN nq).drew
  have HSNb : ∀ nq, Sep w0 ((((w.alloc (.cells zAdm 24)).alloc (.cells zAdm 24)).drewN (nq + 1))) O (blk (w.heap.size + 1) 24 zAdm :: blk w.heap.size 24 zAdm :: L) := fun nq => (HSa.drewN (nq + 1))
  have HRNb : ∀ nq, Sep w0 (((((((((w.alloc (.cells zAdm 24)).alloc (.cells zAdm 24)).drewN (nq + 1)).setCell ⟨w.heap.size, 0, none⟩ (.int .i64 (fN l 4 1))).setCell ⟨w.heap.size, 1, none⟩ (.int .u64 (fN l 6 8))).setCell ⟨w.heap.size, 2, none⟩ (.string nm)).setCell ⟨w.heap.size, 3, none⟩ (.string au)).setCell ⟨w.heap.size, 4, none⟩ (.int .u64 (fN l 14 8))).setCell ⟨w.heap.size, 5, none⟩ (.bool B)) O (blk w.heap.size 24 #[.int .i64 (fN l 4 1), .int .u64 (fN l 6 8), .string nm, .string au, .int .u64 (fN l 14 8), .bool B] :: blk (w.heap.size + 1) 24 zAdm :: L) := fun nq => (HSa.drewN (nq + 1)).up1.blk_set6 (.int .i64 (fN l 4 1)) (.int .u64 (fN l 6 8)) (.string nm) (.string au) (.int .u64 (fN l 14 8)) (.bool B)
  have KE : Aside (∀ nq, (∀ j, (j = 4 ∨ j = 5) → (((w.alloc (.cells zAdm 24)).alloc (.cells zAdm 24)).drewN nq).drew.cell? ⟨ad.block, ad.off + j, none⟩ = some (.int .u8 (if j = 4 then fN l 4 1 else x1))) ∧ (∀ c', (convert 25 9 (.slice DA p c')).run Try.prog (((w.alloc (.cells zAdm 24)).alloc (.cells zAdm 24)).drewN nq).drew = .ok (.string nm) (((w.alloc (.cells zAdm 24)).alloc (.cells zAdm 24)).drewN nq).drew) ∧ (∀ c', (convert 25 9 (.slice DB q c')).run Try.prog (((w.alloc (.cells zAdm 24)).alloc (.cells zAdm 24)).drewN nq).drew = .ok (.string au) (((w.alloc (.cells zAdm 24)).alloc (.cells zAdm 24)).drewN nq).drew)) := ⟨fun nq => strs (HSN nq) hrr⟩
  have KEb : Aside (∀ nq, (∀ j, (j = 4 ∨ j = 5) → (((w.alloc (.cells zAdm 24)).alloc (.cells zAdm 24)).drewN (nq + 1)).cell? ⟨ad.block, ad.off + j, none⟩ = some (.int .u8 (if j = 4 then fN l 4 1 else x1))) ∧ (∀ c', (convert 25 9 (.slice DA p c')).run Try.prog (((w.alloc (.cells zAdm 24)).alloc (.cells zAdm 24)).drewN (nq + 1)) = .ok (.string nm) (((w.alloc (.cells zAdm 24)).alloc (.cells zAdm 24)).drewN (nq + 1))) ∧ (∀ c', (convert 25 9 (.slice DB q c')).run Try.prog (((w.alloc (.cells zAdm 24)).alloc (.cells zAdm 24)).drewN (nq + 1)) = .ok (.string au) (((w.alloc (.cells zAdm 24)).alloc (.cells zAdm 24)).drewN (nq + 1)))) := ⟨fun nq => strs (HSNb nq) hrr⟩
  have KRb : Aside (∀ nq, (∀ j, (j = 4 ∨ j = 5) → (((((((((w.alloc (.cells zAdm 24)).alloc (.cells zAdm 24)).drewN (nq + 1)).setCell ⟨w.heap.size, 0, none⟩ (.int .i64 (fN l 4 1))).setCell ⟨w.heap.size, 1, none⟩ (.int .u64 (fN l 6 8))).setCell ⟨w.heap.size, 2, none⟩ (.string nm)).setCell ⟨w.heap.size, 3, none⟩ (.string au)).setCell ⟨w.heap.size, 4, none⟩ (.int .u64 (fN l 14 8))).setCell ⟨w.heap.size, 5, none⟩ (.bool B)).cell? ⟨ad.block, ad.off + j, none⟩ = some (.int .u8 (if j = 4 then fN l 4 1 else x1))) ∧ (∀ c', (convert 25 9 (.slice DA p c')).run Try.prog (((((((((w.alloc (.cells zAdm 24)).alloc (.cells zAdm 24)).drewN (nq + 1)).setCell ⟨w.heap.size, 0, none⟩ (.int .i64 (fN l 4 1))).setCell ⟨w.heap.size, 1, none⟩ (.int .u64 (fN l 6 8))).setCell ⟨w.heap.size, 2, none⟩ (.string nm)).setCell ⟨w.heap.size, 3, none⟩ (.string au)).setCell ⟨w.heap.size, 4, none⟩ (.int .u64 (fN l 14 8))).setCell ⟨w.heap.size, 5, none⟩ (.bool B)) = .ok (.string nm) (((((((((w.alloc (.cells zAdm 24)).alloc (.cells zAdm 24)).drewN (nq + 1)).setCell ⟨w.heap.size, 0, none⟩ (.int .i64 (fN l 4 1))).setCell ⟨w.heap.size, 1, none⟩ (.int .u64 (fN l 6 8))).setCell ⟨w.heap.size, 2, none⟩ (.string nm)).setCell ⟨w.heap.size, 3, none⟩ (.string au)).setCell ⟨w.heap.size, 4, none⟩ (.int .u64 (fN l 14 8))).setCell ⟨w.heap.size, 5, none⟩ (.bool B))) ∧ (∀ c', (convert 25 9 (.slice DB q c')).run Try.prog (((((((((w.alloc (.cells zAdm 24)).alloc (.cells zAdm 24)).drewN (nq + 1)).setCell ⟨w.heap.size, 0, none⟩ (.int .i64 (fN l 4 1))).setCell ⟨w.heap.size, 1, none⟩ (.int .u64 (fN l 6 8))).setCell ⟨w.heap.size, 2, none⟩ (.string nm)).setCell ⟨w.heap.size, 3, none⟩ (.string au)).setCell ⟨w.heap.size, 4, none⟩ (.int .u64 (fN l 14 8))).setCell ⟨w.heap.size, 5, none⟩ (.bool B)) = .ok (.string au) (((((((((w.alloc (.cells zAdm 24)).alloc (.cells zAdm 24)).drewN (nq + 1)).setCell ⟨w.heap.size, 0, none⟩ (.int .i64 (fN l 4 1))).setCell ⟨w.heap.size, 1, none⟩ (.int .u64 (fN l 6 8))).setCell ⟨w.heap.size, 2, none⟩ (.string nm)).setCell ⟨w.heap.size, 3, none⟩ (.string au)).setCell ⟨w.heap.size, 4, none⟩ (.int .u64 (fN l 14 8))).setCell ⟨w.heap.size, 5, none⟩ (.bool B)))) := ⟨fun nq => strs (HRNb nq) hr.cons.cons⟩
  have HSN' := hid HSN
  have HSNb' := hid HSNb
  have HRNb' := hid HRNb
  clear strs hx' HS HSa hnm hau HSN HSNb HRNb
  go_enter Try.func13, Try.ntmps13
  go_wp2_with fail
  go_quiet (fail)
  clear k22 k23 hs
  go_upto_region 13 with (fail)
  have HSdd := HSN'.out nq
  have HSdb := HSNb'.out nq
  go_region_held_law (fun w' => (∀ j, (j = 4 ∨ j = 5) → w'.cell? ⟨ad.block, ad.off + j, none⟩ = some (.int .u8 (if j = 4 then fN l 4 1 else x1))) ∧ (∀ c', (convert 25 9 (.slice DA p c')).run Try.prog w' = .ok (.string nm) w') ∧ (∀ c', (convert 25 9 (.slice DB q c')).run Try.prog w' = .ok (.string au) w'))
    (first | with_reducible exact KEb.out nq | with_reducible exact KE.out nq | with_reducible exact KRb.out nq)
    (first
      | (go_at_call 35; refine (rnum_sub HSdb hrr hb h24 (by rfl)).mono ?_; rintro e w1 ⟨rfl, rfl⟩)
      | (go_at_call 35; refine (rnum_sub HSdd hrr hb h24 (by rfl)).mono ?_; rintro e w1 ⟨rfl, rfl⟩))
  all_goals
    have HRD := HRNb'.out nq
    clear KE KEb KRb
    go_wp2
    (try simp only [Exit.inBlock, Exit.then])
    refine bodyPost_ret (results_row2 rfl _ _ _ _ _ _ _ rfl HRD.blk_heap Try.underlying24 rfl info_adm) rfl ?_
    exact ⟨rfl, HRD.drop.drop⟩
end
end Go.Proofs.Ytankfmfenbhkgaa
