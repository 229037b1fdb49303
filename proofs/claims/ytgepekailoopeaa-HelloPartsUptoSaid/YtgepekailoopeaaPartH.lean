/-
  Contract of Talk.hears.
-/
import Derived.Test.YtgepekailoopeaaPartC2
import Derived.Deep.QuietTactic
import Derived.BigQuiet
namespace Go.Proofs.Ytgepekailoopeaa
open Go.RowKit
set_option linter.unusedVariables false
set_option linter.unusedSimpArgs false
/-- where so many things of a client end -/
def Pc (os : List Ho) (n : Nat) : Nat := if n = 0 then 0 else 4 + (Hos (os.take (n - 1))).length
/-- what a tape holds that came as far as a, when so many things are gone -/
def Tc (fl : Int) (os : List Ho) (bh : List Int) (a n : Nat) : List Int := ((cliL fl os ++ bh).take a).drop (Pc os n)
theorem Pc_succ {os : List Ho} {k : Nat} {r : Ho} (h : os[k]? = some r) : Pc os (k + 2) = Pc os (k + 1) + r.bytes.length := by
  unfold Pc
  rw [if_neg (by omega), if_neg (by omega), show k + 2 - 1 = k + 1 by omega, show k + 1 - 1 = k by omega, Hos_succ h, List.length_append]
  omega
theorem take_min {d : List Int} {m : Nat} (hm : m = min d.length 256) : d.take m = d.take 256 := by
  by_cases h : d.length ≤ 256
  · rw [List.take_of_length_le (by omega), List.take_of_length_le (by omega)]
  · rw [show m = 256 by omega]
theorem cli_drop {fl : Int} {os : List Ho} {k : Nat} {r : Ho} (h : os[k]? = some r) (bh : List Int) : ∃ rest, (cliL fl os ++ bh).drop (Pc os (k + 1)) = r.bytes ++ rest := by
  refine ⟨Hos (os.drop (k + 1)) ++ bh, ?_⟩
  have e1 : Hos os = Hos (os.take k) ++ (r.bytes ++ Hos (os.drop (k + 1))) := by
    unfold Hos
    rw [← List.flatMap_cons, ← List.flatMap_append]
    congr 1
    obtain ⟨hq, e⟩ := List.getElem?_eq_some_iff.1 h
    have := List.drop_eq_getElem_cons hq
    rw [e] at this
    rw [← this, List.take_append_drop]
  have e2 : cliL fl os ++ bh = (be 4 fl ++ Hos (os.take k)) ++ (r.bytes ++ (Hos (os.drop (k + 1)) ++ bh)) := by
    unfold cliL; rw [e1]; simp
  rw [e2]
  exact List.drop_left' (by unfold Pc; rw [if_neg (by omega), List.length_append, be_len]; rfl)
theorem cli_step {fl : Int} {os : List Ho} {bh : List Int} {a k : Nat} {r : Ho} (h : os[k]? = some r) (hf : r.Fit) (hp : Pc os (k + 1) ≤ a) :
    (Pc os (k + 2) ≤ a ∧ 0 < hlN (Tc fl os bh a (k + 1)) mOp 16 ∧ hlE (Tc fl os bh a (k + 1)) mOp 16 = 0 ∧ hlD (Tc fl os bh a (k + 1)) mOp 16 = r.d.take 256 ∧ hlX (Tc fl os bh a (k + 1)) mOp 16 8 = r.op ∧ (Tc fl os bh a (k + 1)).drop (hlN (Tc fl os bh a (k + 1)) mOp 16) = Tc fl os bh a (k + 2)) ∨
    (a < Pc os (k + 2) ∧ hlN (Tc fl os bh a (k + 1)) mOp 16 = 0 ∧ hlE (Tc fl os bh a (k + 1)) mOp 16 = 0) := by
  obtain ⟨rest, hd⟩ := cli_drop (fl := fl) h bh
  have hl : (r.d.take 256).length ≤ 256 := by rw [List.length_take]; omega
  have hb := r.blen
  have hP := Pc_succ h
  have hlb : r.bytes.length = 16 + (r.d.take 256).length := by rw [hb, List.length_take]
  rcases seg_step hd hp with ⟨h1, h2⟩ | ⟨h1, h2⟩
  · left
    obtain ⟨q1, q2, q3, q4, q5⟩ := opt_full (op := r.op) (d := r.d.take 256) (((cliL fl os ++ bh).take a).drop (Pc os (k + 1) + r.bytes.length)) hl hf.1 hf.2
    have e : Tc fl os bh a (k + 1) = rawL mOp [r.op] (r.d.take 256) ++ ((cliL fl os ++ bh).take a).drop (Pc os (k + 1) + r.bytes.length) := h2
    rw [e, q1, q2, q3, q4, q5]
    exact ⟨by omega, by omega, rfl, rfl, rfl, by unfold Tc; rw [hP]⟩
  · right
    obtain ⟨q1, q2⟩ := raw_part (magic := mOp) (nums := [r.op]) (d := r.d.take 256) hl (by decide) (by decide) (h := 16) (k := a - Pc os (k + 1)) rfl (by omega)
    have e : Tc fl os bh a (k + 1) = (rawL mOp [r.op] (r.d.take 256)).take (a - Pc os (k + 1)) := h2
    rw [e, q1, q2]
    exact ⟨by omega, rfl, rfl⟩
theorem b4s_byt (l : List Int) : Byt (b4s l) := by
  intro x hx
  obtain ⟨y, _, hx⟩ := List.mem_flatMap.1 hx
  exact be_byt _ _ x hx
theorem rawL_byt {m : Int} {ns d : List Int} (h : Byt d) : Byt (rawL m ns d) := ((be_byt _ _).append (b4s_byt _)).append h
theorem Hos_byt {os : List Ho} (h : ∀ r ∈ os, Byt r.d) : Byt (Hos os) := by
  intro x hx
  obtain ⟨r, hr, hx⟩ := List.mem_flatMap.1 hx
  exact rawL_byt ((h r hr).take 256) x hx
theorem Tc_byt {fl : Int} {os : List Ho} {bh : List Int} {a n : Nat} (h : ∀ r ∈ os, Byt r.d) (hb : Byt bh) : Byt (Tc fl os bh a n) :=
  ((((be_byt _ _).append (Hos_byt h)).append hb).take a).drop _
section
variable {w0 w : World} {L : List Asr} {fl sz : Int} {Ao Ar : Option Addr} {no co nr cr g a n : Nat} {os : List Ho} {rs : List Hr} {nn : Bool} {bh : List Int}
set_option maxHeartbeats 8000000 in
set_option maxRecDepth 100000 in
theorem hears_calls (HS : Sep w0 w (fun _ => False) (Go.Proofs.Ytgepekailoopeaa.tape g (Tc fl os bh a n) :: L)) (T : Tk w0.heap fl Ao no co os Ar nr cr rs sz) (hbb : Byt bh) (hn : n ≤ no + 1) (hp : Pc os n ≤ a) (hal : a ≤ (cliL fl os ++ bh).length) (hbl : (cliL fl os ++ bh).length ≤ 70368744177664) :
    Calls Try.prog 61 #[.agg #[.int .u32 fl, .slice Ao no co, .slice Ar nr cr, .int .u64 sz, .bool nn], .pointer (some ⟨g, 0, none⟩), .int .i64 n] w fun e w' => ∃ n' : Nat, n ≤ n' ∧ n' ≤ no + 1 ∧ Pc os n' ≤ a ∧ (n' ≤ no → a < Pc os (n' + 1)) ∧ e = .returned (.int .i64 n') ∧ Sep w0 w' (fun _ => False) (Go.Proofs.Ytgepekailoopeaa.tape g (Tc fl os bh a n') :: L) := by
  have HSa := (HS.alloc #[.int .u32 fl, .slice Ao no co, .slice Ar nr cr, .int .u64 sz, .bool nn] 122).sel 2 [1, 0]
  have HT := hid T
  have HB := hid hbb
  have hon := T.on
  have f0 := T.f0
  have f1 := T.f1
  have HTB := hid (Tc_byt (fl := fl) (a := a) (n := n) (fun r hr => (T.og r hr).2.2.1) hbb)
  have hTl : (Tc fl os bh a n).length ≤ 140737488355328 := by
    unfold Tc; rw [List.length_drop, List.length_take]; omega
  have o0 := HSa.up1.blk_at 0 rfl
  clear T hbb
  rcases n with _ | n
  · have hTF := takeflags_calls HSa HTB.out hTl
    have e0 : Tc fl os bh a 0 = (cliL fl os ++ bh).take a := by unfold Tc Pc; rw [if_pos rfl, List.drop_zero]
    have el : (Tc fl os bh a 0).length = a := by rw [e0, List.length_take]; omega
    by_cases h4 : a < 4
    · have e1 : tfN (Tc fl os bh a 0) = 0 := by unfold tfN; rw [if_pos (by omega)]
      rw [e1, List.drop_zero, show decide ((0 : Int) < ((0 : Nat) : Int)) = false from rfl] at hTF
      have HTF := hid hTF
      clear hTF
      go_enter Try.func61, Try.ntmps61
      go_wp2_with fail
      refine HTF.out.mono ?_
      rintro e w5 ⟨rfl, HS5⟩
      go_wp2
      go_ret
      exact ⟨0, Nat.le_refl _, by omega, hp, fun _ => by unfold Pc; rw [if_neg (by omega)]; omega, rfl, HS5.sel 2 [0]⟩
    · have e1 : tfN (Tc fl os bh a 0) = 4 := by unfold tfN; rw [if_neg (by omega)]
      have e2 : tfF (Tc fl os bh a 0) = fl := by
        unfold tfF
        rw [if_neg (by omega), e0, fN_take (by omega), fN_seg (o := 0) (k := 4) (a := []) (b := be 4 fl) (c := Hos os ++ bh) (by simp [cliL]) rfl (be_len _ _), mod_be f0 (by omega)]
      have e3 : (Tc fl os bh a 0).drop 4 = Tc fl os bh a 1 := by rw [e0]; unfold Tc Pc; rw [if_neg (by omega)]; simp [Hos]
      rw [e1, e2, e3, show decide ((0 : Int) < ((4 : Nat) : Int)) = true from rfl] at hTF
      have HTF := hid hTF
      clear hTF e1 e2 e3 e0 el
      go_enter Try.func61, Try.ntmps61
      go_wp2_with fail
      refine HTF.out.mono ?_
      rintro e w5 ⟨rfl, HSL⟩
      have o0' := HSL.up1.blk_at 0 rfl
      have ATS : ∃ k : Nat, k ≤ no ∧ 0 ≤ k + 1 ∧ Value.int .i64 1 = .int .i64 (k + 1 : Nat) ∧ Pc os (k + 1) ≤ a ∧ Sep w0 w5 (fun _ => False) (Go.Proofs.Ytgepekailoopeaa.tape g (Tc fl os bh a (k + 1)) :: blk w.heap.size 122 #[.int .u32 fl, .slice Ao no co, .slice Ar nr cr, .int .u64 sz, .bool nn] :: L) :=
        ⟨0, by omega, by omega, rfl, by unfold Pc; rw [if_neg (by omega)]; simp [Hos]; omega, HSL⟩
      clear HSa HS o0
      go_wp2_with fail
      go_loopw [2] (fun i wr => ∃ k : Nat, k ≤ no ∧ 0 ≤ k + 1 ∧ i = .int .i64 (k + 1 : Nat) ∧ Pc os (k + 1) ≤ a ∧ Sep w0 wr (fun _ => False) (Go.Proofs.Ytgepekailoopeaa.tape g (Tc fl os bh a (k + 1)) :: blk w.heap.size 122 #[.int .u32 fl, .slice Ao no co, .slice Ar nr cr, .int .u64 sz, .bool nn] :: L)) (fun i _ => no + 1 - (intOf i).toNat)
      case atStart => exact ATS
      case round =>
        obtain ⟨k, hk, hnk, rfl, hpk, HSk⟩ := hrel
        clear HSL
        have o1 := HSk.up1.blk_at 1 rfl
        by_cases hlt : k < no
        · obtain ⟨ad, r, rfl, hr0, hgood, y0, y1⟩ := HT.out.oat hlt
          have hst := cli_step (fl := fl) (bh := bh) (a := a) hr0 hgood.1 hpk
          obtain ⟨m, hm⟩ : ∃ m, m = min r.d.length 256 := ⟨_, rfl⟩
          have hmd : (r.d.take 256).length = m := by rw [List.length_take]; omega
          have hRM : Aside (∀ L, Rb w0 (fun _ => False) L 1 r.A m (by8 (r.d.take 256))) := ⟨fun L => by
            have := (Rb.came (L := L) hgood.2.1).ktake (m := m) (by omega)
            rwa [take_min hm] at this⟩
          have HSH := hid (fun W => short_calls (w := W) (A := r.A) (c := r.c) hm hgood.2.2.2.1)
          have hTb := Tc_byt (fl := fl) (a := a) (n := k + 1) (fun r hr => (HT.out.og r hr).2.2.1) HB.out
          have hTl : (Tc fl os bh a (k + 1)).length ≤ 140737488355328 := by
            unfold Tc; rw [List.length_drop, List.length_take]; omega
          have Y0 := hid y0
          have Y1 := hid y1
          have hk1 : ((k + 1 : Nat) : Int) ≤ no := by omega
          clear hm y0 y1 hr0 hgood
          obtain ⟨T, hT⟩ : ∃ T, T = Tc fl os bh a (k + 1) := ⟨_, rfl⟩
          rw [← hT] at HSk hst hTl hTb
          have HTT := hid hT
          have HTK := hid (hTake_calls HSk hTb hTl)
          clear hT hTb hTl
          obtain ⟨rop, rA, rc, rd⟩ := r
          dsimp only at *
          rcases hst with ⟨hst1, t1, t2, t3, t4, t5⟩ | ⟨hst1, t1, t2⟩
          · have t1' : decide ((0 : Int) < (hlN T mOp 16 : Nat)) = true := decide_eq_true (by omega)
            rw [t1', t2, t3, t4, t5, hmd] at HTK
            clear t1 t1' t2 t3 t4 t5
            generalize rd.take 256 = sd at *
            generalize rd.length = rl at *
            clear hmd
            go_wp2_with fail
            refine HTK.out.mono ?_
            rintro e w5 ⟨X, xc, rfl, HS5⟩
            have HS6 := HS5.alloc #[.int .u32 rop, .slice X m xc] 31
            have z0 := HS6.blk_at 0 rfl
            have z1 := HS6.blk_at 1 rfl
            have o1' := HS6.up3.blk_at 1 rfl
            have x0 := HS6.cell_old Y0.out
            have x1 := HS6.cell_old Y1.out
            have wk : IntKind.i64.wrap (((k + 1 : Nat) : Int) - 1) = k := by rw [IntKind.wrap_i64]; omega
            have hk0 : (k : Int) < no := by omega
            have hs1 := fun q => run_str (P := Try.prog) (c := xc) (Rb.i1.read (HS6.drewN q)) 23 9 5 Try.underlying23 Try.underlying5 Try.underlying9
            have hs2 := fun q => run_str (P := Try.prog) (c := rc) ((hRM.out _).read (HS6.drewN q)) 23 9 5 Try.underlying23 Try.underlying5 Try.underlying9
            generalize strOfNums sd = st at hs1 hs2
            clear o1 HSk HS5
            go_upto_region 14 with (fail)
            go_quiet (first | (go_at_call 80; exact Calls.quiet_of_same (Calls.quiet_at (HSH.out _) (by with_reducible rfl))))
            clear hs1 hs2 z0 z1 x0 x1 o1'
            go_wp2
            go_roundw
            case rel => exact ⟨k + 1, by omega, by omega, by go_num, hst1, (HS6.drewN nq).sel 4 [2, 3]⟩
            case measure => simp [intOf]; omega
          · have t1' : decide ((0 : Int) < (hlN T mOp 16 : Nat)) = false := decide_eq_false (by omega)
            rw [t1', t1, t2, List.drop_zero] at HTK
            generalize hlX T mOp 16 8 = X0 at HTK
            generalize hlD T mOp 16 = D0 at HTK
            go_wp2_with fail
            refine HTK.out.mono ?_
            rintro e w5 ⟨X, xc, rfl, HS5⟩
            have HSx := HS5.alloc #[.int .u32 X0, .slice X D0.length xc] 31
            clear HSk o1
            go_wp2
            go_ret
            have HSy : Sep w0 _ (fun _ => False) (Go.Proofs.Ytgepekailoopeaa.tape g T :: L) := HSx.sel 4 [2]
            rw [HTT.out] at HSy
            first
              | exact ⟨k + 1, hnk, by omega, hpk, fun _ => hst1, by go_num, HSy⟩
              | exact ⟨k + 1, by omega, hpk, fun _ => hst1, by go_num, HSy⟩
        · obtain rfl : no = k := by omega
          have hkn : ¬ ((no + 1 : Nat) : Int) ≤ no := by omega
          go_wp2
          go_ret
          first
            | exact ⟨no + 1, hnk, Nat.le_refl _, hpk, fun h => absurd h (by omega), by go_num, HSk.sel 2 [0]⟩
            | exact ⟨no + 1, Nat.le_refl _, hpk, fun h => absurd h (by omega), by go_num, HSk.sel 2 [0]⟩
  · have hnz : ((n : Int) + 1 == 0) = false := by simp; omega
    have HSL := HSa
    have ATS : ∃ k : Nat, k ≤ no ∧ n + 1 ≤ k + 1 ∧ Value.int .i64 (n + 1 : Nat) = .int .i64 (k + 1 : Nat) ∧ Pc os (k + 1) ≤ a ∧ Sep w0 _ (fun _ => False) (Go.Proofs.Ytgepekailoopeaa.tape g (Tc fl os bh a (k + 1)) :: blk w.heap.size 122 #[.int .u32 fl, .slice Ao no co, .slice Ar nr cr, .int .u64 sz, .bool nn] :: L) :=
      ⟨n, by omega, Nat.le_refl _, rfl, hp, HSL⟩
    clear HSa HS o0
    rw [show ((n + 1 : Nat) : Int) = (n : Int) + 1 from rfl] at ATS ⊢
    go_enter Try.func61, Try.ntmps61
    go_wp2_with fail
    clear hnz
    go_loopw [2] (fun i wr => ∃ k : Nat, k ≤ no ∧ n + 1 ≤ k + 1 ∧ i = .int .i64 (k + 1 : Nat) ∧ Pc os (k + 1) ≤ a ∧ Sep w0 wr (fun _ => False) (Go.Proofs.Ytgepekailoopeaa.tape g (Tc fl os bh a (k + 1)) :: blk w.heap.size 122 #[.int .u32 fl, .slice Ao no co, .slice Ar nr cr, .int .u64 sz, .bool nn] :: L)) (fun i _ => no + 1 - (intOf i).toNat)
    case atStart => exact ATS
    case round =>
      obtain ⟨k, hk, hnk, rfl, hpk, HSk⟩ := hrel
      clear HSL
      have o1 := HSk.up1.blk_at 1 rfl
      by_cases hlt : k < no
      · obtain ⟨ad, r, rfl, hr0, hgood, y0, y1⟩ := HT.out.oat hlt
        have hst := cli_step (fl := fl) (bh := bh) (a := a) hr0 hgood.1 hpk
        obtain ⟨m, hm⟩ : ∃ m, m = min r.d.length 256 := ⟨_, rfl⟩
        have hmd : (r.d.take 256).length = m := by rw [List.length_take]; omega
        have hRM : Aside (∀ L, Rb w0 (fun _ => False) L 1 r.A m (by8 (r.d.take 256))) := ⟨fun L => by
          have := (Rb.came (L := L) hgood.2.1).ktake (m := m) (by omega)
          rwa [take_min hm] at this⟩
        have HSH := hid (fun W => short_calls (w := W) (A := r.A) (c := r.c) hm hgood.2.2.2.1)
        have hTb := Tc_byt (fl := fl) (a := a) (n := k + 1) (fun r hr => (HT.out.og r hr).2.2.1) HB.out
        have hTl : (Tc fl os bh a (k + 1)).length ≤ 140737488355328 := by
          unfold Tc; rw [List.length_drop, List.length_take]; omega
        have Y0 := hid y0
        have Y1 := hid y1
        have hk1 : ((k + 1 : Nat) : Int) ≤ no := by omega
        clear hm y0 y1 hr0 hgood
        obtain ⟨T, hT⟩ : ∃ T, T = Tc fl os bh a (k + 1) := ⟨_, rfl⟩
        rw [← hT] at HSk hst hTl hTb
        have HTT := hid hT
        have HTK := hid (hTake_calls HSk hTb hTl)
        clear hT hTb hTl
        obtain ⟨rop, rA, rc, rd⟩ := r
        dsimp only at *
        rcases hst with ⟨hst1, t1, t2, t3, t4, t5⟩ | ⟨hst1, t1, t2⟩
        · have t1' : decide ((0 : Int) < (hlN T mOp 16 : Nat)) = true := decide_eq_true (by omega)
          rw [t1', t2, t3, t4, t5, hmd] at HTK
          clear t1 t1' t2 t3 t4 t5
          generalize rd.take 256 = sd at *
          generalize rd.length = rl at *
          clear hmd
          go_wp2_with fail
          refine HTK.out.mono ?_
          rintro e w5 ⟨X, xc, rfl, HS5⟩
          have HS6 := HS5.alloc #[.int .u32 rop, .slice X m xc] 31
          have z0 := HS6.blk_at 0 rfl
          have z1 := HS6.blk_at 1 rfl
          have o1' := HS6.up3.blk_at 1 rfl
          have x0 := HS6.cell_old Y0.out
          have x1 := HS6.cell_old Y1.out
          have wk : IntKind.i64.wrap (((k + 1 : Nat) : Int) - 1) = k := by rw [IntKind.wrap_i64]; omega
          have hk0 : (k : Int) < no := by omega
          have hs1 := fun q => run_str (P := Try.prog) (c := xc) (Rb.i1.read (HS6.drewN q)) 23 9 5 Try.underlying23 Try.underlying5 Try.underlying9
          have hs2 := fun q => run_str (P := Try.prog) (c := rc) ((hRM.out _).read (HS6.drewN q)) 23 9 5 Try.underlying23 Try.underlying5 Try.underlying9
          generalize strOfNums sd = st at hs1 hs2
          clear o1 HSk HS5
          go_upto_region 14 with (fail)
          go_quiet (first | (go_at_call 80; exact Calls.quiet_of_same (Calls.quiet_at (HSH.out _) (by with_reducible rfl))))
          clear hs1 hs2 z0 z1 x0 x1 o1'
          go_wp2
          go_roundw
          case rel => exact ⟨k + 1, by omega, by omega, by go_num, hst1, (HS6.drewN nq).sel 4 [2, 3]⟩
          case measure => simp [intOf]; omega
        · have t1' : decide ((0 : Int) < (hlN T mOp 16 : Nat)) = false := decide_eq_false (by omega)
          rw [t1', t1, t2, List.drop_zero] at HTK
          generalize hlX T mOp 16 8 = X0 at HTK
          generalize hlD T mOp 16 = D0 at HTK
          go_wp2_with fail
          refine HTK.out.mono ?_
          rintro e w5 ⟨X, xc, rfl, HS5⟩
          have HSx := HS5.alloc #[.int .u32 X0, .slice X D0.length xc] 31
          clear HSk o1
          go_wp2
          go_ret
          have HSy : Sep w0 _ (fun _ => False) (Go.Proofs.Ytgepekailoopeaa.tape g T :: L) := HSx.sel 4 [2]
          rw [HTT.out] at HSy
          first
            | exact ⟨k + 1, hnk, by omega, hpk, fun _ => hst1, by go_num, HSy⟩
            | exact ⟨k + 1, by omega, hpk, fun _ => hst1, by go_num, HSy⟩
      · obtain rfl : no = k := by omega
        have hkn : ¬ ((no + 1 : Nat) : Int) ≤ no := by omega
        go_wp2
        go_ret
        first
          | exact ⟨no + 1, hnk, Nat.le_refl _, hpk, fun h => absurd h (by omega), by go_num, HSk.sel 2 [0]⟩
          | exact ⟨no + 1, Nat.le_refl _, hpk, fun h => absurd h (by omega), by go_num, HSk.sel 2 [0]⟩
end
end Go.Proofs.Ytgepekailoopeaa
