/-
  Contract of Talk.sees.
-/
import Derived.Test.YtgepekailoopeaaPartS
import Derived.Test.YtgepekailoopeaaPartH
namespace Go.Proofs.Ytgepekailoopeaa
open Go.RowKit
set_option linter.unusedVariables false
set_option linter.unusedSimpArgs false
abbrev sayL (fl sz : Int) (rs : List Hr) (nn : Bool) (bh : List Int) : List Int := (srvL fl rs ++ expL sz fl nn) ++ bh
/-- where so many things of a server end -/
def Ps (rs : List Hr) (nn : Bool) (n : Nat) : Nat := if n = 0 then 0 else 18 + (Hrs (rs.take (n - 1))).length + if n = rs.length + 2 then expH nn else 0
def Ts (fl sz : Int) (rs : List Hr) (nn : Bool) (bh : List Int) (a n : Nat) : List Int := ((sayL fl sz rs nn bh).take a).drop (Ps rs nn n)
theorem Ps_at {rs : List Hr} {nn : Bool} {k : Nat} (h : k ≤ rs.length) : Ps rs nn (k + 1) = 18 + (Hrs (rs.take k)).length := by
  unfold Ps
  rw [if_neg (by omega), if_neg (show ¬ k + 1 = rs.length + 2 by omega), show k + 1 - 1 = k by omega, Nat.add_zero]
theorem Ps_all (rs : List Hr) (nn : Bool) : Ps rs nn (rs.length + 2) = 18 + (Hrs rs).length + expH nn := by
  unfold Ps
  rw [if_neg (by omega), if_pos rfl, List.take_of_length_le (by omega)]
theorem Ps_succ {rs : List Hr} {nn : Bool} {k : Nat} {r : Hr} (h : rs[k]? = some r) : Ps rs nn (k + 2) = Ps rs nn (k + 1) + r.bytes.length := by
  obtain ⟨hq, e⟩ := List.getElem?_eq_some_iff.1 h
  rw [Ps_at (show k + 1 ≤ rs.length by omega), Ps_at (show k ≤ rs.length by omega), Hrs_succ h, List.length_append]
  omega
theorem srv_drop {fl sz : Int} {nn : Bool} {rs : List Hr} {k : Nat} {r : Hr} (h : rs[k]? = some r) (bh : List Int) : ∃ rest, (sayL fl sz rs nn bh).drop (Ps rs nn (k + 1)) = r.bytes ++ rest := by
  refine ⟨Hrs (rs.drop (k + 1)) ++ (expL sz fl nn ++ bh), ?_⟩
  obtain ⟨hq, e⟩ := List.getElem?_eq_some_iff.1 h
  have e1 : Hrs rs = Hrs (rs.take k) ++ (r.bytes ++ Hrs (rs.drop (k + 1))) := by
    unfold Hrs
    rw [← List.flatMap_cons, ← List.flatMap_append]
    congr 1
    have := List.drop_eq_getElem_cons hq
    rw [e] at this
    rw [← this, List.take_append_drop]
  have e2 : sayL fl sz rs nn bh = (greetL fl ++ Hrs (rs.take k)) ++ (r.bytes ++ (Hrs (rs.drop (k + 1)) ++ (expL sz fl nn ++ bh))) := by
    unfold sayL srvL; rw [e1]; simp
  rw [e2]
  exact List.drop_left' (by rw [Ps_at (by omega), List.length_append, greetL_len])
theorem srv_step {fl sz : Int} {nn : Bool} {rs : List Hr} {bh : List Int} {a k : Nat} {r : Hr} (h : rs[k]? = some r) (hf : r.Fit) (hp : Ps rs nn (k + 1) ≤ a) :
    (Ps rs nn (k + 2) ≤ a ∧ 0 < hlN (Ts fl sz rs nn bh a (k + 1)) mRe 20 ∧ hlE (Ts fl sz rs nn bh a (k + 1)) mRe 20 = 0 ∧ hlD (Ts fl sz rs nn bh a (k + 1)) mRe 20 = r.d.take 256 ∧ hlX (Ts fl sz rs nn bh a (k + 1)) mRe 20 8 = r.op ∧ hlX (Ts fl sz rs nn bh a (k + 1)) mRe 20 12 = r.kd ∧ (Ts fl sz rs nn bh a (k + 1)).drop (hlN (Ts fl sz rs nn bh a (k + 1)) mRe 20) = Ts fl sz rs nn bh a (k + 2)) ∨
    (a < Ps rs nn (k + 2) ∧ hlN (Ts fl sz rs nn bh a (k + 1)) mRe 20 = 0 ∧ hlE (Ts fl sz rs nn bh a (k + 1)) mRe 20 = 0) := by
  obtain ⟨rest, hd⟩ := srv_drop (fl := fl) (sz := sz) (nn := nn) h bh
  have hl : (r.d.take 256).length ≤ 256 := by rw [List.length_take]; omega
  have hb := r.blen
  have hP := Ps_succ (nn := nn) h
  have hlb : r.bytes.length = 20 + (r.d.take 256).length := by rw [hb, List.length_take]
  rcases seg_step hd hp with ⟨h1, h2⟩ | ⟨h1, h2⟩
  · left
    obtain ⟨q1, q2, q3, q4, q6, q5⟩ := rep_full (op := r.op) (kd := r.kd) (d := r.d.take 256) (((sayL fl sz rs nn bh).take a).drop (Ps rs nn (k + 1) + r.bytes.length)) hl hf.1 hf.2.1 hf.2.2.1 hf.2.2.2
    have e : Ts fl sz rs nn bh a (k + 1) = rawL mRe [r.op, r.kd] (r.d.take 256) ++ ((sayL fl sz rs nn bh).take a).drop (Ps rs nn (k + 1) + r.bytes.length) := h2
    rw [e, q1, q2, q3, q4, q6, q5]
    exact ⟨by omega, by omega, rfl, rfl, rfl, rfl, by unfold Ts; rw [hP]⟩
  · right
    obtain ⟨q1, q2⟩ := raw_part (magic := mRe) (nums := [r.op, r.kd]) (d := r.d.take 256) hl (by decide) (by decide) (h := 20) (k := a - Ps rs nn (k + 1)) rfl (by omega)
    have e : Ts fl sz rs nn bh a (k + 1) = (rawL mRe [r.op, r.kd] (r.d.take 256)).take (a - Ps rs nn (k + 1)) := h2
    rw [e, q1, q2]
    exact ⟨by omega, rfl, rfl⟩
theorem exp_step {fl sz : Int} {nn : Bool} {rs : List Hr} {bh : List Int} {a k : Nat} (hk : rs.length = k) (z0 : 0 ≤ sz) (z1 : sz < 18446744073709551616) (f0 : 0 ≤ fl) (f1 : fl < 65536) (hp : Ps rs nn (k + 1) ≤ a) :
    (Ps rs nn (k + 2) ≤ a ∧ 0 < expN (Ts fl sz rs nn bh a (k + 1)) nn ∧ expS (Ts fl sz rs nn bh a (k + 1)) nn = sz ∧ expF (Ts fl sz rs nn bh a (k + 1)) nn = fl ∧ (Ts fl sz rs nn bh a (k + 1)).drop (expN (Ts fl sz rs nn bh a (k + 1)) nn) = Ts fl sz rs nn bh a (k + 2)) ∨
    (a < Ps rs nn (k + 2) ∧ expN (Ts fl sz rs nn bh a (k + 1)) nn = 0) := by
  subst hk
  have hP : Ps rs nn (rs.length + 2) = Ps rs nn (rs.length + 1) + expH nn := by rw [Ps_all, Ps_at (Nat.le_refl _), List.take_of_length_le (Nat.le_refl _)]
  have hd : (sayL fl sz rs nn bh).drop (Ps rs nn (rs.length + 1)) = expL sz fl nn ++ bh := by
    have e2 : sayL fl sz rs nn bh = (greetL fl ++ Hrs rs) ++ (expL sz fl nn ++ bh) := by unfold sayL srvL; simp
    rw [e2]
    exact List.drop_left' (by rw [Ps_at (Nat.le_refl _), List.length_append, greetL_len, List.take_of_length_le (Nat.le_refl _)])
  have e : Ts fl sz rs nn bh a (rs.length + 1) = (expL sz fl nn ++ bh).take (a - Ps rs nn (rs.length + 1)) := by unfold Ts; rw [List.drop_take, hd]
  have h10 : 0 < expH nn := by cases nn <;> decide
  rcases seg_step hd hp with ⟨h1, h2⟩ | ⟨h1, h2⟩
  · left
    rw [expL_len] at h1 h2
    obtain ⟨q1, q2, q3⟩ := exp_part (nn := nn) z0 z1 f0 f1 bh (k := a - Ps rs nn (rs.length + 1)) (by omega)
    have e4 : (Ts fl sz rs nn bh a (rs.length + 1)).drop (expH nn) = Ts fl sz rs nn bh a (rs.length + 2) := by
      unfold Ts; rw [List.drop_drop, hP]
    rw [← e] at q1 q2 q3
    rw [q1, q2, q3, e4]
    exact ⟨by omega, h10, rfl, rfl, rfl⟩
  · right
    rw [expL_len] at h1
    refine ⟨by omega, ?_⟩
    have e5 : (Ts fl sz rs nn bh a (rs.length + 1)).length < expH nn := by
      have : Ts fl sz rs nn bh a (rs.length + 1) = _ := h2
      rw [this, List.length_take, expL_len]; omega
    unfold expN
    rw [if_pos e5]
theorem Hrs_byt {rs : List Hr} (h : ∀ r ∈ rs, Byt r.d) : Byt (Hrs rs) := by
  intro x hx
  obtain ⟨r, hr, hx⟩ := List.mem_flatMap.1 hx
  exact rawL_byt ((h r hr).take 256) x hx
theorem nil_byt (k : Nat) : Byt (List.replicate k 0) := by
  intro x hx
  obtain rfl := List.eq_of_mem_replicate hx
  omega
theorem expL_byt (sz fl : Int) (nn : Bool) : Byt (expL sz fl nn) := ((be_byt _ _).append (be_byt _ _)).append (nil_byt _)
theorem greetL_byt (fl : Int) : Byt (greetL fl) := ((be_byt _ _).append (be_byt _ _)).append (be_byt _ _)
theorem Ts_byt {fl sz : Int} {nn : Bool} {rs : List Hr} {bh : List Int} {a n : Nat} (h : ∀ r ∈ rs, Byt r.d) (hb : Byt bh) : Byt (Ts fl sz rs nn bh a n) :=
  (((((greetL_byt fl).append (Hrs_byt h)).append (expL_byt sz fl nn)).append hb).take a).drop _
section
variable {w0 w : World} {L : List Asr} {fl f16 sz : Int} {Ao Ar : Option Addr} {no co nr cr g a n : Nat} {os : List Ho} {rs : List Hr} {nn : Bool} {bh : List Int}
theorem takeexp_calls {l : List Int} (HS : Sep w0 w (fun _ => False) (Go.Proofs.Ytgepekailoopeaa.tape g l :: L)) (hb : Byt l) (hl : l.length ≤ 140737488355328) :
    Calls Try.prog 40 #[.pointer (some ⟨g, 0, none⟩), .bool nn] w fun e w' => e = .returned (.tuple #[.int .u64 (expS l nn), .int .u16 (expF l nn), .bool (decide ((0 : Int) < (expN l nn : Nat)))]) ∧ Sep w0 w' (fun _ => False) (Go.Proofs.Ytgepekailoopeaa.tape g (l.drop (expN l nn)) :: L) := by
  cases nn
  · exact hTakeExport_false HS hb hl
  · exact hTakeExport_true HS hb hl
set_option maxHeartbeats 8000000 in
set_option maxRecDepth 100000 in
theorem sees_calls (HS : Sep w0 w (fun _ => False) (Go.Proofs.Ytgepekailoopeaa.tape g (Ts f16 sz rs nn bh a n) :: L)) (T : Tk w0.heap fl Ao no co os Ar nr cr rs sz) (hf : f16 = fl % 65536) (hbb : Byt bh) (hn : n ≤ nr + 1) (hp : Ps rs nn n ≤ a) (hal : a ≤ (sayL f16 sz rs nn bh).length) (hbl : (sayL f16 sz rs nn bh).length ≤ 70368744177664) :
    Calls Try.prog 62 #[.agg #[.int .u32 fl, .slice Ao no co, .slice Ar nr cr, .int .u64 sz, .bool nn], .pointer (some ⟨g, 0, none⟩), .int .i64 n] w fun e w' => ∃ n' : Nat, n ≤ n' ∧ n' ≤ nr + 2 ∧ Ps rs nn n' ≤ a ∧ (n' ≤ nr + 1 → a < Ps rs nn (n' + 1)) ∧ e = .returned (.int .i64 n') ∧ Sep w0 w' (fun _ => False) (Go.Proofs.Ytgepekailoopeaa.tape g (Ts f16 sz rs nn bh a n') :: L) := by
  have HSa := (HS.alloc #[.int .u32 fl, .slice Ao no co, .slice Ar nr cr, .int .u64 sz, .bool nn] 122).sel 2 [1, 0]
  have HT := hid T
  have HB := hid hbb
  have hon := T.rn
  have f0 : 0 ≤ f16 := by omega
  have f1 : f16 < 65536 := by omega
  have y16 : IntKind.u16.wrap fl = f16 := by rw [IntKind.wrap_u16]; omega
  clear hf
  have HTB := hid (Ts_byt (fl := f16) (sz := sz) (nn := nn) (a := a) (n := n) (fun r hr => (T.rg r hr).2.2.1) hbb)
  have hTl : (Ts f16 sz rs nn bh a n).length ≤ 140737488355328 := by
    unfold Ts; rw [List.length_drop, List.length_take]; omega
  have o0 := HSa.up1.blk_at 0 rfl
  clear T hbb
  rcases n with _ | n
  · have hTF := greeted_calls HSa HTB.out hTl
    have e0 : Ts f16 sz rs nn bh a 0 = (greetL f16 ++ (Hrs rs ++ (expL sz f16 nn ++ bh))).take a := by
      unfold Ts Ps; rw [if_pos rfl, List.drop_zero]; unfold sayL srvL; simp
    have el : (Ts f16 sz rs nn bh a 0).length = a := by unfold Ts Ps; rw [if_pos rfl, List.drop_zero, List.length_take]; omega
    obtain ⟨g1, g2, g3⟩ := greet_part f0 f1 (Hrs rs ++ (expL sz f16 nn ++ bh)) a
    rw [← e0] at g1 g2 g3
    rw [el] at g2
    by_cases h4 : a < 18
    · rw [if_pos h4] at g2
      rw [g1, g2, List.drop_zero, show decide ((0 : Int) < ((0 : Nat) : Int)) = false from rfl] at hTF
      generalize grF (Ts f16 sz rs nn bh a 0) = X0 at hTF
      have HTF := hid hTF
      clear hTF g1 g2 g3 e0
      go_enter Try.func62, Try.ntmps62
      go_wp2_with fail
      refine HTF.out.mono ?_
      rintro e w5 ⟨rfl, HS5⟩
      clear o0
      have o0 := HS5.up1.blk_at 0 rfl
      go_wp2
      go_ret
      exact ⟨0, Nat.le_refl _, by omega, hp, fun _ => by rw [Ps_at (Nat.zero_le _)]; omega, rfl, HS5.sel 2 [0]⟩
    · rw [if_neg h4] at g2
      have e3 : (Ts f16 sz rs nn bh a 0).drop 18 = Ts f16 sz rs nn bh a 1 := by
        unfold Ts; rw [List.drop_drop, Ps_at (Nat.zero_le _)]; unfold Ps; simp [Hrs]
      rw [g1, g2, g3 (by omega), e3, show decide ((0 : Int) < ((18 : Nat) : Int)) = true from rfl] at hTF
      have HTF := hid hTF
      clear hTF g1 g2 g3 e0 e3 el
      go_enter Try.func62, Try.ntmps62
      go_wp2_with fail
      refine HTF.out.mono ?_
      rintro e w5 ⟨rfl, HSL⟩
      clear o0
      have o0 := HSL.up1.blk_at 0 rfl
      have ATS : ∃ k : Nat, k ≤ nr ∧ 0 ≤ k + 1 ∧ Value.int .i64 1 = .int .i64 (k + 1 : Nat) ∧ Ps rs nn (k + 1) ≤ a ∧ Sep w0 w5 (fun _ => False) (Go.Proofs.Ytgepekailoopeaa.tape g (Ts f16 sz rs nn bh a (k + 1)) :: blk w.heap.size 122 #[.int .u32 fl, .slice Ao no co, .slice Ar nr cr, .int .u64 sz, .bool nn] :: L) :=
        ⟨0, by omega, by omega, rfl, by rw [Ps_at (Nat.zero_le _)]; simp [Hrs]; omega, HSL⟩
      clear HSa HS
      go_wp2_with fail
      clear o0
      go_loopw [2] (fun i wr => ∃ k : Nat, k ≤ nr ∧ 0 ≤ k + 1 ∧ i = .int .i64 (k + 1 : Nat) ∧ Ps rs nn (k + 1) ≤ a ∧ Sep w0 wr (fun _ => False) (Go.Proofs.Ytgepekailoopeaa.tape g (Ts f16 sz rs nn bh a (k + 1)) :: blk w.heap.size 122 #[.int .u32 fl, .slice Ao no co, .slice Ar nr cr, .int .u64 sz, .bool nn] :: L)) (fun i _ => nr + 1 - (intOf i).toNat)
      case atStart => exact ATS
      case round =>
        obtain ⟨k, hk, hnk, rfl, hpk, HSk⟩ := hrel
        clear HSL
        have o2 := HSk.up1.blk_at 2 rfl
        have hTb := Ts_byt (fl := f16) (sz := sz) (nn := nn) (a := a) (n := k + 1) (fun r hr => (HT.out.rg r hr).2.2.1) HB.out
        have hTl : (Ts f16 sz rs nn bh a (k + 1)).length ≤ 140737488355328 := by
          unfold Ts; rw [List.length_drop, List.length_take]; omega
        by_cases hlt : k < nr
        · obtain ⟨ad, r, rfl, hr0, hgood, y0, y1, y2⟩ := HT.out.rat hlt
          have hst := srv_step (fl := f16) (sz := sz) (nn := nn) (bh := bh) (a := a) hr0 hgood.1 hpk
          obtain ⟨m, hm⟩ : ∃ m, m = min r.d.length 256 := ⟨_, rfl⟩
          have hmd : (r.d.take 256).length = m := by rw [List.length_take]; omega
          have hRM : Aside (∀ L, Rb w0 (fun _ => False) L 1 r.A m (by8 (r.d.take 256))) := ⟨fun L => by
            have := (Rb.came (L := L) hgood.2.1).ktake (m := m) (by omega)
            rwa [take_min hm] at this⟩
          have HSH := hid (fun W => short_calls (w := W) (A := r.A) (c := r.c) hm hgood.2.2.2.1)
          have Y0 := hid y0
          have Y1 := hid y1
          have Y2 := hid y2
          have hk1 : ((k + 1 : Nat) : Int) ≤ nr := by omega
          clear hm y0 y1 y2 hr0 hgood
          obtain ⟨T, hT⟩ : ∃ T, T = Ts f16 sz rs nn bh a (k + 1) := ⟨_, rfl⟩
          rw [← hT] at HSk hst hTl hTb
          have HTT := hid hT
          have HTK := hid (hTakeReply_calls HSk hTb hTl)
          clear hT hTb hTl
          obtain ⟨rop, rkd, rA, rc, rd⟩ := r
          dsimp only at *
          rcases hst with ⟨hst1, t1, t2, t3, t4, t6, t5⟩ | ⟨hst1, t1, t2⟩
          · have t1' : decide ((0 : Int) < (hlN T mRe 20 : Nat)) = true := decide_eq_true (by omega)
            rw [t1', t2, t3, t4, t6, t5, hmd] at HTK
            clear t1 t1' t2 t3 t4 t5 t6
            generalize rd.take 256 = sd at *
            generalize rd.length = rl at *
            clear hmd
            go_wp2_with fail
            refine HTK.out.mono ?_
            rintro e w5 ⟨X, xc, rfl, HS5⟩
            have HS6 := (HS5.alloc #[.int .u32 rop, .int .u32 rkd, .slice X m xc] 35).allocB #[.int .u32 rop, .int .u32 rkd, .slice rA rl rc] 35 (B := w5.heap.size + 1) (by simp)
            have z0 := HS6.up1.blk_at 0 rfl
            have z1 := HS6.up1.blk_at 1 rfl
            have z2 := HS6.up1.blk_at 2 rfl
            have v0 := HS6.blk_at 0 rfl
            have v1 := HS6.blk_at 1 rfl
            have v2 := HS6.blk_at 2 rfl
            have HSq := HS5.alloc #[.int .u32 rop, .int .u32 rkd, .slice X m xc] 35
            have o2' := HSq.up3.blk_at 2 rfl
            have x0 := HSq.cell_old Y0.out
            have x1 := HSq.cell_old Y1.out
            have x2 := HSq.cell_old Y2.out
            have wk : IntKind.i64.wrap (((k + 1 : Nat) : Int) - 1) = k := by rw [IntKind.wrap_i64]; omega
            have hk0 : (k : Int) < nr := by omega
            have hs1 := fun q => run_str (P := Try.prog) (c := xc) (Rb.i2.read (HS6.drewN q)) 23 9 5 Try.underlying23 Try.underlying5 Try.underlying9
            have hs2 := fun q => run_str (P := Try.prog) (c := rc) ((hRM.out _).read (HS6.drewN q)) 23 9 5 Try.underlying23 Try.underlying5 Try.underlying9
            generalize strOfNums sd = st at hs1 hs2
            clear o2 HSk HS5 HSq
            go_upto_region 15 with (fail)
            go_quiet (first | (go_at_call 80; exact Calls.quiet_of_same (Calls.quiet_at (HSH.out _) (by with_reducible rfl))))
            clear hs1 hs2 z0 z1 z2 v0 v1 v2 x0 x1 x2 o2'
            go_wp2
            go_roundw
            case rel => exact ⟨k + 1, by omega, by omega, by go_num, hst1, (HS6.drewN nq).sel 5 [3, 4]⟩
            case measure => simp [intOf]; omega
          · have t1' : decide ((0 : Int) < (hlN T mRe 20 : Nat)) = false := decide_eq_false (by omega)
            rw [t1', t1, t2, List.drop_zero] at HTK
            generalize hlX T mRe 20 8 = X0 at HTK
            generalize hlX T mRe 20 12 = X1 at HTK
            generalize hlD T mRe 20 = D0 at HTK
            go_wp2_with fail
            refine HTK.out.mono ?_
            rintro e w5 ⟨X, xc, rfl, HS5⟩
            have HSx := HS5.alloc #[.int .u32 X0, .int .u32 X1, .slice X D0.length xc] 35
            clear HSk o2
            go_wp2
            go_ret
            have HSy : Sep w0 _ (fun _ => False) (Go.Proofs.Ytgepekailoopeaa.tape g T :: L) := HSx.sel 4 [2]
            rw [HTT.out] at HSy
            first
              | exact ⟨k + 1, hnk, by omega, hpk, fun _ => hst1, by go_num, HSy⟩
              | exact ⟨k + 1, by omega, hpk, fun _ => hst1, by go_num, HSy⟩
        · obtain rfl : k = nr := by omega
          have hkn : ¬ ((k + 1 : Nat) : Int) ≤ k := by omega
          have o0 := HSk.up1.blk_at 0 rfl
          have o3 := HSk.up1.blk_at 3 rfl
          have o4 := HSk.up1.blk_at 4 rfl
          have hst := exp_step (bh := bh) (a := a) (rs := rs) (nn := nn) HT.out.rl HT.out.z0 HT.out.z1 f0 f1 hpk
          obtain ⟨T, hT⟩ : ∃ T, T = Ts f16 sz rs nn bh a (k + 1) := ⟨_, rfl⟩
          rw [← hT] at HSk hst hTl hTb
          have HTT := hid hT
          have HTK := hid (takeexp_calls (nn := nn) HSk hTb hTl)
          clear hT hTb hTl
          rcases hst with ⟨hst1, t1, t2, t3, t4⟩ | ⟨hst1, t1⟩
          · have t1' : decide ((0 : Int) < (expN T nn : Nat)) = true := decide_eq_true (by omega)
            rw [t1', t2, t3, t4] at HTK
            clear t1 t1' t2 t3 t4 HSk
            go_wp2_with fail
            refine HTK.out.mono ?_
            rintro e w5 ⟨rfl, HS5⟩
            clear o0 o2 o3 o4
            have o0 := HS5.up1.blk_at 0 rfl
            have o3 := HS5.up1.blk_at 3 rfl
            go_wp2
            go_ret
            first
              | exact ⟨k + 2, by omega, by omega, hst1, fun h => absurd h (by omega), by go_num, HS5.sel 2 [0]⟩
              | exact ⟨k + 2, by omega, hst1, fun h => absurd h (by omega), by go_num, HS5.sel 2 [0]⟩
          · have t1' : decide ((0 : Int) < (expN T nn : Nat)) = false := decide_eq_false (by omega)
            rw [t1', t1, List.drop_zero] at HTK
            generalize expS T nn = X0 at HTK
            generalize expF T nn = X1 at HTK
            clear t1 t1' HSk
            go_wp2_with fail
            refine HTK.out.mono ?_
            rintro e w5 ⟨rfl, HS5⟩
            clear o0 o2 o3 o4
            go_wp2
            go_ret
            rw [HTT.out] at HS5
            first
              | exact ⟨k + 1, hnk, by omega, hpk, fun _ => hst1, by go_num, HS5.sel 2 [0]⟩
              | exact ⟨k + 1, by omega, hpk, fun _ => hst1, by go_num, HS5.sel 2 [0]⟩
  · have hnz : ((n : Int) + 1 == 0) = false := by simp; omega
    have HSL := HSa
    have ATS : ∃ k : Nat, k ≤ nr ∧ n + 1 ≤ k + 1 ∧ Value.int .i64 (n + 1 : Nat) = .int .i64 (k + 1 : Nat) ∧ Ps rs nn (k + 1) ≤ a ∧ Sep w0 _ (fun _ => False) (Go.Proofs.Ytgepekailoopeaa.tape g (Ts f16 sz rs nn bh a (k + 1)) :: blk w.heap.size 122 #[.int .u32 fl, .slice Ao no co, .slice Ar nr cr, .int .u64 sz, .bool nn] :: L) :=
      ⟨n, by omega, Nat.le_refl _, rfl, hp, HSL⟩
    clear HSa HS o0
    rw [show ((n + 1 : Nat) : Int) = (n : Int) + 1 from rfl] at ATS ⊢
    go_enter Try.func62, Try.ntmps62
    go_wp2_with fail
    clear hnz
    go_loopw [2] (fun i wr => ∃ k : Nat, k ≤ nr ∧ n + 1 ≤ k + 1 ∧ i = .int .i64 (k + 1 : Nat) ∧ Ps rs nn (k + 1) ≤ a ∧ Sep w0 wr (fun _ => False) (Go.Proofs.Ytgepekailoopeaa.tape g (Ts f16 sz rs nn bh a (k + 1)) :: blk w.heap.size 122 #[.int .u32 fl, .slice Ao no co, .slice Ar nr cr, .int .u64 sz, .bool nn] :: L)) (fun i _ => nr + 1 - (intOf i).toNat)
    case atStart => exact ATS
    case round =>
      obtain ⟨k, hk, hnk, rfl, hpk, HSk⟩ := hrel
      clear HSL
      have o2 := HSk.up1.blk_at 2 rfl
      have hTb := Ts_byt (fl := f16) (sz := sz) (nn := nn) (a := a) (n := k + 1) (fun r hr => (HT.out.rg r hr).2.2.1) HB.out
      have hTl : (Ts f16 sz rs nn bh a (k + 1)).length ≤ 140737488355328 := by
        unfold Ts; rw [List.length_drop, List.length_take]; omega
      by_cases hlt : k < nr
      · obtain ⟨ad, r, rfl, hr0, hgood, y0, y1, y2⟩ := HT.out.rat hlt
        have hst := srv_step (fl := f16) (sz := sz) (nn := nn) (bh := bh) (a := a) hr0 hgood.1 hpk
        obtain ⟨m, hm⟩ : ∃ m, m = min r.d.length 256 := ⟨_, rfl⟩
        have hmd : (r.d.take 256).length = m := by rw [List.length_take]; omega
        have hRM : Aside (∀ L, Rb w0 (fun _ => False) L 1 r.A m (by8 (r.d.take 256))) := ⟨fun L => by
          have := (Rb.came (L := L) hgood.2.1).ktake (m := m) (by omega)
          rwa [take_min hm] at this⟩
        have HSH := hid (fun W => short_calls (w := W) (A := r.A) (c := r.c) hm hgood.2.2.2.1)
        have Y0 := hid y0
        have Y1 := hid y1
        have Y2 := hid y2
        have hk1 : ((k + 1 : Nat) : Int) ≤ nr := by omega
        clear hm y0 y1 y2 hr0 hgood
        obtain ⟨T, hT⟩ : ∃ T, T = Ts f16 sz rs nn bh a (k + 1) := ⟨_, rfl⟩
        rw [← hT] at HSk hst hTl hTb
        have HTT := hid hT
        have HTK := hid (hTakeReply_calls HSk hTb hTl)
        clear hT hTb hTl
        obtain ⟨rop, rkd, rA, rc, rd⟩ := r
        dsimp only at *
        rcases hst with ⟨hst1, t1, t2, t3, t4, t6, t5⟩ | ⟨hst1, t1, t2⟩
        · have t1' : decide ((0 : Int) < (hlN T mRe 20 : Nat)) = true := decide_eq_true (by omega)
          rw [t1', t2, t3, t4, t6, t5, hmd] at HTK
          clear t1 t1' t2 t3 t4 t5 t6
          generalize rd.take 256 = sd at *
          generalize rd.length = rl at *
          clear hmd
          go_wp2_with fail
          refine HTK.out.mono ?_
          rintro e w5 ⟨X, xc, rfl, HS5⟩
          have HS6 := (HS5.alloc #[.int .u32 rop, .int .u32 rkd, .slice X m xc] 35).allocB #[.int .u32 rop, .int .u32 rkd, .slice rA rl rc] 35 (B := w5.heap.size + 1) (by simp)
          have z0 := HS6.up1.blk_at 0 rfl
          have z1 := HS6.up1.blk_at 1 rfl
          have z2 := HS6.up1.blk_at 2 rfl
          have v0 := HS6.blk_at 0 rfl
          have v1 := HS6.blk_at 1 rfl
          have v2 := HS6.blk_at 2 rfl
          have HSq := HS5.alloc #[.int .u32 rop, .int .u32 rkd, .slice X m xc] 35
          have o2' := HSq.up3.blk_at 2 rfl
          have x0 := HSq.cell_old Y0.out
          have x1 := HSq.cell_old Y1.out
          have x2 := HSq.cell_old Y2.out
          have wk : IntKind.i64.wrap (((k + 1 : Nat) : Int) - 1) = k := by rw [IntKind.wrap_i64]; omega
          have hk0 : (k : Int) < nr := by omega
          have hs1 := fun q => run_str (P := Try.prog) (c := xc) (Rb.i2.read (HS6.drewN q)) 23 9 5 Try.underlying23 Try.underlying5 Try.underlying9
          have hs2 := fun q => run_str (P := Try.prog) (c := rc) ((hRM.out _).read (HS6.drewN q)) 23 9 5 Try.underlying23 Try.underlying5 Try.underlying9
          generalize strOfNums sd = st at hs1 hs2
          clear o2 HSk HS5 HSq
          go_upto_region 15 with (fail)
          go_quiet (first | (go_at_call 80; exact Calls.quiet_of_same (Calls.quiet_at (HSH.out _) (by with_reducible rfl))))
          clear hs1 hs2 z0 z1 z2 v0 v1 v2 x0 x1 x2 o2'
          go_wp2
          go_roundw
          case rel => exact ⟨k + 1, by omega, by omega, by go_num, hst1, (HS6.drewN nq).sel 5 [3, 4]⟩
          case measure => simp [intOf]; omega
        · have t1' : decide ((0 : Int) < (hlN T mRe 20 : Nat)) = false := decide_eq_false (by omega)
          rw [t1', t1, t2, List.drop_zero] at HTK
          generalize hlX T mRe 20 8 = X0 at HTK
          generalize hlX T mRe 20 12 = X1 at HTK
          generalize hlD T mRe 20 = D0 at HTK
          go_wp2_with fail
          refine HTK.out.mono ?_
          rintro e w5 ⟨X, xc, rfl, HS5⟩
          have HSx := HS5.alloc #[.int .u32 X0, .int .u32 X1, .slice X D0.length xc] 35
          clear HSk o2
          go_wp2
          go_ret
          have HSy : Sep w0 _ (fun _ => False) (Go.Proofs.Ytgepekailoopeaa.tape g T :: L) := HSx.sel 4 [2]
          rw [HTT.out] at HSy
          first
            | exact ⟨k + 1, hnk, by omega, hpk, fun _ => hst1, by go_num, HSy⟩
            | exact ⟨k + 1, by omega, hpk, fun _ => hst1, by go_num, HSy⟩
      · obtain rfl : k = nr := by omega
        have hkn : ¬ ((k + 1 : Nat) : Int) ≤ k := by omega
        have o0 := HSk.up1.blk_at 0 rfl
        have o3 := HSk.up1.blk_at 3 rfl
        have o4 := HSk.up1.blk_at 4 rfl
        have hst := exp_step (bh := bh) (a := a) (rs := rs) (nn := nn) HT.out.rl HT.out.z0 HT.out.z1 f0 f1 hpk
        obtain ⟨T, hT⟩ : ∃ T, T = Ts f16 sz rs nn bh a (k + 1) := ⟨_, rfl⟩
        rw [← hT] at HSk hst hTl hTb
        have HTT := hid hT
        have HTK := hid (takeexp_calls (nn := nn) HSk hTb hTl)
        clear hT hTb hTl
        rcases hst with ⟨hst1, t1, t2, t3, t4⟩ | ⟨hst1, t1⟩
        · have t1' : decide ((0 : Int) < (expN T nn : Nat)) = true := decide_eq_true (by omega)
          rw [t1', t2, t3, t4] at HTK
          clear t1 t1' t2 t3 t4 HSk
          go_wp2_with fail
          refine HTK.out.mono ?_
          rintro e w5 ⟨rfl, HS5⟩
          clear o0 o2 o3 o4
          have o0 := HS5.up1.blk_at 0 rfl
          have o3 := HS5.up1.blk_at 3 rfl
          go_wp2
          go_ret
          first
            | exact ⟨k + 2, by omega, by omega, hst1, fun h => absurd h (by omega), by go_num, HS5.sel 2 [0]⟩
            | exact ⟨k + 2, by omega, hst1, fun h => absurd h (by omega), by go_num, HS5.sel 2 [0]⟩
        · have t1' : decide ((0 : Int) < (expN T nn : Nat)) = false := decide_eq_false (by omega)
          rw [t1', t1, List.drop_zero] at HTK
          generalize expS T nn = X0 at HTK
          generalize expF T nn = X1 at HTK
          clear t1 t1' HSk
          go_wp2_with fail
          refine HTK.out.mono ?_
          rintro e w5 ⟨rfl, HS5⟩
          clear o0 o2 o3 o4
          go_wp2
          go_ret
          rw [HTT.out] at HS5
          first
            | exact ⟨k + 1, hnk, by omega, hpk, fun _ => hst1, by go_num, HS5.sel 2 [0]⟩
            | exact ⟨k + 1, by omega, hpk, fun _ => hst1, by go_num, HS5.sel 2 [0]⟩
end
end Go.Proofs.Ytgepekailoopeaa
