/-
  The walk of HelloGreets.
-/
import Derived.Test.YtgepekailoopeaaLaw22
import Derived.Test.YtgepekailoopeaaHel2
import Derived.Test.YtgepekailoopeaaView
import Derived.Deep.DeepCutAuto
import Derived.Deep.RegionWith
namespace Go.Proofs.Ytgepekailoopeaa
open Go.RowKit
set_option linter.unusedVariables false
set_option linter.unusedSimpArgs false
theorem grN_le (l : List Int) : grN l ≤ l.length := by
  unfold grN; split
  · exact Nat.zero_le _
  · split <;> omega
section
variable {w0 w : World} {O : Nat → Prop} {L : List Asr}
/-- region 9 and the end -/
def greetEnd : Prop := True

set_option maxHeartbeats 40000000 in
set_option maxRecDepth 100000 in
theorem helloGreets_walk (a0 : Int) (a1 : Int) (A2 : Option Addr) (n2 c2 : Nat) (x0 : Sh.V (.int .u16)) (x1 : Sh.V (.int .u32)) (x2 : Sh.V (.slice (.int .u8) 1)) (w : World) (s0 : Sees w.heap (.int .u16) [.int .u16 a0] x0) (s1 : Sees w.heap (.int .u32) [.int .u32 a1] x1) (s2 : Sees w.heap (.slice (.int .u8) 1) [.slice A2 n2 c2] x2) (y0 : Light (.int .u16) x0) (y1 : Light (.int .u32) x1) (y2 : Light (.slice (.int .u8) 1) x2) :
    Calls Try.prog 5 #[.int .u16 a0, .int .u32 a1, .slice A2 n2 c2] w fun e w' => e = .returned (.bool true) ∧ Below w.heap.size w w' := by
  obtain ⟨hs0, hs0'⟩ := s0
  have ha0 : a0 = x0 := by injection hs0 with hs0 _; injection hs0
  subst ha0
  have b0 := bounds_u16 hs0'
  obtain ⟨hs1, hs1'⟩ := s1
  have ha1 : a1 = x1 := by injection hs1 with hs1 _; injection hs1
  subst ha1
  have b1 := bounds_u32 hs1'
  obtain ⟨hn2, hr2, hc2, _, hw2⟩ := sees_ints s2
  obtain ⟨l, rfl⟩ : ∃ l : List Int, l = x2 := ⟨_, rfl⟩
  have hb2 : Byt l := kv_byt hw2
  have ly2 : n2 ≤ 140737488351232 := by have := y2.1; omega
  have HR := hid (fun L => Rb.came (L := L) hr2)
  have HN := hid hn2
  have B0 := hid b0
  have B1 := hid b1
  clear s2 y0 y1 y2 hs0 hs0' hs1 hs1' hw2 hr2 b0 b1
  have hL : l.length ≤ 140737488355328 := by omega
  have hgl := grN_le l
  have hdl : ((l.drop (grN l)).length : Int) = n2 - grN l := by rw [List.length_drop]; omega
  have h3 : ∀ {w' : World} {L' : List Asr} {g : Nat}, Sep w w' (fun _ => False) (Go.Proofs.Ytgepekailoopeaa.tape g l :: L') → Calls Try.prog 32 #[.pointer (some ⟨g, 0, none⟩)] w' fun e w2 => e = .returned (.tuple #[.int .u16 (grF l), .bool (decide ((0 : Int) < (grN l : Nat))), .int .i64 (grE l)]) ∧ Sep w w2 (fun _ => False) (Go.Proofs.Ytgepekailoopeaa.tape g (l.drop (grN l)) :: L') := fun H => greeted_calls H hb2 hL
  have h4 : ∀ {w' : World} {L' : List Asr}, Sep w w' (fun _ => False) L' → Calls Try.prog 33 #[.slice A2 n2 c2] w' fun e w2 => e = .returned (.tuple #[.int .u16 (grF l), .int .i64 (grN l : Nat), .int .i64 (grE l)]) ∧ w' = w2 := fun H => rgreeted_calls H (HR.out _) hb2 hc2
  generalize grF l = gf at h3 h4
  generalize grE l = ge at h3 h4
  generalize grN l = gn at h3 h4 hgl hdl
  generalize hl2 : l.drop gn = l2 at h3 hdl
  have HL2 := hid hl2
  clear hl2
  have H3 := hid @h3
  have H4 := hid @h4
  clear h3 h4
  have HB := hid hb2
  have HS := Sep.start w
  have i4 : IntKind.i64.wrap ((n2 : Int) - gn) = l2.length := by rw [IntKind.wrap_i64]; omega
  clear hn2 hb2 hdl hgl
  go_enter Try.func5, Try.ntmps5
  go_wp2_with fail
  refine (ltape_calls HS (HR.out _) hL).mono ?_
  rintro e w1 ⟨g1, rfl, HS1⟩
  go_wp2_with fail
  refine (ltape_calls HS1 (HR.out _) hL).mono ?_
  rintro e w2 ⟨g2, rfl, HS2⟩
  go_wp2_with fail
  refine (H3.out HS2.up1).mono ?_
  rintro e w3 ⟨rfl, HS3⟩
  go_wp2_with fail
  refine (H4.out HS3).mono ?_
  rintro e w4 ⟨rfl, rfl⟩
  go_wp2_with fail
  refine (len_calls HS3).mono ?_
  rintro e w4 ⟨rfl, rfl⟩
  go_wp2_with fail
  refine (takeflags_calls HS3.up1 HB.out hL).mono ?_
  rintro e w5 ⟨he, HS5⟩
  by_cases h4 : 4 ≤ n2
  · obtain ⟨ad, _, rfl, _⟩ := (HR.out (Go.Proofs.Ytgepekailoopeaa.tape g2 l :: [])).elemn HS2.up1.drop (j := 0) (by omega)
    have t0 : tfN l = 4 := by unfold tfN; rw [if_neg (by have := HN.out; omega)]
    have t1 : tfF l = fN l 0 4 := by unfold tfF; rw [if_neg (by have := HN.out; omega)]
    have hz : ((l.drop 4).length : Int) = n2 - 4 := by have := HN.out; rw [List.length_drop]; omega
    have i5 : IntKind.i64.wrap ((n2 : Int) - 4) = (l.drop 4).length := by rw [hz, IntKind.wrap_i64]; omega
    rw [t0, t1] at he
    rw [t0] at HS5
    have hnum := rnum_head (c := c2) HS5 (HR.out _) HB.out h4 (by decide)
    have hfb := fN_bd HB.out 0 4
    rw [show (256 : Int) ^ 4 = 4294967296 from rfl] at hfb
    generalize fN l 0 4 = fc at he hnum hfb
    generalize l.drop 4 = l4 at HS5 i5 hz
    obtain ⟨f0, f1⟩ := hfb
    have i6 : IntKind.u64.wrap fc = fc := by rw [IntKind.wrap_u64]; omega
    subst he
    have h4I : (4 : Int) ≤ n2 := by omega
    have h4c : (4 : Int) ≤ c2 := by omega
    clear t0 t1 HS1 HS2 HS3 HS
    go_wp2_with fail
    refine hnum.mono ?_
    rintro e w6 ⟨rfl, rfl⟩
    go_wp2_with fail
    refine (len_calls HS5).mono ?_
    rintro e w6 ⟨rfl, rfl⟩
    clear hnum i4 i5 i6 f0 f1
    go_upto_region 9 with (fail)
    clear hz
    have HD : Sep w w5.drew (fun _ => False) [] := HS5.drew.drop.drop
    clear HS5
    have i7 : IntKind.u64.wrap a1 = a1 := by have := B1.out; rw [IntKind.wrap_u64]; omega
    go_region_with (first
      | (go_at_call 36; refine (greet_calls (fl := a0) HD B0.out.1 (by have := B0.out.2; omega)).mono ?_; rintro e w11 ⟨A11, c11, rfl, HD1⟩; have hcv11 := run_str (P := Try.prog) (c := c11) (Rb.i0.read HD1) 23 9 5 Try.underlying23 Try.underlying5 Try.underlying9)
      | (go_at_call 37; refine (rgreet_calls (fl := a0) HD1 B0.out.1 (by have := B0.out.2; omega)).mono ?_; rintro e w12 ⟨A12, c12, rfl, HD2⟩; have hcv12 := run_str (P := Try.prog) (c := c12) (Rb.i0.read HD2) 23 9 5 Try.underlying23 Try.underlying5 Try.underlying9; have hcw12 := run_str (P := Try.prog) (c := c11) (Rb.i1.read HD2) 23 9 5 Try.underlying23 Try.underlying5 Try.underlying9)
      | (go_at_call 38; refine (putflags_calls (fl := a1) HD2 B1.out.1 (by have := B1.out.2; omega)).mono ?_; rintro e w13 ⟨A13, c13, rfl, HD3⟩; have hcv13 := run_str (P := Try.prog) (c := c13) (Rb.i0.read HD3) 23 9 5 Try.underlying23 Try.underlying5 Try.underlying9)
      | (go_at_call 39; refine (rbytes_calls (x := a1) (s := 4) HD3 (by decide) (by decide) B1.out.1 (by have := B1.out.2; omega)).mono ?_; rintro e w14 ⟨A14, c14, rfl, HD4⟩; have hcv14 := run_str (P := Try.prog) (c := c14) (Rb.i0.read HD4) 23 9 5 Try.underlying23 Try.underlying5 Try.underlying9; have hcw14 := run_str (P := Try.prog) (c := c13) (Rb.i1.read HD4) 23 9 5 Try.underlying23 Try.underlying5 Try.underlying9)
      | (go_at_call 26; refine (wakes_calls HD4).mono ?_; rintro e w15 ⟨rfl, HD5⟩))
    all_goals
      go_wp2
      go_ret
      exact ⟨rfl, HD5.below⟩
  · have t0 : tfN l = 0 := by unfold tfN; rw [if_pos (by have := HN.out; omega)]
    have t1 : tfF l = 0 := by unfold tfF; rw [if_pos (by have := HN.out; omega)]
    have hz : (l.length : Int) = n2 := by have := HN.out; omega
    rw [t0, t1, show decide ((0 : Int) < ((0 : Nat) : Int)) = false from by decide] at he
    rw [t0, List.drop_zero] at HS5
    subst he
    have h4I : ¬ (4 : Int) ≤ n2 := by omega
    clear t0 t1 HS1 HS2 HS3 HS
    go_wp2_with fail
    refine (len_calls HS5).mono ?_
    rintro e w6 ⟨rfl, rfl⟩
    clear i4
    go_upto_region 9 with (fail)
    clear hz
    have HD : Sep w w5.drew (fun _ => False) [] := HS5.drew.drop.drop
    clear HS5
    have i7 : IntKind.u64.wrap a1 = a1 := by have := B1.out; rw [IntKind.wrap_u64]; omega
    go_region_with (first
      | (go_at_call 36; refine (greet_calls (fl := a0) HD B0.out.1 (by have := B0.out.2; omega)).mono ?_; rintro e w11 ⟨A11, c11, rfl, HD1⟩; have hcv11 := run_str (P := Try.prog) (c := c11) (Rb.i0.read HD1) 23 9 5 Try.underlying23 Try.underlying5 Try.underlying9)
      | (go_at_call 37; refine (rgreet_calls (fl := a0) HD1 B0.out.1 (by have := B0.out.2; omega)).mono ?_; rintro e w12 ⟨A12, c12, rfl, HD2⟩; have hcv12 := run_str (P := Try.prog) (c := c12) (Rb.i0.read HD2) 23 9 5 Try.underlying23 Try.underlying5 Try.underlying9; have hcw12 := run_str (P := Try.prog) (c := c11) (Rb.i1.read HD2) 23 9 5 Try.underlying23 Try.underlying5 Try.underlying9)
      | (go_at_call 38; refine (putflags_calls (fl := a1) HD2 B1.out.1 (by have := B1.out.2; omega)).mono ?_; rintro e w13 ⟨A13, c13, rfl, HD3⟩; have hcv13 := run_str (P := Try.prog) (c := c13) (Rb.i0.read HD3) 23 9 5 Try.underlying23 Try.underlying5 Try.underlying9)
      | (go_at_call 39; refine (rbytes_calls (x := a1) (s := 4) HD3 (by decide) (by decide) B1.out.1 (by have := B1.out.2; omega)).mono ?_; rintro e w14 ⟨A14, c14, rfl, HD4⟩; have hcv14 := run_str (P := Try.prog) (c := c14) (Rb.i0.read HD4) 23 9 5 Try.underlying23 Try.underlying5 Try.underlying9; have hcw14 := run_str (P := Try.prog) (c := c13) (Rb.i1.read HD4) 23 9 5 Try.underlying23 Try.underlying5 Try.underlying9)
      | (go_at_call 26; refine (wakes_calls HD4).mono ?_; rintro e w15 ⟨rfl, HD5⟩))
    all_goals
      go_wp2
      go_ret
      exact ⟨rfl, HD5.below⟩
end
end Go.Proofs.Ytgepekailoopeaa
