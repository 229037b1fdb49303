/-
  The walk of HelloExports.
-/
import Derived.Test.YtgepekailoopeaaLaw22
import Derived.Test.YtgepekailoopeaaHel6
import Derived.Test.YtgepekailoopeaaView
import Derived.Deep.DeepCutAuto
import Derived.Deep.RegionHeldLaw
namespace Go.Proofs.Ytgepekailoopeaa
open Go.RowKit
set_option linter.unusedVariables false
set_option linter.unusedSimpArgs false
theorem expN_le (l : List Int) (b : Bool) : expN l b ≤ l.length := by unfold expN; split <;> omega

set_option maxHeartbeats 40000000 in
set_option maxRecDepth 100000 in
theorem exports_true (a0 : Int) (a1 : Int) (A3 : Option Addr) (n3 c3 : Nat) (l : List Int) (w : World) (B0 : Aside (0 ≤ a0 ∧ a0 < 18446744073709551616)) (B1 : Aside (0 ≤ a1 ∧ a1 < 65536)) (hn3 : n3 = l.length) (HR : Aside (∀ L, Rb w (fun _ => False) L 1 A3 n3 (by8 l))) (hb : Byt l) (ly : n3 ≤ 140737488351232) (hc3 : n3 ≤ c3) :
    Calls Try.prog 6 #[.int .u64 a0, .int .u16 a1, .bool true, .slice A3 n3 c3] w fun e w' => e = .returned (.bool true) ∧ Below w.heap.size w w' := by
  have hL : l.length ≤ 140737488355328 := by omega
  have hgl := expN_le l true
  have hdl : ((l.drop (expN l true)).length : Int) = n3 - expN l true := by rw [List.length_drop]; omega
  have h3 : ∀ {w' : World} {L' : List Asr} {g : Nat}, Sep w w' (fun _ => False) (Go.Proofs.Ytgepekailoopeaa.tape g l :: L') → Calls Try.prog 40 #[.pointer (some ⟨g, 0, none⟩), .bool true] w' fun e w2 => e = .returned (.tuple #[.int .u64 (expS l true), .int .u16 (expF l true), .bool (decide ((0 : Int) < (expN l true : Nat)))]) ∧ Sep w w2 (fun _ => False) (Go.Proofs.Ytgepekailoopeaa.tape g (l.drop (expN l true)) :: L') := fun H => hTakeExport_true H hb hL
  have h4 : ∀ {w' : World} {L' : List Asr}, Sep w w' (fun _ => False) L' → Calls Try.prog 41 #[.slice A3 n3 c3, .bool true] w' fun e w2 => e = .returned (.tuple #[.int .u64 (expS l true), .int .u16 (expF l true), .int .i64 (expN l true : Nat)]) ∧ Sep w w2 (fun _ => False) L' := fun H => rTakeExport_true H (HR.out _) hb hc3
  obtain ⟨X, hX⟩ : ∃ X, X = expL a0 a1 true := ⟨_, rfl⟩
  have h5 : ∀ {w' : World} {L' : List Asr}, Sep w w' (fun _ => False) L' → Calls Try.prog 42 #[.int .u64 a0, .int .u16 a1, .bool true] w' fun e w2 => ∃ A' c', e = .returned (.slice A' 134 c') ∧ Sep w w2 (fun _ => False) (own 5 1 A' 134 c' (by8 X) :: L') := by rw [hX]; exact fun H => hPutExport_true H B0.out.1 B0.out.2 B1.out.1 B1.out.2
  have h6 : ∀ {w' : World} {L' : List Asr}, Sep w w' (fun _ => False) L' → Calls Try.prog 43 #[.int .u64 a0, .int .u16 a1, .bool true] w' fun e w2 => ∃ A' c', e = .returned (.slice A' 134 c') ∧ Sep w w2 (fun _ => False) (own 5 1 A' 134 c' (by8 X) :: L') := by rw [hX]; exact fun H => rPutExport_true H B0.out.1 B0.out.2 B1.out.1 B1.out.2
  have H5 := hid @h5
  have H6 := hid @h6
  clear h5 h6 hX
  obtain ⟨sx, hsx⟩ : ∃ sx, sx = strOfNums X := ⟨_, rfl⟩
  have HSX := hid hsx
  clear hsx
  obtain ⟨GB, hGB⟩ : ∃ GB : Bool, GB = decide ((0 : Int) < (expN l true : Nat)) := ⟨_, rfl⟩
  rw [← hGB] at h3
  generalize expS l true = gf at h3 h4
  generalize expF l true = ge at h3 h4
  generalize expN l true = gn at h3 h4 hgl hdl hGB
  have hGB' : decide ((0 : Int) < (gn : Nat)) = GB := hGB.symm
  have hGB2 : decide (0 < gn) = GB := by rw [hGB]; exact decide_eq_decide.2 (by omega)
  clear hGB
  generalize hl2 : l.drop gn = l2 at h3 hdl
  clear hl2
  have H3 := hid @h3
  have H4 := hid @h4
  clear h3 h4
  have HS := Sep.start w
  have i4 : IntKind.i64.wrap ((n3 : Int) - gn) = l2.length := by rw [IntKind.wrap_i64]; omega
  clear hn3 hb hdl hgl
  go_enter Try.func6, Try.ntmps6
  go_wp2_with fail
  refine (ltape_calls HS (HR.out _) hL).mono ?_
  rintro e w1 ⟨g1, rfl, HS1⟩
  go_wp2_with fail
  refine (H3.out HS1).mono ?_
  rintro e w3 ⟨rfl, HS3⟩
  go_wp2_with fail
  refine (H4.out HS3).mono ?_
  rintro e w4 ⟨rfl, HS4⟩
  have HD := HS4.drew
  clear HS HS1 HS3 HS4
  go_upto_region 4 with (fail)
  go_region_held_law (fun _ => True) (trivial) (first
    | (go_at_call 42; refine (H5.out HD).mono ?_; rintro e w11 ⟨A11, c11, rfl, HD1⟩; have hcv11 := run_str (P := Try.prog) (c := c11) (Rb.i0.read HD1) 23 9 5 Try.underlying23 Try.underlying5 Try.underlying9; rw [← HSX.out] at hcv11)
    | (go_at_call 43; refine (H6.out HD1).mono ?_; rintro e w12 ⟨A12, c12, rfl, HD2⟩; have hcv12 := run_str (P := Try.prog) (c := c12) (Rb.i0.read HD2) 23 9 5 Try.underlying23 Try.underlying5 Try.underlying9; rw [← HSX.out] at hcv12; have hcw12 := run_str (P := Try.prog) (c := c11) (Rb.i1.read HD2) 23 9 5 Try.underlying23 Try.underlying5 Try.underlying9; rw [← HSX.out] at hcw12)
    | (go_at_call 22; refine (len_calls HD2.up2).mono ?_; rintro e w14 ⟨rfl, rfl⟩)
    | (go_at_call 26; refine (wakes_calls HD2).mono ?_; rintro e w15 ⟨rfl, HD5⟩))
  all_goals
    go_wp2
    go_ret
    exact ⟨rfl, HD5.below⟩

set_option maxHeartbeats 40000000 in
set_option maxRecDepth 100000 in
theorem exports_false (a0 : Int) (a1 : Int) (A3 : Option Addr) (n3 c3 : Nat) (l : List Int) (w : World) (B0 : Aside (0 ≤ a0 ∧ a0 < 18446744073709551616)) (B1 : Aside (0 ≤ a1 ∧ a1 < 65536)) (hn3 : n3 = l.length) (HR : Aside (∀ L, Rb w (fun _ => False) L 1 A3 n3 (by8 l))) (hb : Byt l) (ly : n3 ≤ 140737488351232) (hc3 : n3 ≤ c3) :
    Calls Try.prog 6 #[.int .u64 a0, .int .u16 a1, .bool false, .slice A3 n3 c3] w fun e w' => e = .returned (.bool true) ∧ Below w.heap.size w w' := by
  have hL : l.length ≤ 140737488355328 := by omega
  have hgl := expN_le l false
  have hdl : ((l.drop (expN l false)).length : Int) = n3 - expN l false := by rw [List.length_drop]; omega
  have h3 : ∀ {w' : World} {L' : List Asr} {g : Nat}, Sep w w' (fun _ => False) (Go.Proofs.Ytgepekailoopeaa.tape g l :: L') → Calls Try.prog 40 #[.pointer (some ⟨g, 0, none⟩), .bool false] w' fun e w2 => e = .returned (.tuple #[.int .u64 (expS l false), .int .u16 (expF l false), .bool (decide ((0 : Int) < (expN l false : Nat)))]) ∧ Sep w w2 (fun _ => False) (Go.Proofs.Ytgepekailoopeaa.tape g (l.drop (expN l false)) :: L') := fun H => hTakeExport_false H hb hL
  have h4 : ∀ {w' : World} {L' : List Asr}, Sep w w' (fun _ => False) L' → Calls Try.prog 41 #[.slice A3 n3 c3, .bool false] w' fun e w2 => e = .returned (.tuple #[.int .u64 (expS l false), .int .u16 (expF l false), .int .i64 (expN l false : Nat)]) ∧ Sep w w2 (fun _ => False) L' := fun H => rTakeExport_false H (HR.out _) hb hc3
  obtain ⟨X, hX⟩ : ∃ X, X = expL a0 a1 false := ⟨_, rfl⟩
  have h5 : ∀ {w' : World} {L' : List Asr}, Sep w w' (fun _ => False) L' → Calls Try.prog 42 #[.int .u64 a0, .int .u16 a1, .bool false] w' fun e w2 => ∃ A' c', e = .returned (.slice A' 10 c') ∧ Sep w w2 (fun _ => False) (own 5 1 A' 10 c' (by8 X) :: L') := by rw [hX]; exact fun H => hPutExport_false H B0.out.1 B0.out.2 B1.out.1 B1.out.2
  have h6 : ∀ {w' : World} {L' : List Asr}, Sep w w' (fun _ => False) L' → Calls Try.prog 43 #[.int .u64 a0, .int .u16 a1, .bool false] w' fun e w2 => ∃ A' c', e = .returned (.slice A' 10 c') ∧ Sep w w2 (fun _ => False) (own 5 1 A' 10 c' (by8 X) :: L') := by rw [hX]; exact fun H => rPutExport_false H B0.out.1 B0.out.2 B1.out.1 B1.out.2
  have H5 := hid @h5
  have H6 := hid @h6
  clear h5 h6 hX
  obtain ⟨sx, hsx⟩ : ∃ sx, sx = strOfNums X := ⟨_, rfl⟩
  have HSX := hid hsx
  clear hsx
  obtain ⟨GB, hGB⟩ : ∃ GB : Bool, GB = decide ((0 : Int) < (expN l false : Nat)) := ⟨_, rfl⟩
  rw [← hGB] at h3
  generalize expS l false = gf at h3 h4
  generalize expF l false = ge at h3 h4
  generalize expN l false = gn at h3 h4 hgl hdl hGB
  have hGB' : decide ((0 : Int) < (gn : Nat)) = GB := hGB.symm
  have hGB2 : decide (0 < gn) = GB := by rw [hGB]; exact decide_eq_decide.2 (by omega)
  clear hGB
  generalize hl2 : l.drop gn = l2 at h3 hdl
  clear hl2
  have H3 := hid @h3
  have H4 := hid @h4
  clear h3 h4
  have HS := Sep.start w
  have i4 : IntKind.i64.wrap ((n3 : Int) - gn) = l2.length := by rw [IntKind.wrap_i64]; omega
  clear hn3 hb hdl hgl
  go_enter Try.func6, Try.ntmps6
  go_wp2_with fail
  refine (ltape_calls HS (HR.out _) hL).mono ?_
  rintro e w1 ⟨g1, rfl, HS1⟩
  go_wp2_with fail
  refine (H3.out HS1).mono ?_
  rintro e w3 ⟨rfl, HS3⟩
  go_wp2_with fail
  refine (H4.out HS3).mono ?_
  rintro e w4 ⟨rfl, HS4⟩
  have HD := HS4.drew
  clear HS HS1 HS3 HS4
  go_upto_region 4 with (fail)
  go_region_held_law (fun _ => True) (trivial) (first
    | (go_at_call 42; refine (H5.out HD).mono ?_; rintro e w11 ⟨A11, c11, rfl, HD1⟩; have hcv11 := run_str (P := Try.prog) (c := c11) (Rb.i0.read HD1) 23 9 5 Try.underlying23 Try.underlying5 Try.underlying9; rw [← HSX.out] at hcv11)
    | (go_at_call 43; refine (H6.out HD1).mono ?_; rintro e w12 ⟨A12, c12, rfl, HD2⟩; have hcv12 := run_str (P := Try.prog) (c := c12) (Rb.i0.read HD2) 23 9 5 Try.underlying23 Try.underlying5 Try.underlying9; rw [← HSX.out] at hcv12; have hcw12 := run_str (P := Try.prog) (c := c11) (Rb.i1.read HD2) 23 9 5 Try.underlying23 Try.underlying5 Try.underlying9; rw [← HSX.out] at hcw12)
    | (go_at_call 22; refine (len_calls HD2.up2).mono ?_; rintro e w14 ⟨rfl, rfl⟩)
    | (go_at_call 26; refine (wakes_calls HD2).mono ?_; rintro e w15 ⟨rfl, HD5⟩))
  all_goals
    go_wp2
    go_ret
    exact ⟨rfl, HD5.below⟩

theorem helloExports_walk (a0 : Int) (a1 : Int) (a2 : Bool) (A3 : Option Addr) (n3 c3 : Nat) (x0 : Sh.V (.int .u64)) (x1 : Sh.V (.int .u16)) (x2 : Sh.V .bool) (x3 : Sh.V (.slice (.int .u8) 1)) (w : World) (s0 : Sees w.heap (.int .u64) [.int .u64 a0] x0) (s1 : Sees w.heap (.int .u16) [.int .u16 a1] x1) (s2 : Sees w.heap .bool [.bool a2] x2) (s3 : Sees w.heap (.slice (.int .u8) 1) [.slice A3 n3 c3] x3) (y0 : Light (.int .u64) x0) (y1 : Light (.int .u16) x1) (y2 : Light .bool x2) (y3 : Light (.slice (.int .u8) 1) x3) :
    Calls Try.prog 6 #[.int .u64 a0, .int .u16 a1, .bool a2, .slice A3 n3 c3] w fun e w' => e = .returned (.bool true) ∧ Below w.heap.size w w' := by
  obtain ⟨hs0, hs0'⟩ := s0
  have ha0 : a0 = x0 := by injection hs0 with hs0 _; injection hs0
  subst ha0
  have b0 := bounds_u64 hs0'
  obtain ⟨hs1, hs1'⟩ := s1
  have ha1 : a1 = x1 := by injection hs1 with hs1 _; injection hs1
  subst ha1
  have b1 := bounds_u16 hs1'
  obtain ⟨hn3, hr3, hc3, _, hw3⟩ := sees_ints s3
  obtain ⟨l, rfl⟩ : ∃ l : List Int, l = x3 := ⟨_, rfl⟩
  have ly3 : n3 ≤ 140737488351232 := by have := y3.1; omega
  cases a2
  · exact exports_false a0 a1 A3 n3 c3 l w (hid ⟨by omega, by omega⟩) (hid ⟨by omega, by omega⟩) hn3 (hid (fun L => Rb.came (L := L) hr3)) (kv_byt hw3) ly3 hc3
  · exact exports_true a0 a1 A3 n3 c3 l w (hid ⟨by omega, by omega⟩) (hid ⟨by omega, by omega⟩) hn3 (hid (fun L => Rb.came (L := L) hr3)) (kv_byt hw3) ly3 hc3
end Go.Proofs.Ytgepekailoopeaa
