/-
  Contract of order.Tape's Numbers.
-/
import Derived.Test.YtgepekailoopeaaOrdC
import Derived.Deep.RegionLaw
import Derived.Deep.AppendLies
namespace Go.Proofs.Ytgepekailoopeaa
open Go.RowKit
set_option linter.unusedVariables false
set_option linter.unusedSimpArgs false

abbrev iv (l : List Int) : List Value := kv .i64 l
abbrev uv (l : List Int) : List Value := kv .u64 l
theorem uv_one (l : List Int) : ∀ u ∈ uv l, u.oneCell' = true := kv_one _ _
theorem uv_append (a b : List Int) : uv a ++ uv b = uv (a ++ b) := kv_append _ _ _
theorem info_u64 : (Try.prog.info? 58).map (fun i => (i.zero, i.size, i.bytes)) = some (some (.int .u64 0), 1, 8) := by kernel_rfl

/-- numbers of some sizes, one behind the other -/
def cut (l : List Int) : List Nat → List Int
  | [] => []
  | s :: ss => num (l.take s) :: cut (l.drop s) ss
def tot (ss : List Nat) : Nat := ss.foldr (· + ·) 0
theorem cut_len (ss : List Nat) : ∀ l, (cut l ss).length = ss.length := by
  induction ss with
  | nil => intro l; rfl
  | cons s ss ih => intro l; simp [cut, ih]
theorem tot_append (a b : List Nat) : tot (a ++ b) = tot a + tot b := by
  induction a with
  | nil => simp [tot]
  | cons x a ih => simp [tot] at ih ⊢; omega
theorem cut_append (a b : List Nat) : ∀ l, cut l (a ++ b) = cut l a ++ cut (l.drop (tot a)) b := by
  induction a with
  | nil => intro l; simp [cut, tot]
  | cons x a ih => intro l; simp [cut, ih, tot, List.drop_drop]
theorem cut_next (l : List Int) (ss : List Nat) (k : Nat) (hk : k < ss.length) :
    cut l (ss.take (k + 1)) = cut l (ss.take k) ++ [num ((l.drop (tot (ss.take k))).take ss[k])] := by
  rw [List.take_succ_eq_append_getElem hk, cut_append]; rfl
theorem tot_next (ss : List Nat) (k : Nat) (hk : k < ss.length) : tot (ss.take (k + 1)) = tot (ss.take k) + ss[k] := by
  rw [List.take_succ_eq_append_getElem hk, tot_append]; simp [tot]
theorem tot_le (ss : List Nat) (k : Nat) : tot (ss.take k) ≤ tot ss := by
  have := tot_append (ss.take k) (ss.drop k)
  rw [List.take_append_drop] at this
  omega
theorem tot_bd (ss : List Nat) (h : ∀ s ∈ ss, s ≤ 8) : tot ss ≤ 8 * ss.length := by
  induction ss with
  | nil => simp [tot]
  | cons s ss ih =>
    have h1 := ih fun x hx => h x (List.mem_cons_of_mem _ hx)
    have h2 := h s (by simp)
    simp [tot] at h1 ⊢; omega

theorem cut_take (ss : List Nat) : ∀ (l : List Int) (n : Nat), tot ss ≤ n → cut (l.take n) ss = cut l ss := by
  induction ss with
  | nil => intro l n _; rfl
  | cons s ss ih =>
    intro l n h
    have e : tot (s :: ss) = s + tot ss := rfl
    rw [e] at h
    simp only [cut, List.take_take, List.drop_take, Nat.min_eq_left (show s ≤ n by omega)]
    rw [ih _ _ (by omega)]

section
variable {w0 w : World} {O : Nat → Prop} {L : List Asr}

/-- the first loop: the sizes are right; their sum -/
def Sizes (A : Option Addr) (w0 : World) (O : Nat → Prop) (L : List Asr) (ss : List Nat) : Prop :=
  Rb w0 O L 1 A ss.length (iv (ss.map Int.ofNat)) ∧ (∀ s ∈ ss, 1 ≤ s ∧ s ≤ 8) ∧ ss.length ≤ 17592186044416

set_option maxHeartbeats 1000000 in
set_option maxRecDepth 100000 in
theorem numbers_peek {g : Nat} {l : List Int} {A : Option Addr} {c : Nat} {ss : List Nat} (HS : Sep w0 w O (Go.Proofs.Ytgepekailoopeaa.tape g l :: L)) (hz : Sizes A w0 O L ss) (hb : Byt l) (ht : tot ss ≤ l.length) (hl : l.length ≤ 140737488355328) :
    Calls Try.prog 74 #[.pointer (some ⟨g, 0, none⟩), .bool false, .slice A ss.length c] w fun e w' =>
      ∃ A' c', e = .returned (.tuple #[.slice A' ss.length c', .bool true]) ∧ Sep w0 w' O (own 58 1 A' ss.length c' (uv (cut l ss)) :: Go.Proofs.Ytgepekailoopeaa.tape g l :: L) := by
  obtain ⟨i0, hi0, hz0, hz1, hz2⟩ := info_parts info_u64
  obtain ⟨hr, h18, hlen⟩ := hz
  have hrr := hr.cons (P := Go.Proofs.Ytgepekailoopeaa.tape g l)
  have htot := tot_bd ss fun s hs => (h18 s hs).2
  have hread : ∀ k, (hk : k < ss.length) → ∃ ad, A = some ad ∧ w.cell? (ad.add k) = some (.int .i64 (ss[k] : Nat)) := by
    intro k hk
    obtain ⟨ad, u, hA, hu, hc⟩ := hrr.at_ HS hk
    refine ⟨ad, hA, ?_⟩
    have : (iv (ss.map Int.ofNat))[k]? = some (.int .i64 (ss[k] : Nat)) := by simp [kv, hk]
    rw [this] at hu; injection hu with hu; rw [hc, hu]
  have HR := hid hread
  clear hread
  go_enter Try.func74, Try.ntmps74
  go_wp2
  go_loop [9, 22] (fun a i => ∃ k : Nat, k ≤ ss.length ∧ i = .int .i64 k ∧ a = .int .i64 (tot (ss.take k))) (fun _ i => ss.length - (intOf i).toNat)
  case atStart => exact ⟨0, Nat.zero_le _, rfl, rfl⟩
  case round =>
    obtain ⟨k, hk, rfl, rfl⟩ := hrel
    by_cases hlt : k < ss.length
    · obtain ⟨ad, rfl, hcell⟩ := HR.out k hlt
      have hsk := h18 ss[k] (List.getElem_mem _)
      have HT := hid (tot_next ss k hlt)
      have hb1 := tot_le ss k
      generalize ss[k] = s at *
      have hd : decide (1 ≤ (s : Int) ∧ (s : Int) ≤ 8) = true := decide_eq_true (by omega)
      go_wp2_with fail
      refine (right_calls _ _).mono ?_
      rintro e w1 ⟨rfl, rfl⟩
      rw [hd]
      go_wp2
      go_round
      case rel => exact ⟨k + 1, by omega, by go_num, by rw [HT.out]; go_num⟩
      case measure => simp [intOf]; omega
    · obtain rfl : k = ss.length := by omega
      rw [List.take_length]
      clear HR
      go_wp2_with fail
      refine (peek_yes HS ht hl).mono ?_
      rintro e w1 ⟨Ab, cb, rfl, HS1⟩
      clear HS
      go_wp2
      go_loopw [12, 14, 44] (fun b v i wr => ∃ (k nb cb2 c2 : Nat) (Ab2 A2 : Option Addr), k ≤ ss.length ∧ i = .int .i64 k ∧ b = .slice Ab2 nb cb2 ∧ v = .slice A2 k c2 ∧ nb + tot (ss.take k) = tot ss ∧ nb ≤ cb2 ∧
        Rb w0 O (own 5 1 Ab (tot ss) cb (by8 (l.take (tot ss))) :: Go.Proofs.Ytgepekailoopeaa.tape g l :: L) 1 Ab2 nb (by8 ((l.take (tot ss)).drop (tot (ss.take k)))) ∧
        Sep w0 wr O (own 58 1 A2 k c2 (uv (cut (l.take (tot ss)) (ss.take k))) :: own 5 1 Ab (tot ss) cb (by8 (l.take (tot ss))) :: Go.Proofs.Ytgepekailoopeaa.tape g l :: L)) (fun _ _ i _ => ss.length - (intOf i).toNat)
      case atStart => exact ⟨0, tot ss, cb, 0, Ab, none, Nat.zero_le _, rfl, rfl, rfl, by simp [tot], own_le HS1, by simpa [tot] using Rb.i0, by simpa [cut, kv] using HS1.nil 58 1⟩
      case round =>
        obtain ⟨k, nb, cb2, c2, Ab2, A2, hk, rfl, rfl, rfl, hnb, hcb, hrb, HS2⟩ := hrel
        by_cases hlt : k < ss.length
        · have hrs := hrr.cons (P := own 5 1 Ab (tot ss) cb (by8 (l.take (tot ss)))) |>.cons (P := own 58 1 A2 k c2 (uv (cut (l.take (tot ss)) (ss.take k))))
          obtain ⟨ad, u, rfl, hu, hcell⟩ := hrs.at_ HS2 hlt
          have hu' : u = .int .i64 (ss[k] : Nat) := by
            have : (iv (ss.map Int.ofNat))[k]? = some (.int .i64 (ss[k] : Nat)) := by simp [kv, hlt]
            rw [this] at hu; injection hu with hu; exact hu.symm
          subst hu'
          have hsk := h18 ss[k] (List.getElem_mem _)
          have HT := tot_next ss k hlt
          have hb1 := tot_le ss (k + 1)
          have HC := hid (cut_next (l.take (tot ss)) ss k hlt)
          generalize ss[k] = s at *
          have hsn : s ≤ nb := by omega
          have HT' := hid HT
          have HN := hid hnb
          clear HT hnb hu hb1
          go_wp2_with fail
          refine (get_ok HS2 hrb.cons ((hb.take _).drop _) hcb hsk.1 hsk.2 hsn).mono ?_
          rintro e w2 ⟨rfl, rfl⟩
          go_wp2_with fail
          generalize num (List.take s (List.drop (tot (List.take k ss)) (List.take (tot ss) l))) = N at *
          have HL : Sep w0 (wr.alloc (.cells #[.int .u64 N] 58)) O (own 58 1 A2 k c2 (uv (cut (l.take (tot ss)) (ss.take k))) :: own 58 1 (some ⟨wr.heap.size, 0, none⟩) 1 1 (uv [N]) :: own 5 1 Ab (tot ss) cb (by8 (l.take (tot ss))) :: Go.Proofs.Ytgepekailoopeaa.tape g l :: L) := (HS2.lit #[.int .u64 N] 58 1 1 rfl (by decide)).up1
          have hrd := HL.rd1
          go_region_law (first | (refine step_append_sep rfl (.tmp 54) (.tmp 56) 131 rfl 58 i0 _ 1 8 Try.underlying131 hi0 hz0 hz1 hz2 rfl (by decide) rfl HL rfl hrd (uv_one [N]) (by simp only [maxLen]; omega) (by omega) rfl (uv_append _ _) ?_; intro A3 c3 w3 HS3 hsz3))
          go_wp2
          go_roundw
          case rel =>
            refine ⟨k + 1, nb - s, cb2 - s, c3, _, A3, by omega, by go_num, rfl, rfl, by have h1 := HT'.out; have h2 := HN.out; omega, by omega, ?_, ?_⟩
            · have := hrb.tail1 (by have h2 := HN.out; simp [kv]; omega) hsn hcb
              rwa [by8_drop, List.drop_drop, ← HT'.out] at this
            · have := HS3.up1.drop
              rwa [← HC.out] at this
          case measure => simp [intOf]; omega
        · obtain rfl : k = ss.length := by omega
          go_wp2
          go_ret2
          exact ⟨_, _, rfl, by have := HS2.up1.drop; rwa [List.take_length, cut_take _ _ _ (Nat.le_refl _)] at this⟩

set_option maxHeartbeats 1000000 in
set_option maxRecDepth 100000 in
theorem numbers_take {g : Nat} {l : List Int} {A : Option Addr} {c : Nat} {ss : List Nat} (HS : Sep w0 w O (Go.Proofs.Ytgepekailoopeaa.tape g l :: L)) (hz : Sizes A w0 O L ss) (hb : Byt l) (ht : tot ss ≤ l.length) (hl : l.length ≤ 140737488355328) :
    Calls Try.prog 74 #[.pointer (some ⟨g, 0, none⟩), .bool true, .slice A ss.length c] w fun e w' =>
      ∃ A' c', e = .returned (.tuple #[.slice A' ss.length c', .bool true]) ∧ Sep w0 w' O (own 58 1 A' ss.length c' (uv (cut l ss)) :: Go.Proofs.Ytgepekailoopeaa.tape g (l.drop (tot ss)) :: L) := by
  obtain ⟨i0, hi0, hz0, hz1, hz2⟩ := info_parts info_u64
  obtain ⟨hr, h18, hlen⟩ := hz
  have hrr := hr.cons (P := Go.Proofs.Ytgepekailoopeaa.tape g l)
  have htot := tot_bd ss fun s hs => (h18 s hs).2
  have hread : ∀ k, (hk : k < ss.length) → ∃ ad, A = some ad ∧ w.cell? (ad.add k) = some (.int .i64 (ss[k] : Nat)) := by
    intro k hk
    obtain ⟨ad, u, hA, hu, hc⟩ := hrr.at_ HS hk
    refine ⟨ad, hA, ?_⟩
    have : (iv (ss.map Int.ofNat))[k]? = some (.int .i64 (ss[k] : Nat)) := by simp [kv, hk]
    rw [this] at hu; injection hu with hu; rw [hc, hu]
  have HR := hid hread
  clear hread
  go_enter Try.func74, Try.ntmps74
  go_wp2
  go_loop [9, 22] (fun a i => ∃ k : Nat, k ≤ ss.length ∧ i = .int .i64 k ∧ a = .int .i64 (tot (ss.take k))) (fun _ i => ss.length - (intOf i).toNat)
  case atStart => exact ⟨0, Nat.zero_le _, rfl, rfl⟩
  case round =>
    obtain ⟨k, hk, rfl, rfl⟩ := hrel
    by_cases hlt : k < ss.length
    · obtain ⟨ad, rfl, hcell⟩ := HR.out k hlt
      have hsk := h18 ss[k] (List.getElem_mem _)
      have HT := hid (tot_next ss k hlt)
      have hb1 := tot_le ss k
      generalize ss[k] = s at *
      have hd : decide (1 ≤ (s : Int) ∧ (s : Int) ≤ 8) = true := decide_eq_true (by omega)
      go_wp2_with fail
      refine (right_calls _ _).mono ?_
      rintro e w1 ⟨rfl, rfl⟩
      rw [hd]
      go_wp2
      go_round
      case rel => exact ⟨k + 1, by omega, by go_num, by rw [HT.out]; go_num⟩
      case measure => simp [intOf]; omega
    · obtain rfl : k = ss.length := by omega
      rw [List.take_length]
      clear HR
      go_wp2_with fail
      refine (take_yes HS ht hl).mono ?_
      rintro e w1 ⟨Ab, cb, rfl, HS1⟩
      clear HS
      go_wp2
      go_loopw [12, 14, 44] (fun b v i wr => ∃ (k nb cb2 c2 : Nat) (Ab2 A2 : Option Addr), k ≤ ss.length ∧ i = .int .i64 k ∧ b = .slice Ab2 nb cb2 ∧ v = .slice A2 k c2 ∧ nb + tot (ss.take k) = tot ss ∧ nb ≤ cb2 ∧
        Rb w0 O (own 5 1 Ab (tot ss) cb (by8 (l.take (tot ss))) :: Go.Proofs.Ytgepekailoopeaa.tape g (l.drop (tot ss)) :: L) 1 Ab2 nb (by8 ((l.take (tot ss)).drop (tot (ss.take k)))) ∧
        Sep w0 wr O (own 58 1 A2 k c2 (uv (cut (l.take (tot ss)) (ss.take k))) :: own 5 1 Ab (tot ss) cb (by8 (l.take (tot ss))) :: Go.Proofs.Ytgepekailoopeaa.tape g (l.drop (tot ss)) :: L)) (fun _ _ i _ => ss.length - (intOf i).toNat)
      case atStart => exact ⟨0, tot ss, cb, 0, Ab, none, Nat.zero_le _, rfl, rfl, rfl, by simp [tot], own_le HS1, by simpa [tot] using Rb.i0, by simpa [cut, kv] using HS1.nil 58 1⟩
      case round =>
        obtain ⟨k, nb, cb2, c2, Ab2, A2, hk, rfl, rfl, rfl, hnb, hcb, hrb, HS2⟩ := hrel
        by_cases hlt : k < ss.length
        · have hrs := (hr.cons (P := Go.Proofs.Ytgepekailoopeaa.tape g (l.drop (tot ss)))).cons (P := own 5 1 Ab (tot ss) cb (by8 (l.take (tot ss)))) |>.cons (P := own 58 1 A2 k c2 (uv (cut (l.take (tot ss)) (ss.take k))))
          obtain ⟨ad, u, rfl, hu, hcell⟩ := hrs.at_ HS2 hlt
          have hu' : u = .int .i64 (ss[k] : Nat) := by
            have : (iv (ss.map Int.ofNat))[k]? = some (.int .i64 (ss[k] : Nat)) := by simp [kv, hlt]
            rw [this] at hu; injection hu with hu; exact hu.symm
          subst hu'
          have hsk := h18 ss[k] (List.getElem_mem _)
          have HT := tot_next ss k hlt
          have hb1 := tot_le ss (k + 1)
          have HC := hid (cut_next (l.take (tot ss)) ss k hlt)
          generalize ss[k] = s at *
          have hsn : s ≤ nb := by omega
          have HT' := hid HT
          have HN := hid hnb
          clear HT hnb hu hb1
          go_wp2_with fail
          refine (get_ok HS2 hrb.cons ((hb.take _).drop _) hcb hsk.1 hsk.2 hsn).mono ?_
          rintro e w2 ⟨rfl, rfl⟩
          go_wp2_with fail
          generalize num (List.take s (List.drop (tot (List.take k ss)) (List.take (tot ss) l))) = N at *
          have HL : Sep w0 (wr.alloc (.cells #[.int .u64 N] 58)) O (own 58 1 A2 k c2 (uv (cut (l.take (tot ss)) (ss.take k))) :: own 58 1 (some ⟨wr.heap.size, 0, none⟩) 1 1 (uv [N]) :: own 5 1 Ab (tot ss) cb (by8 (l.take (tot ss))) :: Go.Proofs.Ytgepekailoopeaa.tape g (l.drop (tot ss)) :: L) := (HS2.lit #[.int .u64 N] 58 1 1 rfl (by decide)).up1
          have hrd := HL.rd1
          go_region_law (first | (refine step_append_sep rfl (.tmp 54) (.tmp 56) 131 rfl 58 i0 _ 1 8 Try.underlying131 hi0 hz0 hz1 hz2 rfl (by decide) rfl HL rfl hrd (uv_one [N]) (by simp only [maxLen]; omega) (by omega) rfl (uv_append _ _) ?_; intro A3 c3 w3 HS3 hsz3))
          go_wp2
          go_roundw
          case rel =>
            refine ⟨k + 1, nb - s, cb2 - s, c3, _, A3, by omega, by go_num, rfl, rfl, by have h1 := HT'.out; have h2 := HN.out; omega, by omega, ?_, ?_⟩
            · have := hrb.tail1 (by have h2 := HN.out; simp [kv]; omega) hsn hcb
              rwa [by8_drop, List.drop_drop, ← HT'.out] at this
            · have := HS3.up1.drop
              rwa [← HC.out] at this
          case measure => simp [intOf]; omega
        · obtain rfl : k = ss.length := by omega
          go_wp2
          go_ret2
          exact ⟨_, _, rfl, by have := HS2.up1.drop; rwa [List.take_length, cut_take _ _ _ (Nat.le_refl _)] at this⟩

set_option maxHeartbeats 400000 in
theorem numbers_fail {p : Value} {b : Bool} {A : Option Addr} {c : Nat} {ss : List Nat} (HS : Sep w0 w O L) (hz : Sizes A w0 O L ss)
    (hask : Calls Try.prog (if b then 76 else 63) #[p, .int .i64 (tot ss)] w fun e w' => e = .returned (.tuple #[.slice none 0 0, .bool false]) ∧ w = w') :
    Calls Try.prog 74 #[p, .bool b, .slice A ss.length c] w fun e w' => e = .returned (.tuple #[.slice none 0 0, .bool false]) ∧ w = w' := by
  obtain ⟨hr, h18, hlen⟩ := hz
  have htot := tot_bd ss fun s hs => (h18 s hs).2
  have hread : ∀ k, (hk : k < ss.length) → ∃ ad, A = some ad ∧ w.cell? (ad.add k) = some (.int .i64 (ss[k] : Nat)) := by
    intro k hk
    obtain ⟨ad, u, hA, hu, hc⟩ := hr.at_ HS hk
    refine ⟨ad, hA, ?_⟩
    have : (iv (ss.map Int.ofNat))[k]? = some (.int .i64 (ss[k] : Nat)) := by simp [kv, hk]
    rw [this] at hu; injection hu with hu; rw [hc, hu]
  have HR := hid hread
  have HA := hid hask
  clear hread hask
  cases b
  all_goals
    go_enter Try.func74, Try.ntmps74
    go_wp2
    go_loop [9, 22] (fun a i => ∃ k : Nat, k ≤ ss.length ∧ i = .int .i64 k ∧ a = .int .i64 (tot (ss.take k))) (fun _ i => ss.length - (intOf i).toNat)
    case atStart => exact ⟨0, Nat.zero_le _, rfl, rfl⟩
    case round =>
      obtain ⟨k, hk, rfl, rfl⟩ := hrel
      by_cases hlt : k < ss.length
      · obtain ⟨ad, rfl, hcell⟩ := HR.out k hlt
        have hsk := h18 ss[k] (List.getElem_mem _)
        have HT := hid (tot_next ss k hlt)
        have hb1 := tot_le ss k
        generalize ss[k] = s at *
        have hd : decide (1 ≤ (s : Int) ∧ (s : Int) ≤ 8) = true := decide_eq_true (by omega)
        go_wp2_with fail
        refine (right_calls _ _).mono ?_
        rintro e w1 ⟨rfl, rfl⟩
        rw [hd]
        go_wp2
        go_round
        case rel => exact ⟨k + 1, by omega, by go_num, by rw [HT.out]; go_num⟩
        case measure => simp [intOf]; omega
      · obtain rfl : k = ss.length := by omega
        rw [List.take_length]
        go_wp2_with fail
        refine HA.out.mono ?_
        rintro e w1 ⟨rfl, rfl⟩
        go_wp2
        go_ret2
        exact ⟨rfl, rfl⟩

set_option maxHeartbeats 400000 in
/-- a size that may not be -/
theorem numbers_bad {p : Value} {b : Bool} {A : Option Addr} {n c : Nat} {zs : List Int} (HS : Sep w0 w O L) (hr : Rb w0 O L 1 A n (iv zs)) (hlen : n ≤ 17592186044416) (hbad : ∃ z ∈ zs, ¬ (1 ≤ z ∧ z ≤ 8)) :
    Calls Try.prog 74 #[p, .bool b, .slice A n c] w fun e w' => e = .returned (.tuple #[.slice none 0 0, .bool false]) ∧ w = w' := by
  have hzl : zs.length = n := by have := hr.len HS; simpa [kv] using this
  have HR : Aside (∀ k, (hk : k < zs.length) → ∃ ad, A = some ad ∧ w.cell? (ad.add k) = some (.int .i64 zs[k])) := ⟨by
    intro k hk
    obtain ⟨ad, u, hA, hu, hc⟩ := hr.at_ HS (show k < n by omega)
    refine ⟨ad, hA, ?_⟩
    have : (iv zs)[k]? = some (.int .i64 zs[k]) := by simp [kv, hk]
    rw [this] at hu; injection hu with hu; rw [hc, hu]⟩
  have HB := hid hbad
  clear hbad
  cases b
  all_goals
    go_enter Try.func74, Try.ntmps74
    go_wp2
    go_loop [9, 22] (fun a i => ∃ (k : Nat) (t : Int), k < n ∧ i = .int .i64 k ∧ a = .int .i64 t ∧ 0 ≤ t ∧ t ≤ 8 * k ∧ Aside (∀ j, (hj : j < zs.length) → j < k → 1 ≤ zs[j] ∧ zs[j] ≤ 8)) (fun _ i => n - (intOf i).toNat)
    case atStart =>
      refine ⟨0, 0, ?_, rfl, rfl, by omega, by omega, ⟨fun j hj h => absurd h (by omega)⟩⟩
      obtain ⟨z, hz, _⟩ := HB.out
      have := List.length_pos_of_mem hz
      omega
    case round =>
      obtain ⟨k, t, hk, rfl, rfl, ht0, ht1, HG⟩ := hrel
      obtain ⟨ad, rfl, hcell⟩ := HR.out k (by omega)
      by_cases hz : 1 ≤ zs[k] ∧ zs[k] ≤ 8
      · have hd : decide (1 ≤ zs[k] ∧ zs[k] ≤ 8) = true := decide_eq_true hz
        have HG' : Aside (∀ j, (hj : j < zs.length) → j < k + 1 → 1 ≤ zs[j] ∧ zs[j] ≤ 8) := ⟨fun j hj h => by
          rcases Nat.lt_or_ge j k with h1 | h1
          · exact HG.out j hj h1
          · obtain rfl : j = k := by omega
            exact hz⟩
        have hk1 : k + 1 < n := by
          rcases Nat.lt_or_ge (k + 1) n with h1 | h1
          · exact h1
          · obtain ⟨z, hm, hn⟩ := HB.out
            obtain ⟨j, hj, rfl⟩ := List.getElem_of_mem hm
            exact absurd (HG'.out j hj (by omega)) hn
        clear HG
        generalize zs[k] = s at *
        go_wp2_with fail
        refine (right_calls _ _).mono ?_
        rintro e w1 ⟨rfl, rfl⟩
        rw [hd]
        go_wp2
        go_round
        case rel => exact ⟨k + 1, t + s, by omega, by go_num, by go_num, by omega, by omega, HG'⟩
        case measure => simp [intOf]; omega
      · have hd : decide (1 ≤ zs[k] ∧ zs[k] ≤ 8) = false := decide_eq_false hz
        generalize zs[k] = s at *
        go_wp2_with fail
        refine (right_calls _ _).mono ?_
        rintro e w1 ⟨rfl, rfl⟩
        rw [hd]
        go_wp2
        go_ret2
        exact ⟨rfl, rfl⟩
end
end Go.Proofs.Ytgepekailoopeaa
