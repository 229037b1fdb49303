/-
  hello.Answers, whole.
-/
import Derived.Test.YtgepekailoopeaaHelG
namespace Go.Proofs.Ytgepekailoopeaa
open Go.RowKit
set_option linter.unusedVariables false
set_option linter.unusedSimpArgs false
section
variable {w0 w : World} {O : Nat → Prop} {L : List Asr}
theorem answers_calls {op : Int} {wn : ByteArray} {Ai A : Option Addr} {ni ci n c : Nat} {vs : List Vol} {inf : List Int} (HS : Sep w0 w O L) (hr : Rb w0 O L 6 A n (vrow vs)) (hvn : vs.length = n) (hn : n ≤ 2513169434843) (hok : ∀ v ∈ vs, v.Ok)
    (hri : Rb w0 O L 1 Ai ni (kv .u16 inf)) (hni : ni ≤ 70368744177664) :
    Calls Try.prog 28 #[.agg #[.int .u32 op, .string wn, .slice Ai ni ci], .slice A n c] w (RpOut w0 O (ansR op wn inf vs) L) := by
  by_cases h3 : op = 3
  · subst h3
    rw [show ansR 3 wn inf vs = namR 3 vs ++ [(3, 1, [])] from if_pos rfl]
    exact answers_list HS hr hvn hn
  by_cases h6 : op = 6
  · subst h6
    rw [show ansR 6 wn inf vs = (match (vPos vs wn).bind (fun k => vs[k]?) with
      | none => [(6, 2147483654, [])]
      | some v => expR 6 v.nm v.size v.fixed inf ++ [(6, 1, [])]) from by unfold ansR; rw [if_neg (by decide), if_pos (by decide)]; rfl]
    rcases hp : vPos vs wn with _ | p
    · exact answers_miss6 HS hr hvn hn hp
    · obtain ⟨hlt, -⟩ := List.findIdx?_eq_some_iff_getElem.1 hp
      have hv : vs[p]? = some vs[p] := List.getElem?_eq_getElem hlt
      simp only [Option.bind_some, hv]
      exact answers_hit6 HS hr hvn hn hp hv (hok _ (List.getElem_mem hlt)) hri hni
  by_cases h7 : op = 7
  · subst h7
    rw [show ansR 7 wn inf vs = (match (vPos vs wn).bind (fun k => vs[k]?) with
      | none => [(7, 2147483654, [])]
      | some v => expR 7 v.nm v.size v.fixed inf ++ [(7, 1, [])]) from by unfold ansR; rw [if_neg (by decide), if_pos (by decide)]; rfl]
    rcases hp : vPos vs wn with _ | p
    · exact answers_miss7 HS hr hvn hn hp
    · obtain ⟨hlt, -⟩ := List.findIdx?_eq_some_iff_getElem.1 hp
      have hv : vs[p]? = some vs[p] := List.getElem?_eq_getElem hlt
      simp only [Option.bind_some, hv]
      exact answers_hit7 HS hr hvn hn hp hv (hok _ (List.getElem_mem hlt)) hri hni
  by_cases h2 : op = 2
  · subst h2
    rw [show ansR 2 wn inf vs = [(2, 1, [])] from by unfold ansR; rw [if_neg (by decide), if_neg (by decide), if_pos rfl]]
    exact answers_two HS
  · rw [show ansR op wn inf vs = [] from by unfold ansR; rw [if_neg h3, if_neg (by omega), if_neg h2]]
    exact answers_none HS h2 h3 h6 h7
end
end Go.Proofs.Ytgepekailoopeaa
