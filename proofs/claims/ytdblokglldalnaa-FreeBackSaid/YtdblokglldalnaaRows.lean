/-
  No cell of these rows narrows 'for every input' (looked for: loops, veiled, ifaces, maps, wideKeys, modest, calm, conditions, laid).
  DERIVED. THE GIVEN ROWS OF THIS SEAT. 4 by the template 'for every input the law returns true; each argument reads behind the call as it read before'; 0 by the template 'total and deterministic' (their statements: YtdblokglldalnaaTotals.lean).
  GIVEN WITH THE SEED: the statements are not yours to turn. If you find one false, say at which input.
  Laid BY PROGRAM, IN A SANDBOX (cutbox-rows.mjs): the forced cells as the released guide's own fill.sh prints them over the translation ead1f8eb95bc8bfa… (all of the seat's roots in one cut). By AI agents, Wed Nov 11 2026. No macro, syntax, notation, axiom, sorry.
-/
import Derived.Test.YtdblokglldalnaaChecked
import GoSem.Claim
import GoSem.ClaimJoined
import GoSem.ClaimMapViews
import Derived.JoinedTies
import Derived.KernelRfl
namespace Go.Proofs.Ytdblokglldalnaa
/- THE CELL 'sum', in the pinned program and in every row, IS THE sha256 OF THE DUMP (.gsa) THAT YtdblokglldalnaaProg.lean LOADS. Nothing in Lean hashes anything: it is a label: what it is worth is what the hold of that sum in a sandbox is worth. -/
noncomputable def Try.pinned : Pinned := { name := "ytdblokglldalnaa", sum := "ead1f8eb95bc8bfa017bdf45f06d3b2e0e35ace12df8d0f1aa91b08536181406", checked := Try.checked }
namespace Rows
def none {H : Type} : Left H := { results := [], args := [] }

/-- 'cisternlaw06.FreeBack': WHATEVER THE INPUT: true; the input reads as it did. -/
def freeBackSpec : ChangeSpec := { name := "freeBack", fn := fun _ => fun
  | [d] => { results := [.lit (.bool true)], args := [d] }
  | _ => none }
def freeBackRow : OpenClaim := { program := "ytdblokglldalnaa", sum := "ead1f8eb95bc8bfa017bdf45f06d3b2e0e35ace12df8d0f1aa91b08536181406", func := "cistern/cisternlaw06.FreeBack", spec := "freeBack", unfollowed := true, recurses := true, apart := false }
def FreeBackSaid : Prop := freeBackRow.holds Try.pinned (OpenSpec.ofChange freeBackSpec)

/-- ITS FALSE NEIGHBOUR: 'it returns false'. Refute it at one input. -/
def freeBackWrong : ChangeSpec := { name := "freeBack", fn := fun _ => fun
  | [d] => { results := [.lit (.bool false)], args := [d] }
  | _ => none }
def FreeBackWrongFalsely : Prop := freeBackRow.holds Try.pinned (OpenSpec.ofChange freeBackWrong)

/-- 'cisternlaw06.FreeLeast': WHATEVER THE INPUT: true; the input reads as it did. -/
def freeLeastSpec : ChangeSpec := { name := "freeLeast", fn := fun _ => fun
  | [d1, d2] => { results := [.lit (.bool true)], args := [d1, d2] }
  | _ => none }
def freeLeastRow : OpenClaim := { program := "ytdblokglldalnaa", sum := "ead1f8eb95bc8bfa017bdf45f06d3b2e0e35ace12df8d0f1aa91b08536181406", func := "cistern/cisternlaw06.FreeLeast", spec := "freeLeast", unfollowed := true, recurses := true, apart := false }
def FreeLeastSaid : Prop := freeLeastRow.holds Try.pinned (OpenSpec.ofChange freeLeastSpec)

/-- ITS FALSE NEIGHBOUR: 'it returns false'. Refute it at one input. -/
def freeLeastWrong : ChangeSpec := { name := "freeLeast", fn := fun _ => fun
  | [d1, d2] => { results := [.lit (.bool false)], args := [d1, d2] }
  | _ => none }
def FreeLeastWrongFalsely : Prop := freeLeastRow.holds Try.pinned (OpenSpec.ofChange freeLeastWrong)

/-- 'cisternlaw06.FreePlays': WHATEVER THE INPUT: true; the input reads as it did. -/
def freePlaysSpec : ChangeSpec := { name := "freePlays", fn := fun _ => fun
  | [d1, d2] => { results := [.lit (.bool true)], args := [d1, d2] }
  | _ => none }
def freePlaysRow : OpenClaim := { program := "ytdblokglldalnaa", sum := "ead1f8eb95bc8bfa017bdf45f06d3b2e0e35ace12df8d0f1aa91b08536181406", func := "cistern/cisternlaw06.FreePlays", spec := "freePlays", unfollowed := true, recurses := true, apart := false }
def FreePlaysSaid : Prop := freePlaysRow.holds Try.pinned (OpenSpec.ofChange freePlaysSpec)

/-- ITS FALSE NEIGHBOUR: 'it returns false'. Refute it at one input. -/
def freePlaysWrong : ChangeSpec := { name := "freePlays", fn := fun _ => fun
  | [d1, d2] => { results := [.lit (.bool false)], args := [d1, d2] }
  | _ => none }
def FreePlaysWrongFalsely : Prop := freePlaysRow.holds Try.pinned (OpenSpec.ofChange freePlaysWrong)

/-- 'cisternlaw06.FreeKnown': WHATEVER THE INPUT: true; the input reads as it did. -/
def freeKnownSpec : ChangeSpec := { name := "freeKnown", fn := fun _ => fun
  | [] => { results := [.lit (.bool true)], args := [] }
  | _ => none }
def freeKnownRow : OpenClaim := { program := "ytdblokglldalnaa", sum := "ead1f8eb95bc8bfa017bdf45f06d3b2e0e35ace12df8d0f1aa91b08536181406", func := "cistern/cisternlaw06.FreeKnown", spec := "freeKnown", unfollowed := true, recurses := true, apart := false }
def FreeKnownSaid : Prop := freeKnownRow.holds Try.pinned (OpenSpec.ofChange freeKnownSpec)

/-- ITS FALSE NEIGHBOUR: 'it returns false'. Refute it at one input. -/
def freeKnownWrong : ChangeSpec := { name := "freeKnown", fn := fun _ => fun
  | [] => { results := [.lit (.bool false)], args := [] }
  | _ => none }
def FreeKnownWrongFalsely : Prop := freeKnownRow.holds Try.pinned (OpenSpec.ofChange freeKnownWrong)

/- THE SECOND FORM. 'bulk': how many values and letters a reading holds, each counted each time it is reached (what is shared counts as often as it is met; a slice's spare places count too). A statement '..UptoSaid' is the law's where the arguments, and the package variables that the reading takes, are together of bulk at most 1048576: NARROWER than '..Said'. Prove '..Said' where nothing that the law and all that it calls make is longer than what came in: it says more and counts as full. Else prove '..UptoSaid'. A law counts once. -/
mutual
def uptoBulk {H : Type} : DataW H → Nat
  | .lit (.string bytes) => bytes.length + 1
  | .lit _ => 1
  | .nil => 1
  | .ptr d => uptoBulk d + 1
  | .slice elems spare => uptoBulkAll elems + uptoBulkAll spare + 1
  | .agg parts => uptoBulkAll parts + 1
  | .iface _ d => uptoBulk d + 1
  | .map entries => uptoBulkEntries entries + 1
  | .held _ => 1
def uptoBulkAll {H : Type} : List (DataW H) → Nat
  | [] => 0
  | d :: r => uptoBulk d + uptoBulkAll r
def uptoBulkEntries {H : Type} : List (Lit × DataW H) → Nat
  | [] => 0
  | x :: r => uptoBulkEntry x + uptoBulkEntries r
def uptoBulkEntry {H : Type} : Lit × DataW H → Nat
  | (.string bytes, d) => bytes.length + uptoBulk d + 1
  | (_, d) => uptoBulk d + 1
 end
def uptoSmall : (H : Type) → List (DataW H) → Bool := fun _ ds => decide (uptoBulkAll ds ≤ 1048576)
def OpenSpec.upto (s : _root_.Go.ChangeSpec) : _root_.Go.OpenSpec := { _root_.Go.OpenSpec.ofChange s with cond := some uptoSmall }

/-- 'cisternlaw06.FreeBack', WHERE WHAT IT READS IS OF BULK AT MOST 1048576: true; the input reads as it did. -/
def freeBackUptoRow : OpenClaim := { program := "ytdblokglldalnaa", sum := "ead1f8eb95bc8bfa017bdf45f06d3b2e0e35ace12df8d0f1aa91b08536181406", func := "cistern/cisternlaw06.FreeBack", spec := "freeBack", unfollowed := true, recurses := true, apart := false, narrowed := true }
def FreeBackUptoSaid : Prop := freeBackUptoRow.holds Try.pinned (OpenSpec.upto freeBackSpec)

/-- 'cisternlaw06.FreeLeast', WHERE WHAT IT READS IS OF BULK AT MOST 1048576: true; the input reads as it did. -/
def freeLeastUptoRow : OpenClaim := { program := "ytdblokglldalnaa", sum := "ead1f8eb95bc8bfa017bdf45f06d3b2e0e35ace12df8d0f1aa91b08536181406", func := "cistern/cisternlaw06.FreeLeast", spec := "freeLeast", unfollowed := true, recurses := true, apart := false, narrowed := true }
def FreeLeastUptoSaid : Prop := freeLeastUptoRow.holds Try.pinned (OpenSpec.upto freeLeastSpec)

/-- 'cisternlaw06.FreePlays', WHERE WHAT IT READS IS OF BULK AT MOST 1048576: true; the input reads as it did. -/
def freePlaysUptoRow : OpenClaim := { program := "ytdblokglldalnaa", sum := "ead1f8eb95bc8bfa017bdf45f06d3b2e0e35ace12df8d0f1aa91b08536181406", func := "cistern/cisternlaw06.FreePlays", spec := "freePlays", unfollowed := true, recurses := true, apart := false, narrowed := true }
def FreePlaysUptoSaid : Prop := freePlaysUptoRow.holds Try.pinned (OpenSpec.upto freePlaysSpec)

/-- 'cisternlaw06.FreeKnown', WHERE WHAT IT READS IS OF BULK AT MOST 1048576: true; the input reads as it did. -/
def freeKnownUptoRow : OpenClaim := { program := "ytdblokglldalnaa", sum := "ead1f8eb95bc8bfa017bdf45f06d3b2e0e35ace12df8d0f1aa91b08536181406", func := "cistern/cisternlaw06.FreeKnown", spec := "freeKnown", unfollowed := true, recurses := true, apart := false, narrowed := true }
def FreeKnownUptoSaid : Prop := freeKnownUptoRow.holds Try.pinned (OpenSpec.upto freeKnownSpec)

end Rows
end Go.Proofs.Ytdblokglldalnaa
