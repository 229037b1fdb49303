/-
  No cell of these rows narrows 'for every input' (looked for: loops, veiled, ifaces, maps, wideKeys, modest, calm, conditions, laid).
  DERIVED. THE GIVEN ROWS OF THIS SEAT. 4 by the template 'for every input the law returns true; each argument reads behind the call as it read before'; 0 by the template 'total and deterministic' (their statements: YtepooiiaijbljaaTotals.lean).
  GIVEN WITH THE SEED: the statements are not yours to turn. If you find one false, say at which input.
  Laid BY PROGRAM, IN A SANDBOX (cutbox-rows.mjs): the forced cells as the released guide's own fill.sh prints them over the translation 6d9947b41028f3d7… (all of the seat's roots in one cut). By AI agents, Wed Nov 11 2026. No macro, syntax, notation, axiom, sorry.
-/
import Derived.Test.YtepooiiaijbljaaChecked
import GoSem.Claim
import GoSem.ClaimJoined
import GoSem.ClaimMapViews
import Derived.JoinedTies
import Derived.KernelRfl
namespace Go.Proofs.Ytepooiiaijbljaa
/- THE CELL 'sum', in the pinned program and in every row, IS THE sha256 OF THE DUMP (.gsa) THAT YtepooiiaijbljaaProg.lean LOADS. Nothing in Lean hashes anything: it is a label: what it is worth is what the hold of that sum in a sandbox is worth. -/
noncomputable def Try.pinned : Pinned := { name := "ytepooiiaijbljaa", sum := "6d9947b41028f3d75b1887060c413347a0ca9a9741bdbf6ed3e0e915dbaedf01", checked := Try.checked }
namespace Rows
def none {H : Type} : Left H := { results := [], args := [] }

/-- 'cisternlaw07.RefsSafe': WHATEVER THE INPUT: true; the input reads as it did. -/
def refsSafeSpec : ChangeSpec := { name := "refsSafe", fn := fun _ => fun
  | [d1, d2] => { results := [.lit (.bool true)], args := [d1, d2] }
  | _ => none }
def refsSafeRow : OpenClaim := { program := "ytepooiiaijbljaa", sum := "6d9947b41028f3d75b1887060c413347a0ca9a9741bdbf6ed3e0e915dbaedf01", func := "cistern/cisternlaw07.RefsSafe", spec := "refsSafe", unfollowed := true, recurses := true, apart := false }
def RefsSafeSaid : Prop := refsSafeRow.holds Try.pinned (OpenSpec.ofChange refsSafeSpec)

/-- ITS FALSE NEIGHBOUR: 'it returns false'. Refute it at one input. -/
def refsSafeWrong : ChangeSpec := { name := "refsSafe", fn := fun _ => fun
  | [d1, d2] => { results := [.lit (.bool false)], args := [d1, d2] }
  | _ => none }
def RefsSafeWrongFalsely : Prop := refsSafeRow.holds Try.pinned (OpenSpec.ofChange refsSafeWrong)

/-- 'cisternlaw07.RefsDeferred': WHATEVER THE INPUT: true; the input reads as it did. -/
def refsDeferredSpec : ChangeSpec := { name := "refsDeferred", fn := fun _ => fun
  | [d1, d2] => { results := [.lit (.bool true)], args := [d1, d2] }
  | _ => none }
def refsDeferredRow : OpenClaim := { program := "ytepooiiaijbljaa", sum := "6d9947b41028f3d75b1887060c413347a0ca9a9741bdbf6ed3e0e915dbaedf01", func := "cistern/cisternlaw07.RefsDeferred", spec := "refsDeferred", unfollowed := true, recurses := true, apart := false }
def RefsDeferredSaid : Prop := refsDeferredRow.holds Try.pinned (OpenSpec.ofChange refsDeferredSpec)

/-- ITS FALSE NEIGHBOUR: 'it returns false'. Refute it at one input. -/
def refsDeferredWrong : ChangeSpec := { name := "refsDeferred", fn := fun _ => fun
  | [d1, d2] => { results := [.lit (.bool false)], args := [d1, d2] }
  | _ => none }
def RefsDeferredWrongFalsely : Prop := refsDeferredRow.holds Try.pinned (OpenSpec.ofChange refsDeferredWrong)

/-- 'cisternlaw07.RefsKnown': WHATEVER THE INPUT: true; the input reads as it did. -/
def refsKnownSpec : ChangeSpec := { name := "refsKnown", fn := fun _ => fun
  | [] => { results := [.lit (.bool true)], args := [] }
  | _ => none }
def refsKnownRow : OpenClaim := { program := "ytepooiiaijbljaa", sum := "6d9947b41028f3d75b1887060c413347a0ca9a9741bdbf6ed3e0e915dbaedf01", func := "cistern/cisternlaw07.RefsKnown", spec := "refsKnown", unfollowed := true, recurses := true, apart := false }
def RefsKnownSaid : Prop := refsKnownRow.holds Try.pinned (OpenSpec.ofChange refsKnownSpec)

/-- ITS FALSE NEIGHBOUR: 'it returns false'. Refute it at one input. -/
def refsKnownWrong : ChangeSpec := { name := "refsKnown", fn := fun _ => fun
  | [] => { results := [.lit (.bool false)], args := [] }
  | _ => none }
def RefsKnownWrongFalsely : Prop := refsKnownRow.holds Try.pinned (OpenSpec.ofChange refsKnownWrong)

/-- 'cisternlaw07.RefsPlays': WHATEVER THE INPUT: true; the input reads as it did. -/
def refsPlaysSpec : ChangeSpec := { name := "refsPlays", fn := fun _ => fun
  | [d1, d2] => { results := [.lit (.bool true)], args := [d1, d2] }
  | _ => none }
def refsPlaysRow : OpenClaim := { program := "ytepooiiaijbljaa", sum := "6d9947b41028f3d75b1887060c413347a0ca9a9741bdbf6ed3e0e915dbaedf01", func := "cistern/cisternlaw07.RefsPlays", spec := "refsPlays", unfollowed := true, recurses := true, apart := false }
def RefsPlaysSaid : Prop := refsPlaysRow.holds Try.pinned (OpenSpec.ofChange refsPlaysSpec)

/-- ITS FALSE NEIGHBOUR: 'it returns false'. Refute it at one input. -/
def refsPlaysWrong : ChangeSpec := { name := "refsPlays", fn := fun _ => fun
  | [d1, d2] => { results := [.lit (.bool false)], args := [d1, d2] }
  | _ => none }
def RefsPlaysWrongFalsely : Prop := refsPlaysRow.holds Try.pinned (OpenSpec.ofChange refsPlaysWrong)

/- THE SECOND FORM. 'bulk': how many values and letters a reading holds, each counted each time it is reached (what is shared counts as often as it is met; a slice's spare places count too). A statement '..UptoSaid' is the law's where the arguments, and the package variables that the reading takes, are together of bulk at most 1048576: NARROWER than '..Said'. Prove '..Said' where nothing that the law and all that it calls make is longer than what came in: it says more and counts as full. Else prove '..UptoSaid'. A law counts once. -/
mutual
def uptoBulk {H : Type} : DataW H → Nat
  | .lit (.string bytes) => bytes.length + 1
  | .lit _ => 1
  | .nil => 1
  | .ptr d => uptoBulk d + 1
  | .slice elems spare => uptoBulkAll elems + uptoBulkAll spare + 1
  | .agg parts => uptoBulkAll parts + 1
  | .iface _ d => uptoBulk d + 1
  | .map entries => uptoBulkEntries entries + 1
  | .held _ => 1
def uptoBulkAll {H : Type} : List (DataW H) → Nat
  | [] => 0
  | d :: r => uptoBulk d + uptoBulkAll r
def uptoBulkEntries {H : Type} : List (Lit × DataW H) → Nat
  | [] => 0
  | x :: r => uptoBulkEntry x + uptoBulkEntries r
def uptoBulkEntry {H : Type} : Lit × DataW H → Nat
  | (.string bytes, d) => bytes.length + uptoBulk d + 1
  | (_, d) => uptoBulk d + 1
 end
def uptoSmall : (H : Type) → List (DataW H) → Bool := fun _ ds => decide (uptoBulkAll ds ≤ 1048576)
def OpenSpec.upto (s : _root_.Go.ChangeSpec) : _root_.Go.OpenSpec := { _root_.Go.OpenSpec.ofChange s with cond := some uptoSmall }

/-- 'cisternlaw07.RefsSafe', WHERE WHAT IT READS IS OF BULK AT MOST 1048576: true; the input reads as it did. -/
def refsSafeUptoRow : OpenClaim := { program := "ytepooiiaijbljaa", sum := "6d9947b41028f3d75b1887060c413347a0ca9a9741bdbf6ed3e0e915dbaedf01", func := "cistern/cisternlaw07.RefsSafe", spec := "refsSafe", unfollowed := true, recurses := true, apart := false, narrowed := true }
def RefsSafeUptoSaid : Prop := refsSafeUptoRow.holds Try.pinned (OpenSpec.upto refsSafeSpec)

/-- 'cisternlaw07.RefsDeferred', WHERE WHAT IT READS IS OF BULK AT MOST 1048576: true; the input reads as it did. -/
def refsDeferredUptoRow : OpenClaim := { program := "ytepooiiaijbljaa", sum := "6d9947b41028f3d75b1887060c413347a0ca9a9741bdbf6ed3e0e915dbaedf01", func := "cistern/cisternlaw07.RefsDeferred", spec := "refsDeferred", unfollowed := true, recurses := true, apart := false, narrowed := true }
def RefsDeferredUptoSaid : Prop := refsDeferredUptoRow.holds Try.pinned (OpenSpec.upto refsDeferredSpec)

/-- 'cisternlaw07.RefsKnown', WHERE WHAT IT READS IS OF BULK AT MOST 1048576: true; the input reads as it did. -/
def refsKnownUptoRow : OpenClaim := { program := "ytepooiiaijbljaa", sum := "6d9947b41028f3d75b1887060c413347a0ca9a9741bdbf6ed3e0e915dbaedf01", func := "cistern/cisternlaw07.RefsKnown", spec := "refsKnown", unfollowed := true, recurses := true, apart := false, narrowed := true }
def RefsKnownUptoSaid : Prop := refsKnownUptoRow.holds Try.pinned (OpenSpec.upto refsKnownSpec)

/-- 'cisternlaw07.RefsPlays', WHERE WHAT IT READS IS OF BULK AT MOST 1048576: true; the input reads as it did. -/
def refsPlaysUptoRow : OpenClaim := { program := "ytepooiiaijbljaa", sum := "6d9947b41028f3d75b1887060c413347a0ca9a9741bdbf6ed3e0e915dbaedf01", func := "cistern/cisternlaw07.RefsPlays", spec := "refsPlays", unfollowed := true, recurses := true, apart := false, narrowed := true }
def RefsPlaysUptoSaid : Prop := refsPlaysUptoRow.holds Try.pinned (OpenSpec.upto refsPlaysSpec)

end Rows
end Go.Proofs.Ytepooiiaijbljaa
