/-
  No cell of these rows narrows 'for every input' (looked for: loops, veiled, ifaces, maps, wideKeys, modest, calm, conditions, laid).
  DERIVED. THE GIVEN ROWS OF THIS SEAT. 6 by the template 'for every input the law returns true; each argument reads behind the call as it read before'; 0 by the template 'total and deterministic' (their statements: YtankfmfenbhkgaaTotals.lean).
  GIVEN WITH THE SEED: the statements are not yours to turn. If you find one false, say at which input.
  Laid BY PROGRAM, IN A SANDBOX (cutbox-rows.mjs): the forced cells as the released guide's own fill.sh prints them over the translation aead346d07f90672… (all of the seat's roots in one cut). By AI agents, Wed Nov 11 2026. No macro, syntax, notation, axiom, sorry.
-/
import Derived.Test.YtankfmfenbhkgaaChecked
import GoSem.Claim
import GoSem.ClaimJoined
import GoSem.ClaimMapViews
import Derived.JoinedTies
import Derived.KernelRfl
namespace Go.Proofs.Ytankfmfenbhkgaa
/- THE CELL 'sum', in the pinned program and in every row, IS THE sha256 OF THE DUMP (.gsa) THAT YtankfmfenbhkgaaProg.lean LOADS. Nothing in Lean hashes anything: it is a label: what it is worth is what the hold of that sum in a sandbox is worth. -/
noncomputable def Try.pinned : Pinned := { name := "ytankfmfenbhkgaa", sum := "aead346d07f906724cdf9b774ef85c4b2194fe8c4dd99eafedcab297c42965ef", checked := Try.checked }
namespace Rows
def none {H : Type} : Left H := { results := [], args := [] }

/-- 'cisternlaw24.AdminPuts': WHATEVER THE INPUT: true; the input reads as it did. -/
def adminPutsSpec : ChangeSpec := { name := "adminPuts", fn := fun _ => fun
  | [d1, d2] => { results := [.lit (.bool true)], args := [d1, d2] }
  | _ => none }
def adminPutsRow : OpenClaim := { program := "ytankfmfenbhkgaa", sum := "aead346d07f906724cdf9b774ef85c4b2194fe8c4dd99eafedcab297c42965ef", func := "cistern/cisternlaw24.AdminPuts", spec := "adminPuts", unfollowed := true, recurses := true, apart := false }
def AdminPutsSaid : Prop := adminPutsRow.holds Try.pinned (OpenSpec.ofChange adminPutsSpec)

/-- ITS FALSE NEIGHBOUR: 'it returns false'. Refute it at one input. -/
def adminPutsWrong : ChangeSpec := { name := "adminPuts", fn := fun _ => fun
  | [d1, d2] => { results := [.lit (.bool false)], args := [d1, d2] }
  | _ => none }
def AdminPutsWrongFalsely : Prop := adminPutsRow.holds Try.pinned (OpenSpec.ofChange adminPutsWrong)

/-- 'cisternlaw24.AdminAnswers': WHATEVER THE INPUT: true; the input reads as it did. -/
def adminAnswersSpec : ChangeSpec := { name := "adminAnswers", fn := fun _ => fun
  | [d1, d2] => { results := [.lit (.bool true)], args := [d1, d2] }
  | _ => none }
def adminAnswersRow : OpenClaim := { program := "ytankfmfenbhkgaa", sum := "aead346d07f906724cdf9b774ef85c4b2194fe8c4dd99eafedcab297c42965ef", func := "cistern/cisternlaw24.AdminAnswers", spec := "adminAnswers", unfollowed := true, recurses := true, apart := false }
def AdminAnswersSaid : Prop := adminAnswersRow.holds Try.pinned (OpenSpec.ofChange adminAnswersSpec)

/-- ITS FALSE NEIGHBOUR: 'it returns false'. Refute it at one input. -/
def adminAnswersWrong : ChangeSpec := { name := "adminAnswers", fn := fun _ => fun
  | [d1, d2] => { results := [.lit (.bool false)], args := [d1, d2] }
  | _ => none }
def AdminAnswersWrongFalsely : Prop := adminAnswersRow.holds Try.pinned (OpenSpec.ofChange adminAnswersWrong)

/-- 'cisternlaw24.AdminChecks': WHATEVER THE INPUT: true; the input reads as it did. -/
def adminChecksSpec : ChangeSpec := { name := "adminChecks", fn := fun _ => fun
  | [d] => { results := [.lit (.bool true)], args := [d] }
  | _ => none }
def adminChecksRow : OpenClaim := { program := "ytankfmfenbhkgaa", sum := "aead346d07f906724cdf9b774ef85c4b2194fe8c4dd99eafedcab297c42965ef", func := "cistern/cisternlaw24.AdminChecks", spec := "adminChecks", unfollowed := true, recurses := true, apart := false }
def AdminChecksSaid : Prop := adminChecksRow.holds Try.pinned (OpenSpec.ofChange adminChecksSpec)

/-- ITS FALSE NEIGHBOUR: 'it returns false'. Refute it at one input. -/
def adminChecksWrong : ChangeSpec := { name := "adminChecks", fn := fun _ => fun
  | [d] => { results := [.lit (.bool false)], args := [d] }
  | _ => none }
def AdminChecksWrongFalsely : Prop := adminChecksRow.holds Try.pinned (OpenSpec.ofChange adminChecksWrong)

/-- 'cisternlaw24.AdminParts': WHATEVER THE INPUT: true; the input reads as it did. -/
def adminPartsSpec : ChangeSpec := { name := "adminParts", fn := fun _ => fun
  | [d1, d2, d3, d4] => { results := [.lit (.bool true)], args := [d1, d2, d3, d4] }
  | _ => none }
def adminPartsRow : OpenClaim := { program := "ytankfmfenbhkgaa", sum := "aead346d07f906724cdf9b774ef85c4b2194fe8c4dd99eafedcab297c42965ef", func := "cistern/cisternlaw24.AdminParts", spec := "adminParts", unfollowed := true, recurses := true, apart := false }
def AdminPartsSaid : Prop := adminPartsRow.holds Try.pinned (OpenSpec.ofChange adminPartsSpec)

/-- ITS FALSE NEIGHBOUR: 'it returns false'. Refute it at one input. -/
def adminPartsWrong : ChangeSpec := { name := "adminParts", fn := fun _ => fun
  | [d1, d2, d3, d4] => { results := [.lit (.bool false)], args := [d1, d2, d3, d4] }
  | _ => none }
def AdminPartsWrongFalsely : Prop := adminPartsRow.holds Try.pinned (OpenSpec.ofChange adminPartsWrong)

/-- 'cisternlaw24.AdminBack': WHATEVER THE INPUT: true; the input reads as it did. -/
def adminBackSpec : ChangeSpec := { name := "adminBack", fn := fun _ => fun
  | [d] => { results := [.lit (.bool true)], args := [d] }
  | _ => none }
def adminBackRow : OpenClaim := { program := "ytankfmfenbhkgaa", sum := "aead346d07f906724cdf9b774ef85c4b2194fe8c4dd99eafedcab297c42965ef", func := "cistern/cisternlaw24.AdminBack", spec := "adminBack", unfollowed := true, recurses := true, apart := false }
def AdminBackSaid : Prop := adminBackRow.holds Try.pinned (OpenSpec.ofChange adminBackSpec)

/-- ITS FALSE NEIGHBOUR: 'it returns false'. Refute it at one input. -/
def adminBackWrong : ChangeSpec := { name := "adminBack", fn := fun _ => fun
  | [d] => { results := [.lit (.bool false)], args := [d] }
  | _ => none }
def AdminBackWrongFalsely : Prop := adminBackRow.holds Try.pinned (OpenSpec.ofChange adminBackWrong)

/-- 'cisternlaw24.AdminKnown': WHATEVER THE INPUT: true; the input reads as it did. -/
def adminKnownSpec : ChangeSpec := { name := "adminKnown", fn := fun _ => fun
  | [] => { results := [.lit (.bool true)], args := [] }
  | _ => none }
def adminKnownRow : OpenClaim := { program := "ytankfmfenbhkgaa", sum := "aead346d07f906724cdf9b774ef85c4b2194fe8c4dd99eafedcab297c42965ef", func := "cistern/cisternlaw24.AdminKnown", spec := "adminKnown", unfollowed := true, recurses := true, apart := false }
def AdminKnownSaid : Prop := adminKnownRow.holds Try.pinned (OpenSpec.ofChange adminKnownSpec)

/-- ITS FALSE NEIGHBOUR: 'it returns false'. Refute it at one input. -/
def adminKnownWrong : ChangeSpec := { name := "adminKnown", fn := fun _ => fun
  | [] => { results := [.lit (.bool false)], args := [] }
  | _ => none }
def AdminKnownWrongFalsely : Prop := adminKnownRow.holds Try.pinned (OpenSpec.ofChange adminKnownWrong)

/- THE SECOND FORM. 'bulk': how many values and letters a reading holds, each counted each time it is reached (what is shared counts as often as it is met; a slice's spare places count too). A statement '..UptoSaid' is the law's where the arguments, and the package variables that the reading takes, are together of bulk at most 1048576: NARROWER than '..Said'. Prove '..Said' where nothing that the law and all that it calls make is longer than what came in: it says more and counts as full. Else prove '..UptoSaid'. A law counts once. -/
mutual
def uptoBulk {H : Type} : DataW H → Nat
  | .lit (.string bytes) => bytes.length + 1
  | .lit _ => 1
  | .nil => 1
  | .ptr d => uptoBulk d + 1
  | .slice elems spare => uptoBulkAll elems + uptoBulkAll spare + 1
  | .agg parts => uptoBulkAll parts + 1
  | .iface _ d => uptoBulk d + 1
  | .map entries => uptoBulkEntries entries + 1
  | .held _ => 1
def uptoBulkAll {H : Type} : List (DataW H) → Nat
  | [] => 0
  | d :: r => uptoBulk d + uptoBulkAll r
def uptoBulkEntries {H : Type} : List (Lit × DataW H) → Nat
  | [] => 0
  | x :: r => uptoBulkEntry x + uptoBulkEntries r
def uptoBulkEntry {H : Type} : Lit × DataW H → Nat
  | (.string bytes, d) => bytes.length + uptoBulk d + 1
  | (_, d) => uptoBulk d + 1
 end
def uptoSmall : (H : Type) → List (DataW H) → Bool := fun _ ds => decide (uptoBulkAll ds ≤ 1048576)
def OpenSpec.upto (s : _root_.Go.ChangeSpec) : _root_.Go.OpenSpec := { _root_.Go.OpenSpec.ofChange s with cond := some uptoSmall }

/-- 'cisternlaw24.AdminPuts', WHERE WHAT IT READS IS OF BULK AT MOST 1048576: true; the input reads as it did. -/
def adminPutsUptoRow : OpenClaim := { program := "ytankfmfenbhkgaa", sum := "aead346d07f906724cdf9b774ef85c4b2194fe8c4dd99eafedcab297c42965ef", func := "cistern/cisternlaw24.AdminPuts", spec := "adminPuts", unfollowed := true, recurses := true, apart := false, narrowed := true }
def AdminPutsUptoSaid : Prop := adminPutsUptoRow.holds Try.pinned (OpenSpec.upto adminPutsSpec)

/-- 'cisternlaw24.AdminAnswers', WHERE WHAT IT READS IS OF BULK AT MOST 1048576: true; the input reads as it did. -/
def adminAnswersUptoRow : OpenClaim := { program := "ytankfmfenbhkgaa", sum := "aead346d07f906724cdf9b774ef85c4b2194fe8c4dd99eafedcab297c42965ef", func := "cistern/cisternlaw24.AdminAnswers", spec := "adminAnswers", unfollowed := true, recurses := true, apart := false, narrowed := true }
def AdminAnswersUptoSaid : Prop := adminAnswersUptoRow.holds Try.pinned (OpenSpec.upto adminAnswersSpec)

/-- 'cisternlaw24.AdminChecks', WHERE WHAT IT READS IS OF BULK AT MOST 1048576: true; the input reads as it did. -/
def adminChecksUptoRow : OpenClaim := { program := "ytankfmfenbhkgaa", sum := "aead346d07f906724cdf9b774ef85c4b2194fe8c4dd99eafedcab297c42965ef", func := "cistern/cisternlaw24.AdminChecks", spec := "adminChecks", unfollowed := true, recurses := true, apart := false, narrowed := true }
def AdminChecksUptoSaid : Prop := adminChecksUptoRow.holds Try.pinned (OpenSpec.upto adminChecksSpec)

/-- 'cisternlaw24.AdminParts', WHERE WHAT IT READS IS OF BULK AT MOST 1048576: true; the input reads as it did. -/
def adminPartsUptoRow : OpenClaim := { program := "ytankfmfenbhkgaa", sum := "aead346d07f906724cdf9b774ef85c4b2194fe8c4dd99eafedcab297c42965ef", func := "cistern/cisternlaw24.AdminParts", spec := "adminParts", unfollowed := true, recurses := true, apart := false, narrowed := true }
def AdminPartsUptoSaid : Prop := adminPartsUptoRow.holds Try.pinned (OpenSpec.upto adminPartsSpec)

/-- 'cisternlaw24.AdminBack', WHERE WHAT IT READS IS OF BULK AT MOST 1048576: true; the input reads as it did. -/
def adminBackUptoRow : OpenClaim := { program := "ytankfmfenbhkgaa", sum := "aead346d07f906724cdf9b774ef85c4b2194fe8c4dd99eafedcab297c42965ef", func := "cistern/cisternlaw24.AdminBack", spec := "adminBack", unfollowed := true, recurses := true, apart := false, narrowed := true }
def AdminBackUptoSaid : Prop := adminBackUptoRow.holds Try.pinned (OpenSpec.upto adminBackSpec)

/-- 'cisternlaw24.AdminKnown', WHERE WHAT IT READS IS OF BULK AT MOST 1048576: true; the input reads as it did. -/
def adminKnownUptoRow : OpenClaim := { program := "ytankfmfenbhkgaa", sum := "aead346d07f906724cdf9b774ef85c4b2194fe8c4dd99eafedcab297c42965ef", func := "cistern/cisternlaw24.AdminKnown", spec := "adminKnown", unfollowed := true, recurses := true, apart := false, narrowed := true }
def AdminKnownUptoSaid : Prop := adminKnownUptoRow.holds Try.pinned (OpenSpec.upto adminKnownSpec)

end Rows
end Go.Proofs.Ytankfmfenbhkgaa
