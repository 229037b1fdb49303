/-
  No cell of these rows narrows 'for every input' (looked for: loops, veiled, ifaces, maps, wideKeys, modest, calm, conditions, laid).
  DERIVED. THE GIVEN ROWS OF THIS SEAT. 7 by the template 'for every input the law returns true; each argument reads behind the call as it read before'; 0 by the template 'total and deterministic' (their statements: YtbfcnbggkcaolaaTotals.lean).
  GIVEN WITH THE SEED: the statements are not yours to turn. If you find one false, say at which input.
  Laid BY PROGRAM, IN A SANDBOX (cutbox-rows.mjs): the forced cells as the released guide's own fill.sh prints them over the translation 77dd9b7814b03efe… (all of the seat's roots in one cut). By AI agents, Wed Nov 11 2026. No macro, syntax, notation, axiom, sorry.
-/
import Derived.Test.YtbfcnbggkcaolaaChecked
import GoSem.Claim
import GoSem.ClaimJoined
import GoSem.ClaimMapViews
import Derived.JoinedTies
import Derived.KernelRfl
namespace Go.Proofs.Ytbfcnbggkcaolaa
/- THE CELL 'sum', in the pinned program and in every row, IS THE sha256 OF THE DUMP (.gsa) THAT YtbfcnbggkcaolaaProg.lean LOADS. Nothing in Lean hashes anything: it is a label: what it is worth is what the hold of that sum in a sandbox is worth. -/
noncomputable def Try.pinned : Pinned := { name := "ytbfcnbggkcaolaa", sum := "77dd9b7814b03efe1513c84f5773e565f3662af18257392b208575d250ebc350", checked := Try.checked }
namespace Rows
def none {H : Type} : Left H := { results := [], args := [] }

/-- 'cisternlaw23.RequestChecks': WHATEVER THE INPUT: true; the input reads as it did. -/
def requestChecksSpec : ChangeSpec := { name := "requestChecks", fn := fun _ => fun
  | [d1, d2] => { results := [.lit (.bool true)], args := [d1, d2] }
  | _ => none }
def requestChecksRow : OpenClaim := { program := "ytbfcnbggkcaolaa", sum := "77dd9b7814b03efe1513c84f5773e565f3662af18257392b208575d250ebc350", func := "cistern/cisternlaw23.RequestChecks", spec := "requestChecks", unfollowed := true, recurses := true, apart := false }
def RequestChecksSaid : Prop := requestChecksRow.holds Try.pinned (OpenSpec.ofChange requestChecksSpec)

/-- ITS FALSE NEIGHBOUR: 'it returns false'. Refute it at one input. -/
def requestChecksWrong : ChangeSpec := { name := "requestChecks", fn := fun _ => fun
  | [d1, d2] => { results := [.lit (.bool false)], args := [d1, d2] }
  | _ => none }
def RequestChecksWrongFalsely : Prop := requestChecksRow.holds Try.pinned (OpenSpec.ofChange requestChecksWrong)

/-- 'cisternlaw23.RequestGrows': WHATEVER THE INPUT: true; the input reads as it did. -/
def requestGrowsSpec : ChangeSpec := { name := "requestGrows", fn := fun _ => fun
  | [d1, d2, d3, d4] => { results := [.lit (.bool true)], args := [d1, d2, d3, d4] }
  | _ => none }
def requestGrowsRow : OpenClaim := { program := "ytbfcnbggkcaolaa", sum := "77dd9b7814b03efe1513c84f5773e565f3662af18257392b208575d250ebc350", func := "cistern/cisternlaw23.RequestGrows", spec := "requestGrows", unfollowed := true, recurses := true, apart := false }
def RequestGrowsSaid : Prop := requestGrowsRow.holds Try.pinned (OpenSpec.ofChange requestGrowsSpec)

/-- ITS FALSE NEIGHBOUR: 'it returns false'. Refute it at one input. -/
def requestGrowsWrong : ChangeSpec := { name := "requestGrows", fn := fun _ => fun
  | [d1, d2, d3, d4] => { results := [.lit (.bool false)], args := [d1, d2, d3, d4] }
  | _ => none }
def RequestGrowsWrongFalsely : Prop := requestGrowsRow.holds Try.pinned (OpenSpec.ofChange requestGrowsWrong)

/-- 'cisternlaw23.RequestPuts': WHATEVER THE INPUT: true; the input reads as it did. -/
def requestPutsSpec : ChangeSpec := { name := "requestPuts", fn := fun _ => fun
  | [d1, d2] => { results := [.lit (.bool true)], args := [d1, d2] }
  | _ => none }
def requestPutsRow : OpenClaim := { program := "ytbfcnbggkcaolaa", sum := "77dd9b7814b03efe1513c84f5773e565f3662af18257392b208575d250ebc350", func := "cistern/cisternlaw23.RequestPuts", spec := "requestPuts", unfollowed := true, recurses := true, apart := false }
def RequestPutsSaid : Prop := requestPutsRow.holds Try.pinned (OpenSpec.ofChange requestPutsSpec)

/-- ITS FALSE NEIGHBOUR: 'it returns false'. Refute it at one input. -/
def requestPutsWrong : ChangeSpec := { name := "requestPuts", fn := fun _ => fun
  | [d1, d2] => { results := [.lit (.bool false)], args := [d1, d2] }
  | _ => none }
def RequestPutsWrongFalsely : Prop := requestPutsRow.holds Try.pinned (OpenSpec.ofChange requestPutsWrong)

/-- 'cisternlaw23.RequestKnown': WHATEVER THE INPUT: true; the input reads as it did. -/
def requestKnownSpec : ChangeSpec := { name := "requestKnown", fn := fun _ => fun
  | [] => { results := [.lit (.bool true)], args := [] }
  | _ => none }
def requestKnownRow : OpenClaim := { program := "ytbfcnbggkcaolaa", sum := "77dd9b7814b03efe1513c84f5773e565f3662af18257392b208575d250ebc350", func := "cistern/cisternlaw23.RequestKnown", spec := "requestKnown", unfollowed := true, recurses := true, apart := false }
def RequestKnownSaid : Prop := requestKnownRow.holds Try.pinned (OpenSpec.ofChange requestKnownSpec)

/-- ITS FALSE NEIGHBOUR: 'it returns false'. Refute it at one input. -/
def requestKnownWrong : ChangeSpec := { name := "requestKnown", fn := fun _ => fun
  | [] => { results := [.lit (.bool false)], args := [] }
  | _ => none }
def RequestKnownWrongFalsely : Prop := requestKnownRow.holds Try.pinned (OpenSpec.ofChange requestKnownWrong)

/-- 'cisternlaw23.RequestReplies': WHATEVER THE INPUT: true; the input reads as it did. -/
def requestRepliesSpec : ChangeSpec := { name := "requestReplies", fn := fun _ => fun
  | [d1, d2, d3] => { results := [.lit (.bool true)], args := [d1, d2, d3] }
  | _ => none }
def requestRepliesRow : OpenClaim := { program := "ytbfcnbggkcaolaa", sum := "77dd9b7814b03efe1513c84f5773e565f3662af18257392b208575d250ebc350", func := "cistern/cisternlaw23.RequestReplies", spec := "requestReplies", unfollowed := true, recurses := true, apart := false }
def RequestRepliesSaid : Prop := requestRepliesRow.holds Try.pinned (OpenSpec.ofChange requestRepliesSpec)

/-- ITS FALSE NEIGHBOUR: 'it returns false'. Refute it at one input. -/
def requestRepliesWrong : ChangeSpec := { name := "requestReplies", fn := fun _ => fun
  | [d1, d2, d3] => { results := [.lit (.bool false)], args := [d1, d2, d3] }
  | _ => none }
def RequestRepliesWrongFalsely : Prop := requestRepliesRow.holds Try.pinned (OpenSpec.ofChange requestRepliesWrong)

/-- 'cisternlaw23.RequestParts': WHATEVER THE INPUT: true; the input reads as it did. -/
def requestPartsSpec : ChangeSpec := { name := "requestParts", fn := fun _ => fun
  | [d1, d2, d3, d4] => { results := [.lit (.bool true)], args := [d1, d2, d3, d4] }
  | _ => none }
def requestPartsRow : OpenClaim := { program := "ytbfcnbggkcaolaa", sum := "77dd9b7814b03efe1513c84f5773e565f3662af18257392b208575d250ebc350", func := "cistern/cisternlaw23.RequestParts", spec := "requestParts", unfollowed := true, recurses := true, apart := false }
def RequestPartsSaid : Prop := requestPartsRow.holds Try.pinned (OpenSpec.ofChange requestPartsSpec)

/-- ITS FALSE NEIGHBOUR: 'it returns false'. Refute it at one input. -/
def requestPartsWrong : ChangeSpec := { name := "requestParts", fn := fun _ => fun
  | [d1, d2, d3, d4] => { results := [.lit (.bool false)], args := [d1, d2, d3, d4] }
  | _ => none }
def RequestPartsWrongFalsely : Prop := requestPartsRow.holds Try.pinned (OpenSpec.ofChange requestPartsWrong)

/-- 'cisternlaw23.RequestBack': WHATEVER THE INPUT: true; the input reads as it did. -/
def requestBackSpec : ChangeSpec := { name := "requestBack", fn := fun _ => fun
  | [d1, d2] => { results := [.lit (.bool true)], args := [d1, d2] }
  | _ => none }
def requestBackRow : OpenClaim := { program := "ytbfcnbggkcaolaa", sum := "77dd9b7814b03efe1513c84f5773e565f3662af18257392b208575d250ebc350", func := "cistern/cisternlaw23.RequestBack", spec := "requestBack", unfollowed := true, recurses := true, apart := false }
def RequestBackSaid : Prop := requestBackRow.holds Try.pinned (OpenSpec.ofChange requestBackSpec)

/-- ITS FALSE NEIGHBOUR: 'it returns false'. Refute it at one input. -/
def requestBackWrong : ChangeSpec := { name := "requestBack", fn := fun _ => fun
  | [d1, d2] => { results := [.lit (.bool false)], args := [d1, d2] }
  | _ => none }
def RequestBackWrongFalsely : Prop := requestBackRow.holds Try.pinned (OpenSpec.ofChange requestBackWrong)

/- THE SECOND FORM. 'bulk': how many values and letters a reading holds, each counted each time it is reached (what is shared counts as often as it is met; a slice's spare places count too). A statement '..UptoSaid' is the law's where the arguments, and the package variables that the reading takes, are together of bulk at most 1048576: NARROWER than '..Said'. Prove '..Said' where nothing that the law and all that it calls make is longer than what came in: it says more and counts as full. Else prove '..UptoSaid'. A law counts once. -/
mutual
def uptoBulk {H : Type} : DataW H → Nat
  | .lit (.string bytes) => bytes.length + 1
  | .lit _ => 1
  | .nil => 1
  | .ptr d => uptoBulk d + 1
  | .slice elems spare => uptoBulkAll elems + uptoBulkAll spare + 1
  | .agg parts => uptoBulkAll parts + 1
  | .iface _ d => uptoBulk d + 1
  | .map entries => uptoBulkEntries entries + 1
  | .held _ => 1
def uptoBulkAll {H : Type} : List (DataW H) → Nat
  | [] => 0
  | d :: r => uptoBulk d + uptoBulkAll r
def uptoBulkEntries {H : Type} : List (Lit × DataW H) → Nat
  | [] => 0
  | x :: r => uptoBulkEntry x + uptoBulkEntries r
def uptoBulkEntry {H : Type} : Lit × DataW H → Nat
  | (.string bytes, d) => bytes.length + uptoBulk d + 1
  | (_, d) => uptoBulk d + 1
 end
def uptoSmall : (H : Type) → List (DataW H) → Bool := fun _ ds => decide (uptoBulkAll ds ≤ 1048576)
def OpenSpec.upto (s : _root_.Go.ChangeSpec) : _root_.Go.OpenSpec := { _root_.Go.OpenSpec.ofChange s with cond := some uptoSmall }

/-- 'cisternlaw23.RequestChecks', WHERE WHAT IT READS IS OF BULK AT MOST 1048576: true; the input reads as it did. -/
def requestChecksUptoRow : OpenClaim := { program := "ytbfcnbggkcaolaa", sum := "77dd9b7814b03efe1513c84f5773e565f3662af18257392b208575d250ebc350", func := "cistern/cisternlaw23.RequestChecks", spec := "requestChecks", unfollowed := true, recurses := true, apart := false, narrowed := true }
def RequestChecksUptoSaid : Prop := requestChecksUptoRow.holds Try.pinned (OpenSpec.upto requestChecksSpec)

/-- 'cisternlaw23.RequestGrows', WHERE WHAT IT READS IS OF BULK AT MOST 1048576: true; the input reads as it did. -/
def requestGrowsUptoRow : OpenClaim := { program := "ytbfcnbggkcaolaa", sum := "77dd9b7814b03efe1513c84f5773e565f3662af18257392b208575d250ebc350", func := "cistern/cisternlaw23.RequestGrows", spec := "requestGrows", unfollowed := true, recurses := true, apart := false, narrowed := true }
def RequestGrowsUptoSaid : Prop := requestGrowsUptoRow.holds Try.pinned (OpenSpec.upto requestGrowsSpec)

/-- 'cisternlaw23.RequestPuts', WHERE WHAT IT READS IS OF BULK AT MOST 1048576: true; the input reads as it did. -/
def requestPutsUptoRow : OpenClaim := { program := "ytbfcnbggkcaolaa", sum := "77dd9b7814b03efe1513c84f5773e565f3662af18257392b208575d250ebc350", func := "cistern/cisternlaw23.RequestPuts", spec := "requestPuts", unfollowed := true, recurses := true, apart := false, narrowed := true }
def RequestPutsUptoSaid : Prop := requestPutsUptoRow.holds Try.pinned (OpenSpec.upto requestPutsSpec)

/-- 'cisternlaw23.RequestKnown', WHERE WHAT IT READS IS OF BULK AT MOST 1048576: true; the input reads as it did. -/
def requestKnownUptoRow : OpenClaim := { program := "ytbfcnbggkcaolaa", sum := "77dd9b7814b03efe1513c84f5773e565f3662af18257392b208575d250ebc350", func := "cistern/cisternlaw23.RequestKnown", spec := "requestKnown", unfollowed := true, recurses := true, apart := false, narrowed := true }
def RequestKnownUptoSaid : Prop := requestKnownUptoRow.holds Try.pinned (OpenSpec.upto requestKnownSpec)

/-- 'cisternlaw23.RequestReplies', WHERE WHAT IT READS IS OF BULK AT MOST 1048576: true; the input reads as it did. -/
def requestRepliesUptoRow : OpenClaim := { program := "ytbfcnbggkcaolaa", sum := "77dd9b7814b03efe1513c84f5773e565f3662af18257392b208575d250ebc350", func := "cistern/cisternlaw23.RequestReplies", spec := "requestReplies", unfollowed := true, recurses := true, apart := false, narrowed := true }
def RequestRepliesUptoSaid : Prop := requestRepliesUptoRow.holds Try.pinned (OpenSpec.upto requestRepliesSpec)

/-- 'cisternlaw23.RequestParts', WHERE WHAT IT READS IS OF BULK AT MOST 1048576: true; the input reads as it did. -/
def requestPartsUptoRow : OpenClaim := { program := "ytbfcnbggkcaolaa", sum := "77dd9b7814b03efe1513c84f5773e565f3662af18257392b208575d250ebc350", func := "cistern/cisternlaw23.RequestParts", spec := "requestParts", unfollowed := true, recurses := true, apart := false, narrowed := true }
def RequestPartsUptoSaid : Prop := requestPartsUptoRow.holds Try.pinned (OpenSpec.upto requestPartsSpec)

/-- 'cisternlaw23.RequestBack', WHERE WHAT IT READS IS OF BULK AT MOST 1048576: true; the input reads as it did. -/
def requestBackUptoRow : OpenClaim := { program := "ytbfcnbggkcaolaa", sum := "77dd9b7814b03efe1513c84f5773e565f3662af18257392b208575d250ebc350", func := "cistern/cisternlaw23.RequestBack", spec := "requestBack", unfollowed := true, recurses := true, apart := false, narrowed := true }
def RequestBackUptoSaid : Prop := requestBackUptoRow.holds Try.pinned (OpenSpec.upto requestBackSpec)

end Rows
end Go.Proofs.Ytbfcnbggkcaolaa
