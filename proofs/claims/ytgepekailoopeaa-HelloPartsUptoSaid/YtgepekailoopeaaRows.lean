/-
  No cell of these rows narrows 'for every input' (looked for: loops, veiled, ifaces, maps, wideKeys, modest, calm, conditions, laid).
  DERIVED. THE GIVEN ROWS OF THIS SEAT. 11 by the template 'for every input the law returns true; each argument reads behind the call as it read before'; 0 by the template 'total and deterministic' (their statements: YtgepekailoopeaaTotals.lean).
  GIVEN WITH THE SEED: the statements are not yours to turn. If you find one false, say at which input.
  Laid BY PROGRAM, IN A SANDBOX (cutbox-rows.mjs): the forced cells as the released guide's own fill.sh prints them over the translation c9f53dff20c34f1e… (all of the seat's roots in one cut). By AI agents, Wed Nov 11 2026. No macro, syntax, notation, axiom, sorry.
-/
import Derived.Test.YtgepekailoopeaaChecked
import GoSem.Claim
import GoSem.ClaimJoined
import GoSem.ClaimMapViews
import Derived.JoinedTies
import Derived.KernelRfl
namespace Go.Proofs.Ytgepekailoopeaa
/- THE CELL 'sum', in the pinned program and in every row, IS THE sha256 OF THE DUMP (.gsa) THAT YtgepekailoopeaaProg.lean LOADS. Nothing in Lean hashes anything: it is a label: what it is worth is what the hold of that sum in a sandbox is worth. -/
noncomputable def Try.pinned : Pinned := { name := "ytgepekailoopeaa", sum := "c9f53dff20c34f1e327e5927cb8a53548e8c127b497b2c437975b7a8d22ba8fc", checked := Try.checked }
namespace Rows
def none {H : Type} : Left H := { results := [], args := [] }

/-- 'cisternlaw22.HelloOptions': WHATEVER THE INPUT: true; the input reads as it did. -/
def helloOptionsSpec : ChangeSpec := { name := "helloOptions", fn := fun _ => fun
  | [d1, d2, d3] => { results := [.lit (.bool true)], args := [d1, d2, d3] }
  | _ => none }
def helloOptionsRow : OpenClaim := { program := "ytgepekailoopeaa", sum := "c9f53dff20c34f1e327e5927cb8a53548e8c127b497b2c437975b7a8d22ba8fc", func := "cistern/cisternlaw22.HelloOptions", spec := "helloOptions", unfollowed := true, recurses := true, apart := false }
def HelloOptionsSaid : Prop := helloOptionsRow.holds Try.pinned (OpenSpec.ofChange helloOptionsSpec)

/-- ITS FALSE NEIGHBOUR: 'it returns false'. Refute it at one input. -/
def helloOptionsWrong : ChangeSpec := { name := "helloOptions", fn := fun _ => fun
  | [d1, d2, d3] => { results := [.lit (.bool false)], args := [d1, d2, d3] }
  | _ => none }
def HelloOptionsWrongFalsely : Prop := helloOptionsRow.holds Try.pinned (OpenSpec.ofChange helloOptionsWrong)

/-- 'cisternlaw22.HelloAnswers': WHATEVER THE INPUT: true; the input reads as it did. -/
def helloAnswersSpec : ChangeSpec := { name := "helloAnswers", fn := fun _ => fun
  | [d1, d2, d3] => { results := [.lit (.bool true)], args := [d1, d2, d3] }
  | _ => none }
def helloAnswersRow : OpenClaim := { program := "ytgepekailoopeaa", sum := "c9f53dff20c34f1e327e5927cb8a53548e8c127b497b2c437975b7a8d22ba8fc", func := "cistern/cisternlaw22.HelloAnswers", spec := "helloAnswers", unfollowed := true, recurses := true, apart := false }
def HelloAnswersSaid : Prop := helloAnswersRow.holds Try.pinned (OpenSpec.ofChange helloAnswersSpec)

/-- ITS FALSE NEIGHBOUR: 'it returns false'. Refute it at one input. -/
def helloAnswersWrong : ChangeSpec := { name := "helloAnswers", fn := fun _ => fun
  | [d1, d2, d3] => { results := [.lit (.bool false)], args := [d1, d2, d3] }
  | _ => none }
def HelloAnswersWrongFalsely : Prop := helloAnswersRow.holds Try.pinned (OpenSpec.ofChange helloAnswersWrong)

/-- 'cisternlaw22.HelloGreets': WHATEVER THE INPUT: true; the input reads as it did. -/
def helloGreetsSpec : ChangeSpec := { name := "helloGreets", fn := fun _ => fun
  | [d1, d2, d3] => { results := [.lit (.bool true)], args := [d1, d2, d3] }
  | _ => none }
def helloGreetsRow : OpenClaim := { program := "ytgepekailoopeaa", sum := "c9f53dff20c34f1e327e5927cb8a53548e8c127b497b2c437975b7a8d22ba8fc", func := "cistern/cisternlaw22.HelloGreets", spec := "helloGreets", unfollowed := true, recurses := true, apart := false }
def HelloGreetsSaid : Prop := helloGreetsRow.holds Try.pinned (OpenSpec.ofChange helloGreetsSpec)

/-- ITS FALSE NEIGHBOUR: 'it returns false'. Refute it at one input. -/
def helloGreetsWrong : ChangeSpec := { name := "helloGreets", fn := fun _ => fun
  | [d1, d2, d3] => { results := [.lit (.bool false)], args := [d1, d2, d3] }
  | _ => none }
def HelloGreetsWrongFalsely : Prop := helloGreetsRow.holds Try.pinned (OpenSpec.ofChange helloGreetsWrong)

/-- 'cisternlaw22.HelloExports': WHATEVER THE INPUT: true; the input reads as it did. -/
def helloExportsSpec : ChangeSpec := { name := "helloExports", fn := fun _ => fun
  | [d1, d2, d3, d4] => { results := [.lit (.bool true)], args := [d1, d2, d3, d4] }
  | _ => none }
def helloExportsRow : OpenClaim := { program := "ytgepekailoopeaa", sum := "c9f53dff20c34f1e327e5927cb8a53548e8c127b497b2c437975b7a8d22ba8fc", func := "cistern/cisternlaw22.HelloExports", spec := "helloExports", unfollowed := true, recurses := true, apart := false }
def HelloExportsSaid : Prop := helloExportsRow.holds Try.pinned (OpenSpec.ofChange helloExportsSpec)

/-- ITS FALSE NEIGHBOUR: 'it returns false'. Refute it at one input. -/
def helloExportsWrong : ChangeSpec := { name := "helloExports", fn := fun _ => fun
  | [d1, d2, d3, d4] => { results := [.lit (.bool false)], args := [d1, d2, d3, d4] }
  | _ => none }
def HelloExportsWrongFalsely : Prop := helloExportsRow.holds Try.pinned (OpenSpec.ofChange helloExportsWrong)

/-- 'cisternlaw22.HelloWishes': WHATEVER THE INPUT: true; the input reads as it did. -/
def helloWishesSpec : ChangeSpec := { name := "helloWishes", fn := fun _ => fun
  | [d1, d2] => { results := [.lit (.bool true)], args := [d1, d2] }
  | _ => none }
def helloWishesRow : OpenClaim := { program := "ytgepekailoopeaa", sum := "c9f53dff20c34f1e327e5927cb8a53548e8c127b497b2c437975b7a8d22ba8fc", func := "cistern/cisternlaw22.HelloWishes", spec := "helloWishes", unfollowed := true, recurses := true, apart := false }
def HelloWishesSaid : Prop := helloWishesRow.holds Try.pinned (OpenSpec.ofChange helloWishesSpec)

/-- ITS FALSE NEIGHBOUR: 'it returns false'. Refute it at one input. -/
def helloWishesWrong : ChangeSpec := { name := "helloWishes", fn := fun _ => fun
  | [d1, d2] => { results := [.lit (.bool false)], args := [d1, d2] }
  | _ => none }
def HelloWishesWrongFalsely : Prop := helloWishesRow.holds Try.pinned (OpenSpec.ofChange helloWishesWrong)

/-- 'cisternlaw22.HelloBack': WHATEVER THE INPUT: true; the input reads as it did. -/
def helloBackSpec : ChangeSpec := { name := "helloBack", fn := fun _ => fun
  | [d1, d2] => { results := [.lit (.bool true)], args := [d1, d2] }
  | _ => none }
def helloBackRow : OpenClaim := { program := "ytgepekailoopeaa", sum := "c9f53dff20c34f1e327e5927cb8a53548e8c127b497b2c437975b7a8d22ba8fc", func := "cistern/cisternlaw22.HelloBack", spec := "helloBack", unfollowed := true, recurses := true, apart := false }
def HelloBackSaid : Prop := helloBackRow.holds Try.pinned (OpenSpec.ofChange helloBackSpec)

/-- ITS FALSE NEIGHBOUR: 'it returns false'. Refute it at one input. -/
def helloBackWrong : ChangeSpec := { name := "helloBack", fn := fun _ => fun
  | [d1, d2] => { results := [.lit (.bool false)], args := [d1, d2] }
  | _ => none }
def HelloBackWrongFalsely : Prop := helloBackRow.holds Try.pinned (OpenSpec.ofChange helloBackWrong)

/-- 'cisternlaw22.HelloInfos': WHATEVER THE INPUT: true; the input reads as it did. -/
def helloInfosSpec : ChangeSpec := { name := "helloInfos", fn := fun _ => fun
  | [d1, d2, d3] => { results := [.lit (.bool true)], args := [d1, d2, d3] }
  | _ => none }
def helloInfosRow : OpenClaim := { program := "ytgepekailoopeaa", sum := "c9f53dff20c34f1e327e5927cb8a53548e8c127b497b2c437975b7a8d22ba8fc", func := "cistern/cisternlaw22.HelloInfos", spec := "helloInfos", unfollowed := true, recurses := true, apart := false }
def HelloInfosSaid : Prop := helloInfosRow.holds Try.pinned (OpenSpec.ofChange helloInfosSpec)

/-- ITS FALSE NEIGHBOUR: 'it returns false'. Refute it at one input. -/
def helloInfosWrong : ChangeSpec := { name := "helloInfos", fn := fun _ => fun
  | [d1, d2, d3] => { results := [.lit (.bool false)], args := [d1, d2, d3] }
  | _ => none }
def HelloInfosWrongFalsely : Prop := helloInfosRow.holds Try.pinned (OpenSpec.ofChange helloInfosWrong)

/-- 'cisternlaw22.HelloData': WHATEVER THE INPUT: true; the input reads as it did. -/
def helloDataSpec : ChangeSpec := { name := "helloData", fn := fun _ => fun
  | [d1, d2, d3] => { results := [.lit (.bool true)], args := [d1, d2, d3] }
  | _ => none }
def helloDataRow : OpenClaim := { program := "ytgepekailoopeaa", sum := "c9f53dff20c34f1e327e5927cb8a53548e8c127b497b2c437975b7a8d22ba8fc", func := "cistern/cisternlaw22.HelloData", spec := "helloData", unfollowed := true, recurses := true, apart := false }
def HelloDataSaid : Prop := helloDataRow.holds Try.pinned (OpenSpec.ofChange helloDataSpec)

/-- ITS FALSE NEIGHBOUR: 'it returns false'. Refute it at one input. -/
def helloDataWrong : ChangeSpec := { name := "helloData", fn := fun _ => fun
  | [d1, d2, d3] => { results := [.lit (.bool false)], args := [d1, d2, d3] }
  | _ => none }
def HelloDataWrongFalsely : Prop := helloDataRow.holds Try.pinned (OpenSpec.ofChange helloDataWrong)

/-- 'cisternlaw22.HelloTells': WHATEVER THE INPUT: true; the input reads as it did. -/
def helloTellsSpec : ChangeSpec := { name := "helloTells", fn := fun _ => fun
  | [d1, d2] => { results := [.lit (.bool true)], args := [d1, d2] }
  | _ => none }
def helloTellsRow : OpenClaim := { program := "ytgepekailoopeaa", sum := "c9f53dff20c34f1e327e5927cb8a53548e8c127b497b2c437975b7a8d22ba8fc", func := "cistern/cisternlaw22.HelloTells", spec := "helloTells", unfollowed := true, recurses := true, apart := false }
def HelloTellsSaid : Prop := helloTellsRow.holds Try.pinned (OpenSpec.ofChange helloTellsSpec)

/-- ITS FALSE NEIGHBOUR: 'it returns false'. Refute it at one input. -/
def helloTellsWrong : ChangeSpec := { name := "helloTells", fn := fun _ => fun
  | [d1, d2] => { results := [.lit (.bool false)], args := [d1, d2] }
  | _ => none }
def HelloTellsWrongFalsely : Prop := helloTellsRow.holds Try.pinned (OpenSpec.ofChange helloTellsWrong)

/-- 'cisternlaw22.HelloParts': WHATEVER THE INPUT: true; the input reads as it did. -/
def helloPartsSpec : ChangeSpec := { name := "helloParts", fn := fun _ => fun
  | [d1, d2, d3] => { results := [.lit (.bool true)], args := [d1, d2, d3] }
  | _ => none }
def helloPartsRow : OpenClaim := { program := "ytgepekailoopeaa", sum := "c9f53dff20c34f1e327e5927cb8a53548e8c127b497b2c437975b7a8d22ba8fc", func := "cistern/cisternlaw22.HelloParts", spec := "helloParts", unfollowed := true, recurses := true, apart := false }
def HelloPartsSaid : Prop := helloPartsRow.holds Try.pinned (OpenSpec.ofChange helloPartsSpec)

/-- ITS FALSE NEIGHBOUR: 'it returns false'. Refute it at one input. -/
def helloPartsWrong : ChangeSpec := { name := "helloParts", fn := fun _ => fun
  | [d1, d2, d3] => { results := [.lit (.bool false)], args := [d1, d2, d3] }
  | _ => none }
def HelloPartsWrongFalsely : Prop := helloPartsRow.holds Try.pinned (OpenSpec.ofChange helloPartsWrong)

/-- 'cisternlaw22.HelloKnown': WHATEVER THE INPUT: true; the input reads as it did. -/
def helloKnownSpec : ChangeSpec := { name := "helloKnown", fn := fun _ => fun
  | [] => { results := [.lit (.bool true)], args := [] }
  | _ => none }
def helloKnownRow : OpenClaim := { program := "ytgepekailoopeaa", sum := "c9f53dff20c34f1e327e5927cb8a53548e8c127b497b2c437975b7a8d22ba8fc", func := "cistern/cisternlaw22.HelloKnown", spec := "helloKnown", unfollowed := true, recurses := true, apart := false }
def HelloKnownSaid : Prop := helloKnownRow.holds Try.pinned (OpenSpec.ofChange helloKnownSpec)

/-- ITS FALSE NEIGHBOUR: 'it returns false'. Refute it at one input. -/
def helloKnownWrong : ChangeSpec := { name := "helloKnown", fn := fun _ => fun
  | [] => { results := [.lit (.bool false)], args := [] }
  | _ => none }
def HelloKnownWrongFalsely : Prop := helloKnownRow.holds Try.pinned (OpenSpec.ofChange helloKnownWrong)

/- THE SECOND FORM. 'bulk': how many values and letters a reading holds, each counted each time it is reached (what is shared counts as often as it is met; a slice's spare places count too). A statement '..UptoSaid' is the law's where the arguments, and the package variables that the reading takes, are together of bulk at most 1048576: NARROWER than '..Said'. Prove '..Said' where nothing that the law and all that it calls make is longer than what came in: it says more and counts as full. Else prove '..UptoSaid'. A law counts once. -/
mutual
def uptoBulk {H : Type} : DataW H → Nat
  | .lit (.string bytes) => bytes.length + 1
  | .lit _ => 1
  | .nil => 1
  | .ptr d => uptoBulk d + 1
  | .slice elems spare => uptoBulkAll elems + uptoBulkAll spare + 1
  | .agg parts => uptoBulkAll parts + 1
  | .iface _ d => uptoBulk d + 1
  | .map entries => uptoBulkEntries entries + 1
  | .held _ => 1
def uptoBulkAll {H : Type} : List (DataW H) → Nat
  | [] => 0
  | d :: r => uptoBulk d + uptoBulkAll r
def uptoBulkEntries {H : Type} : List (Lit × DataW H) → Nat
  | [] => 0
  | x :: r => uptoBulkEntry x + uptoBulkEntries r
def uptoBulkEntry {H : Type} : Lit × DataW H → Nat
  | (.string bytes, d) => bytes.length + uptoBulk d + 1
  | (_, d) => uptoBulk d + 1
 end
def uptoSmall : (H : Type) → List (DataW H) → Bool := fun _ ds => decide (uptoBulkAll ds ≤ 1048576)
def OpenSpec.upto (s : _root_.Go.ChangeSpec) : _root_.Go.OpenSpec := { _root_.Go.OpenSpec.ofChange s with cond := some uptoSmall }

/-- 'cisternlaw22.HelloOptions', WHERE WHAT IT READS IS OF BULK AT MOST 1048576: true; the input reads as it did. -/
def helloOptionsUptoRow : OpenClaim := { program := "ytgepekailoopeaa", sum := "c9f53dff20c34f1e327e5927cb8a53548e8c127b497b2c437975b7a8d22ba8fc", func := "cistern/cisternlaw22.HelloOptions", spec := "helloOptions", unfollowed := true, recurses := true, apart := false, narrowed := true }
def HelloOptionsUptoSaid : Prop := helloOptionsUptoRow.holds Try.pinned (OpenSpec.upto helloOptionsSpec)

/-- 'cisternlaw22.HelloAnswers', WHERE WHAT IT READS IS OF BULK AT MOST 1048576: true; the input reads as it did. -/
def helloAnswersUptoRow : OpenClaim := { program := "ytgepekailoopeaa", sum := "c9f53dff20c34f1e327e5927cb8a53548e8c127b497b2c437975b7a8d22ba8fc", func := "cistern/cisternlaw22.HelloAnswers", spec := "helloAnswers", unfollowed := true, recurses := true, apart := false, narrowed := true }
def HelloAnswersUptoSaid : Prop := helloAnswersUptoRow.holds Try.pinned (OpenSpec.upto helloAnswersSpec)

/-- 'cisternlaw22.HelloGreets', WHERE WHAT IT READS IS OF BULK AT MOST 1048576: true; the input reads as it did. -/
def helloGreetsUptoRow : OpenClaim := { program := "ytgepekailoopeaa", sum := "c9f53dff20c34f1e327e5927cb8a53548e8c127b497b2c437975b7a8d22ba8fc", func := "cistern/cisternlaw22.HelloGreets", spec := "helloGreets", unfollowed := true, recurses := true, apart := false, narrowed := true }
def HelloGreetsUptoSaid : Prop := helloGreetsUptoRow.holds Try.pinned (OpenSpec.upto helloGreetsSpec)

/-- 'cisternlaw22.HelloExports', WHERE WHAT IT READS IS OF BULK AT MOST 1048576: true; the input reads as it did. -/
def helloExportsUptoRow : OpenClaim := { program := "ytgepekailoopeaa", sum := "c9f53dff20c34f1e327e5927cb8a53548e8c127b497b2c437975b7a8d22ba8fc", func := "cistern/cisternlaw22.HelloExports", spec := "helloExports", unfollowed := true, recurses := true, apart := false, narrowed := true }
def HelloExportsUptoSaid : Prop := helloExportsUptoRow.holds Try.pinned (OpenSpec.upto helloExportsSpec)

/-- 'cisternlaw22.HelloWishes', WHERE WHAT IT READS IS OF BULK AT MOST 1048576: true; the input reads as it did. -/
def helloWishesUptoRow : OpenClaim := { program := "ytgepekailoopeaa", sum := "c9f53dff20c34f1e327e5927cb8a53548e8c127b497b2c437975b7a8d22ba8fc", func := "cistern/cisternlaw22.HelloWishes", spec := "helloWishes", unfollowed := true, recurses := true, apart := false, narrowed := true }
def HelloWishesUptoSaid : Prop := helloWishesUptoRow.holds Try.pinned (OpenSpec.upto helloWishesSpec)

/-- 'cisternlaw22.HelloBack', WHERE WHAT IT READS IS OF BULK AT MOST 1048576: true; the input reads as it did. -/
def helloBackUptoRow : OpenClaim := { program := "ytgepekailoopeaa", sum := "c9f53dff20c34f1e327e5927cb8a53548e8c127b497b2c437975b7a8d22ba8fc", func := "cistern/cisternlaw22.HelloBack", spec := "helloBack", unfollowed := true, recurses := true, apart := false, narrowed := true }
def HelloBackUptoSaid : Prop := helloBackUptoRow.holds Try.pinned (OpenSpec.upto helloBackSpec)

/-- 'cisternlaw22.HelloInfos', WHERE WHAT IT READS IS OF BULK AT MOST 1048576: true; the input reads as it did. -/
def helloInfosUptoRow : OpenClaim := { program := "ytgepekailoopeaa", sum := "c9f53dff20c34f1e327e5927cb8a53548e8c127b497b2c437975b7a8d22ba8fc", func := "cistern/cisternlaw22.HelloInfos", spec := "helloInfos", unfollowed := true, recurses := true, apart := false, narrowed := true }
def HelloInfosUptoSaid : Prop := helloInfosUptoRow.holds Try.pinned (OpenSpec.upto helloInfosSpec)

/-- 'cisternlaw22.HelloData', WHERE WHAT IT READS IS OF BULK AT MOST 1048576: true; the input reads as it did. -/
def helloDataUptoRow : OpenClaim := { program := "ytgepekailoopeaa", sum := "c9f53dff20c34f1e327e5927cb8a53548e8c127b497b2c437975b7a8d22ba8fc", func := "cistern/cisternlaw22.HelloData", spec := "helloData", unfollowed := true, recurses := true, apart := false, narrowed := true }
def HelloDataUptoSaid : Prop := helloDataUptoRow.holds Try.pinned (OpenSpec.upto helloDataSpec)

/-- 'cisternlaw22.HelloTells', WHERE WHAT IT READS IS OF BULK AT MOST 1048576: true; the input reads as it did. -/
def helloTellsUptoRow : OpenClaim := { program := "ytgepekailoopeaa", sum := "c9f53dff20c34f1e327e5927cb8a53548e8c127b497b2c437975b7a8d22ba8fc", func := "cistern/cisternlaw22.HelloTells", spec := "helloTells", unfollowed := true, recurses := true, apart := false, narrowed := true }
def HelloTellsUptoSaid : Prop := helloTellsUptoRow.holds Try.pinned (OpenSpec.upto helloTellsSpec)

/-- 'cisternlaw22.HelloParts', WHERE WHAT IT READS IS OF BULK AT MOST 1048576: true; the input reads as it did. -/
def helloPartsUptoRow : OpenClaim := { program := "ytgepekailoopeaa", sum := "c9f53dff20c34f1e327e5927cb8a53548e8c127b497b2c437975b7a8d22ba8fc", func := "cistern/cisternlaw22.HelloParts", spec := "helloParts", unfollowed := true, recurses := true, apart := false, narrowed := true }
def HelloPartsUptoSaid : Prop := helloPartsUptoRow.holds Try.pinned (OpenSpec.upto helloPartsSpec)

/-- 'cisternlaw22.HelloKnown', WHERE WHAT IT READS IS OF BULK AT MOST 1048576: true; the input reads as it did. -/
def helloKnownUptoRow : OpenClaim := { program := "ytgepekailoopeaa", sum := "c9f53dff20c34f1e327e5927cb8a53548e8c127b497b2c437975b7a8d22ba8fc", func := "cistern/cisternlaw22.HelloKnown", spec := "helloKnown", unfollowed := true, recurses := true, apart := false, narrowed := true }
def HelloKnownUptoSaid : Prop := helloKnownUptoRow.holds Try.pinned (OpenSpec.upto helloKnownSpec)

end Rows
end Go.Proofs.Ytgepekailoopeaa
