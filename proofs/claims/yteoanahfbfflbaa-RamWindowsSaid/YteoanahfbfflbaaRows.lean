/-
  No cell of these rows narrows 'for every input' (looked for: loops, veiled, ifaces, maps, wideKeys, modest, calm, conditions, laid).
  DERIVED. THE GIVEN ROWS OF THIS SEAT. 14 by the template 'for every input the law returns true; each argument reads behind the call as it read before'; 0 by the template 'total and deterministic' (their statements: YteoanahfbfflbaaTotals.lean).
  GIVEN WITH THE SEED: the statements are not yours to turn. If you find one false, say at which input.
  Laid BY PROGRAM, IN A SANDBOX (cutbox-rows.mjs): the forced cells as the released guide's own fill.sh prints them over the translation 6e7e5131e8385196… (all of the seat's roots in one cut). By AI agents, Wed Nov 11 2026. No macro, syntax, notation, axiom, sorry.
-/
import Derived.Test.YteoanahfbfflbaaChecked
import GoSem.Claim
import GoSem.ClaimJoined
import GoSem.ClaimMapViews
import Derived.JoinedTies
import Derived.KernelRfl
namespace Go.Proofs.Yteoanahfbfflbaa
/- THE CELL 'sum', in the pinned program and in every row, IS THE sha256 OF THE DUMP (.gsa) THAT YteoanahfbfflbaaProg.lean LOADS. Nothing in Lean hashes anything: it is a label: what it is worth is what the hold of that sum in a sandbox is worth. -/
noncomputable def Try.pinned : Pinned := { name := "yteoanahfbfflbaa", sum := "6e7e5131e8385196a2023fcf595e9bc102c86efce9bd19af248b03a7c4cdc6ec", checked := Try.checked }
namespace Rows
def none {H : Type} : Left H := { results := [], args := [] }

/-- 'mummerlaw05.RamSizes': WHATEVER THE INPUT: true; the input reads as it did. -/
def ramSizesSpec : ChangeSpec := { name := "ramSizes", fn := fun _ => fun
  | [d] => { results := [.lit (.bool true)], args := [d] }
  | _ => none }
def ramSizesRow : OpenClaim := { program := "yteoanahfbfflbaa", sum := "6e7e5131e8385196a2023fcf595e9bc102c86efce9bd19af248b03a7c4cdc6ec", func := "mummer/mummerlaw05.RamSizes", spec := "ramSizes", apart := false }
def RamSizesSaid : Prop := ramSizesRow.holds Try.pinned (OpenSpec.ofChange ramSizesSpec)

/-- ITS FALSE NEIGHBOUR: 'it returns false'. Refute it at one input. -/
def ramSizesWrong : ChangeSpec := { name := "ramSizes", fn := fun _ => fun
  | [d] => { results := [.lit (.bool false)], args := [d] }
  | _ => none }
def RamSizesWrongFalsely : Prop := ramSizesRow.holds Try.pinned (OpenSpec.ofChange ramSizesWrong)

/-- 'mummerlaw05.RamElsewhere': WHATEVER THE INPUT: true; the input reads as it did. -/
def ramElsewhereSpec : ChangeSpec := { name := "ramElsewhere", fn := fun _ => fun
  | [d1, d2, d3] => { results := [.lit (.bool true)], args := [d1, d2, d3] }
  | _ => none }
def ramElsewhereRow : OpenClaim := { program := "yteoanahfbfflbaa", sum := "6e7e5131e8385196a2023fcf595e9bc102c86efce9bd19af248b03a7c4cdc6ec", func := "mummer/mummerlaw05.RamElsewhere", spec := "ramElsewhere", unfollowed := true, recurses := true, apart := false }
def RamElsewhereSaid : Prop := ramElsewhereRow.holds Try.pinned (OpenSpec.ofChange ramElsewhereSpec)

/-- ITS FALSE NEIGHBOUR: 'it returns false'. Refute it at one input. -/
def ramElsewhereWrong : ChangeSpec := { name := "ramElsewhere", fn := fun _ => fun
  | [d1, d2, d3] => { results := [.lit (.bool false)], args := [d1, d2, d3] }
  | _ => none }
def RamElsewhereWrongFalsely : Prop := ramElsewhereRow.holds Try.pinned (OpenSpec.ofChange ramElsewhereWrong)

/-- 'mummerlaw05.RamWords': WHATEVER THE INPUT: true; the input reads as it did. -/
def ramWordsSpec : ChangeSpec := { name := "ramWords", fn := fun _ => fun
  | [d1, d2, d3] => { results := [.lit (.bool true)], args := [d1, d2, d3] }
  | _ => none }
def ramWordsRow : OpenClaim := { program := "yteoanahfbfflbaa", sum := "6e7e5131e8385196a2023fcf595e9bc102c86efce9bd19af248b03a7c4cdc6ec", func := "mummer/mummerlaw05.RamWords", spec := "ramWords", unfollowed := true, recurses := true, apart := false }
def RamWordsSaid : Prop := ramWordsRow.holds Try.pinned (OpenSpec.ofChange ramWordsSpec)

/-- ITS FALSE NEIGHBOUR: 'it returns false'. Refute it at one input. -/
def ramWordsWrong : ChangeSpec := { name := "ramWords", fn := fun _ => fun
  | [d1, d2, d3] => { results := [.lit (.bool false)], args := [d1, d2, d3] }
  | _ => none }
def RamWordsWrongFalsely : Prop := ramWordsRow.holds Try.pinned (OpenSpec.ofChange ramWordsWrong)

/-- 'mummerlaw05.RamPlays': WHATEVER THE INPUT: true; the input reads as it did. -/
def ramPlaysSpec : ChangeSpec := { name := "ramPlays", fn := fun _ => fun
  | [d1, d2] => { results := [.lit (.bool true)], args := [d1, d2] }
  | _ => none }
def ramPlaysRow : OpenClaim := { program := "yteoanahfbfflbaa", sum := "6e7e5131e8385196a2023fcf595e9bc102c86efce9bd19af248b03a7c4cdc6ec", func := "mummer/mummerlaw05.RamPlays", spec := "ramPlays", unfollowed := true, recurses := true, apart := false }
def RamPlaysSaid : Prop := ramPlaysRow.holds Try.pinned (OpenSpec.ofChange ramPlaysSpec)

/-- ITS FALSE NEIGHBOUR: 'it returns false'. Refute it at one input. -/
def ramPlaysWrong : ChangeSpec := { name := "ramPlays", fn := fun _ => fun
  | [d1, d2] => { results := [.lit (.bool false)], args := [d1, d2] }
  | _ => none }
def RamPlaysWrongFalsely : Prop := ramPlaysRow.holds Try.pinned (OpenSpec.ofChange ramPlaysWrong)

/-- 'mummerlaw06.WalkLooks': WHATEVER THE INPUT: true; the input reads as it did. -/
def walkLooksSpec : ChangeSpec := { name := "walkLooks", fn := fun _ => fun
  | [d1, d2, d3] => { results := [.lit (.bool true)], args := [d1, d2, d3] }
  | _ => none }
def walkLooksRow : OpenClaim := { program := "yteoanahfbfflbaa", sum := "6e7e5131e8385196a2023fcf595e9bc102c86efce9bd19af248b03a7c4cdc6ec", func := "mummer/mummerlaw06.WalkLooks", spec := "walkLooks", unfollowed := true, recurses := true, apart := false }
def WalkLooksSaid : Prop := walkLooksRow.holds Try.pinned (OpenSpec.ofChange walkLooksSpec)

/-- ITS FALSE NEIGHBOUR: 'it returns false'. Refute it at one input. -/
def walkLooksWrong : ChangeSpec := { name := "walkLooks", fn := fun _ => fun
  | [d1, d2, d3] => { results := [.lit (.bool false)], args := [d1, d2, d3] }
  | _ => none }
def WalkLooksWrongFalsely : Prop := walkLooksRow.holds Try.pinned (OpenSpec.ofChange walkLooksWrong)

/-- 'mummerlaw06.WalkPages': WHATEVER THE INPUT: true; the input reads as it did. -/
def walkPagesSpec : ChangeSpec := { name := "walkPages", fn := fun _ => fun
  | [d1, d2, d3] => { results := [.lit (.bool true)], args := [d1, d2, d3] }
  | _ => none }
def walkPagesRow : OpenClaim := { program := "yteoanahfbfflbaa", sum := "6e7e5131e8385196a2023fcf595e9bc102c86efce9bd19af248b03a7c4cdc6ec", func := "mummer/mummerlaw06.WalkPages", spec := "walkPages", unfollowed := true, recurses := true, apart := false }
def WalkPagesSaid : Prop := walkPagesRow.holds Try.pinned (OpenSpec.ofChange walkPagesSpec)

/-- ITS FALSE NEIGHBOUR: 'it returns false'. Refute it at one input. -/
def walkPagesWrong : ChangeSpec := { name := "walkPages", fn := fun _ => fun
  | [d1, d2, d3] => { results := [.lit (.bool false)], args := [d1, d2, d3] }
  | _ => none }
def WalkPagesWrongFalsely : Prop := walkPagesRow.holds Try.pinned (OpenSpec.ofChange walkPagesWrong)

/-- 'mummerlaw06.WalkHangs': WHATEVER THE INPUT: true; the input reads as it did. -/
def walkHangsSpec : ChangeSpec := { name := "walkHangs", fn := fun _ => fun
  | [d1, d2, d3] => { results := [.lit (.bool true)], args := [d1, d2, d3] }
  | _ => none }
def walkHangsRow : OpenClaim := { program := "yteoanahfbfflbaa", sum := "6e7e5131e8385196a2023fcf595e9bc102c86efce9bd19af248b03a7c4cdc6ec", func := "mummer/mummerlaw06.WalkHangs", spec := "walkHangs", unfollowed := true, recurses := true, apart := false }
def WalkHangsSaid : Prop := walkHangsRow.holds Try.pinned (OpenSpec.ofChange walkHangsSpec)

/-- ITS FALSE NEIGHBOUR: 'it returns false'. Refute it at one input. -/
def walkHangsWrong : ChangeSpec := { name := "walkHangs", fn := fun _ => fun
  | [d1, d2, d3] => { results := [.lit (.bool false)], args := [d1, d2, d3] }
  | _ => none }
def WalkHangsWrongFalsely : Prop := walkHangsRow.holds Try.pinned (OpenSpec.ofChange walkHangsWrong)

/-- 'mummerlaw05.RamWindows': WHATEVER THE INPUT: true; the input reads as it did. -/
def ramWindowsSpec : ChangeSpec := { name := "ramWindows", fn := fun _ => fun
  | [d1, d2, d3] => { results := [.lit (.bool true)], args := [d1, d2, d3] }
  | _ => none }
def ramWindowsRow : OpenClaim := { program := "yteoanahfbfflbaa", sum := "6e7e5131e8385196a2023fcf595e9bc102c86efce9bd19af248b03a7c4cdc6ec", func := "mummer/mummerlaw05.RamWindows", spec := "ramWindows", unfollowed := true, recurses := true, apart := false }
def RamWindowsSaid : Prop := ramWindowsRow.holds Try.pinned (OpenSpec.ofChange ramWindowsSpec)

/-- ITS FALSE NEIGHBOUR: 'it returns false'. Refute it at one input. -/
def ramWindowsWrong : ChangeSpec := { name := "ramWindows", fn := fun _ => fun
  | [d1, d2, d3] => { results := [.lit (.bool false)], args := [d1, d2, d3] }
  | _ => none }
def RamWindowsWrongFalsely : Prop := ramWindowsRow.holds Try.pinned (OpenSpec.ofChange ramWindowsWrong)

/-- 'mummerlaw06.WalkSoils': WHATEVER THE INPUT: true; the input reads as it did. -/
def walkSoilsSpec : ChangeSpec := { name := "walkSoils", fn := fun _ => fun
  | [d1, d2, d3] => { results := [.lit (.bool true)], args := [d1, d2, d3] }
  | _ => none }
def walkSoilsRow : OpenClaim := { program := "yteoanahfbfflbaa", sum := "6e7e5131e8385196a2023fcf595e9bc102c86efce9bd19af248b03a7c4cdc6ec", func := "mummer/mummerlaw06.WalkSoils", spec := "walkSoils", unfollowed := true, recurses := true, apart := false }
def WalkSoilsSaid : Prop := walkSoilsRow.holds Try.pinned (OpenSpec.ofChange walkSoilsSpec)

/-- ITS FALSE NEIGHBOUR: 'it returns false'. Refute it at one input. -/
def walkSoilsWrong : ChangeSpec := { name := "walkSoils", fn := fun _ => fun
  | [d1, d2, d3] => { results := [.lit (.bool false)], args := [d1, d2, d3] }
  | _ => none }
def WalkSoilsWrongFalsely : Prop := walkSoilsRow.holds Try.pinned (OpenSpec.ofChange walkSoilsWrong)

/-- 'mummerlaw05.RamNone': WHATEVER THE INPUT: true; the input reads as it did. -/
def ramNoneSpec : ChangeSpec := { name := "ramNone", fn := fun _ => fun
  | [d] => { results := [.lit (.bool true)], args := [d] }
  | _ => none }
def ramNoneRow : OpenClaim := { program := "yteoanahfbfflbaa", sum := "6e7e5131e8385196a2023fcf595e9bc102c86efce9bd19af248b03a7c4cdc6ec", func := "mummer/mummerlaw05.RamNone", spec := "ramNone", unfollowed := true, recurses := true, apart := false }
def RamNoneSaid : Prop := ramNoneRow.holds Try.pinned (OpenSpec.ofChange ramNoneSpec)

/-- ITS FALSE NEIGHBOUR: 'it returns false'. Refute it at one input. -/
def ramNoneWrong : ChangeSpec := { name := "ramNone", fn := fun _ => fun
  | [d] => { results := [.lit (.bool false)], args := [d] }
  | _ => none }
def RamNoneWrongFalsely : Prop := ramNoneRow.holds Try.pinned (OpenSpec.ofChange ramNoneWrong)

/-- 'mummerlaw06.WalkMays': WHATEVER THE INPUT: true; the input reads as it did. -/
def walkMaysSpec : ChangeSpec := { name := "walkMays", fn := fun _ => fun
  | [d1, d2, d3] => { results := [.lit (.bool true)], args := [d1, d2, d3] }
  | _ => none }
def walkMaysRow : OpenClaim := { program := "yteoanahfbfflbaa", sum := "6e7e5131e8385196a2023fcf595e9bc102c86efce9bd19af248b03a7c4cdc6ec", func := "mummer/mummerlaw06.WalkMays", spec := "walkMays", unfollowed := true, recurses := true, apart := false }
def WalkMaysSaid : Prop := walkMaysRow.holds Try.pinned (OpenSpec.ofChange walkMaysSpec)

/-- ITS FALSE NEIGHBOUR: 'it returns false'. Refute it at one input. -/
def walkMaysWrong : ChangeSpec := { name := "walkMays", fn := fun _ => fun
  | [d1, d2, d3] => { results := [.lit (.bool false)], args := [d1, d2, d3] }
  | _ => none }
def WalkMaysWrongFalsely : Prop := walkMaysRow.holds Try.pinned (OpenSpec.ofChange walkMaysWrong)

/-- 'mummerlaw06.WalkLess': WHATEVER THE INPUT: true; the input reads as it did. -/
def walkLessSpec : ChangeSpec := { name := "walkLess", fn := fun _ => fun
  | [d1, d2] => { results := [.lit (.bool true)], args := [d1, d2] }
  | _ => none }
def walkLessRow : OpenClaim := { program := "yteoanahfbfflbaa", sum := "6e7e5131e8385196a2023fcf595e9bc102c86efce9bd19af248b03a7c4cdc6ec", func := "mummer/mummerlaw06.WalkLess", spec := "walkLess", unfollowed := true, recurses := true, apart := false }
def WalkLessSaid : Prop := walkLessRow.holds Try.pinned (OpenSpec.ofChange walkLessSpec)

/-- ITS FALSE NEIGHBOUR: 'it returns false'. Refute it at one input. -/
def walkLessWrong : ChangeSpec := { name := "walkLess", fn := fun _ => fun
  | [d1, d2] => { results := [.lit (.bool false)], args := [d1, d2] }
  | _ => none }
def WalkLessWrongFalsely : Prop := walkLessRow.holds Try.pinned (OpenSpec.ofChange walkLessWrong)

/-- 'mummerlaw06.WalkComes': WHATEVER THE INPUT: true; the input reads as it did. -/
def walkComesSpec : ChangeSpec := { name := "walkComes", fn := fun _ => fun
  | [d1, d2, d3] => { results := [.lit (.bool true)], args := [d1, d2, d3] }
  | _ => none }
def walkComesRow : OpenClaim := { program := "yteoanahfbfflbaa", sum := "6e7e5131e8385196a2023fcf595e9bc102c86efce9bd19af248b03a7c4cdc6ec", func := "mummer/mummerlaw06.WalkComes", spec := "walkComes", unfollowed := true, recurses := true, apart := false }
def WalkComesSaid : Prop := walkComesRow.holds Try.pinned (OpenSpec.ofChange walkComesSpec)

/-- ITS FALSE NEIGHBOUR: 'it returns false'. Refute it at one input. -/
def walkComesWrong : ChangeSpec := { name := "walkComes", fn := fun _ => fun
  | [d1, d2, d3] => { results := [.lit (.bool false)], args := [d1, d2, d3] }
  | _ => none }
def WalkComesWrongFalsely : Prop := walkComesRow.holds Try.pinned (OpenSpec.ofChange walkComesWrong)

/-- 'mummerlaw06.WalkNone': WHATEVER THE INPUT: true; the input reads as it did. -/
def walkNoneSpec : ChangeSpec := { name := "walkNone", fn := fun _ => fun
  | [d] => { results := [.lit (.bool true)], args := [d] }
  | _ => none }
def walkNoneRow : OpenClaim := { program := "yteoanahfbfflbaa", sum := "6e7e5131e8385196a2023fcf595e9bc102c86efce9bd19af248b03a7c4cdc6ec", func := "mummer/mummerlaw06.WalkNone", spec := "walkNone", unfollowed := true, recurses := true, apart := false }
def WalkNoneSaid : Prop := walkNoneRow.holds Try.pinned (OpenSpec.ofChange walkNoneSpec)

/-- ITS FALSE NEIGHBOUR: 'it returns false'. Refute it at one input. -/
def walkNoneWrong : ChangeSpec := { name := "walkNone", fn := fun _ => fun
  | [d] => { results := [.lit (.bool false)], args := [d] }
  | _ => none }
def WalkNoneWrongFalsely : Prop := walkNoneRow.holds Try.pinned (OpenSpec.ofChange walkNoneWrong)

/- THE SECOND FORM. 'bulk': how many values and letters a reading holds, each counted each time it is reached (what is shared counts as often as it is met; a slice's spare places count too). A statement '..UptoSaid' is the law's where the arguments, and the package variables that the reading takes, are together of bulk at most 1048576: NARROWER than '..Said'. Prove '..Said' where nothing that the law and all that it calls make is longer than what came in: it says more and counts as full. Else prove '..UptoSaid'. A law counts once. -/
mutual
def uptoBulk {H : Type} : DataW H → Nat
  | .lit (.string bytes) => bytes.length + 1
  | .lit _ => 1
  | .nil => 1
  | .ptr d => uptoBulk d + 1
  | .slice elems spare => uptoBulkAll elems + uptoBulkAll spare + 1
  | .agg parts => uptoBulkAll parts + 1
  | .iface _ d => uptoBulk d + 1
  | .map entries => uptoBulkEntries entries + 1
  | .held _ => 1
def uptoBulkAll {H : Type} : List (DataW H) → Nat
  | [] => 0
  | d :: r => uptoBulk d + uptoBulkAll r
def uptoBulkEntries {H : Type} : List (Lit × DataW H) → Nat
  | [] => 0
  | x :: r => uptoBulkEntry x + uptoBulkEntries r
def uptoBulkEntry {H : Type} : Lit × DataW H → Nat
  | (.string bytes, d) => bytes.length + uptoBulk d + 1
  | (_, d) => uptoBulk d + 1
 end
def uptoSmall : (H : Type) → List (DataW H) → Bool := fun _ ds => decide (uptoBulkAll ds ≤ 1048576)
def OpenSpec.upto (s : _root_.Go.ChangeSpec) : _root_.Go.OpenSpec := { _root_.Go.OpenSpec.ofChange s with cond := some uptoSmall }

/-- 'mummerlaw05.RamSizes', WHERE WHAT IT READS IS OF BULK AT MOST 1048576: true; the input reads as it did. -/
def ramSizesUptoRow : OpenClaim := { program := "yteoanahfbfflbaa", sum := "6e7e5131e8385196a2023fcf595e9bc102c86efce9bd19af248b03a7c4cdc6ec", func := "mummer/mummerlaw05.RamSizes", spec := "ramSizes", apart := false, narrowed := true }
def RamSizesUptoSaid : Prop := ramSizesUptoRow.holds Try.pinned (OpenSpec.upto ramSizesSpec)

/-- 'mummerlaw05.RamElsewhere', WHERE WHAT IT READS IS OF BULK AT MOST 1048576: true; the input reads as it did. -/
def ramElsewhereUptoRow : OpenClaim := { program := "yteoanahfbfflbaa", sum := "6e7e5131e8385196a2023fcf595e9bc102c86efce9bd19af248b03a7c4cdc6ec", func := "mummer/mummerlaw05.RamElsewhere", spec := "ramElsewhere", unfollowed := true, recurses := true, apart := false, narrowed := true }
def RamElsewhereUptoSaid : Prop := ramElsewhereUptoRow.holds Try.pinned (OpenSpec.upto ramElsewhereSpec)

/-- 'mummerlaw05.RamWords', WHERE WHAT IT READS IS OF BULK AT MOST 1048576: true; the input reads as it did. -/
def ramWordsUptoRow : OpenClaim := { program := "yteoanahfbfflbaa", sum := "6e7e5131e8385196a2023fcf595e9bc102c86efce9bd19af248b03a7c4cdc6ec", func := "mummer/mummerlaw05.RamWords", spec := "ramWords", unfollowed := true, recurses := true, apart := false, narrowed := true }
def RamWordsUptoSaid : Prop := ramWordsUptoRow.holds Try.pinned (OpenSpec.upto ramWordsSpec)

/-- 'mummerlaw05.RamPlays', WHERE WHAT IT READS IS OF BULK AT MOST 1048576: true; the input reads as it did. -/
def ramPlaysUptoRow : OpenClaim := { program := "yteoanahfbfflbaa", sum := "6e7e5131e8385196a2023fcf595e9bc102c86efce9bd19af248b03a7c4cdc6ec", func := "mummer/mummerlaw05.RamPlays", spec := "ramPlays", unfollowed := true, recurses := true, apart := false, narrowed := true }
def RamPlaysUptoSaid : Prop := ramPlaysUptoRow.holds Try.pinned (OpenSpec.upto ramPlaysSpec)

/-- 'mummerlaw06.WalkLooks', WHERE WHAT IT READS IS OF BULK AT MOST 1048576: true; the input reads as it did. -/
def walkLooksUptoRow : OpenClaim := { program := "yteoanahfbfflbaa", sum := "6e7e5131e8385196a2023fcf595e9bc102c86efce9bd19af248b03a7c4cdc6ec", func := "mummer/mummerlaw06.WalkLooks", spec := "walkLooks", unfollowed := true, recurses := true, apart := false, narrowed := true }
def WalkLooksUptoSaid : Prop := walkLooksUptoRow.holds Try.pinned (OpenSpec.upto walkLooksSpec)

/-- 'mummerlaw06.WalkPages', WHERE WHAT IT READS IS OF BULK AT MOST 1048576: true; the input reads as it did. -/
def walkPagesUptoRow : OpenClaim := { program := "yteoanahfbfflbaa", sum := "6e7e5131e8385196a2023fcf595e9bc102c86efce9bd19af248b03a7c4cdc6ec", func := "mummer/mummerlaw06.WalkPages", spec := "walkPages", unfollowed := true, recurses := true, apart := false, narrowed := true }
def WalkPagesUptoSaid : Prop := walkPagesUptoRow.holds Try.pinned (OpenSpec.upto walkPagesSpec)

/-- 'mummerlaw06.WalkHangs', WHERE WHAT IT READS IS OF BULK AT MOST 1048576: true; the input reads as it did. -/
def walkHangsUptoRow : OpenClaim := { program := "yteoanahfbfflbaa", sum := "6e7e5131e8385196a2023fcf595e9bc102c86efce9bd19af248b03a7c4cdc6ec", func := "mummer/mummerlaw06.WalkHangs", spec := "walkHangs", unfollowed := true, recurses := true, apart := false, narrowed := true }
def WalkHangsUptoSaid : Prop := walkHangsUptoRow.holds Try.pinned (OpenSpec.upto walkHangsSpec)

/-- 'mummerlaw05.RamWindows', WHERE WHAT IT READS IS OF BULK AT MOST 1048576: true; the input reads as it did. -/
def ramWindowsUptoRow : OpenClaim := { program := "yteoanahfbfflbaa", sum := "6e7e5131e8385196a2023fcf595e9bc102c86efce9bd19af248b03a7c4cdc6ec", func := "mummer/mummerlaw05.RamWindows", spec := "ramWindows", unfollowed := true, recurses := true, apart := false, narrowed := true }
def RamWindowsUptoSaid : Prop := ramWindowsUptoRow.holds Try.pinned (OpenSpec.upto ramWindowsSpec)

/-- 'mummerlaw06.WalkSoils', WHERE WHAT IT READS IS OF BULK AT MOST 1048576: true; the input reads as it did. -/
def walkSoilsUptoRow : OpenClaim := { program := "yteoanahfbfflbaa", sum := "6e7e5131e8385196a2023fcf595e9bc102c86efce9bd19af248b03a7c4cdc6ec", func := "mummer/mummerlaw06.WalkSoils", spec := "walkSoils", unfollowed := true, recurses := true, apart := false, narrowed := true }
def WalkSoilsUptoSaid : Prop := walkSoilsUptoRow.holds Try.pinned (OpenSpec.upto walkSoilsSpec)

/-- 'mummerlaw05.RamNone', WHERE WHAT IT READS IS OF BULK AT MOST 1048576: true; the input reads as it did. -/
def ramNoneUptoRow : OpenClaim := { program := "yteoanahfbfflbaa", sum := "6e7e5131e8385196a2023fcf595e9bc102c86efce9bd19af248b03a7c4cdc6ec", func := "mummer/mummerlaw05.RamNone", spec := "ramNone", unfollowed := true, recurses := true, apart := false, narrowed := true }
def RamNoneUptoSaid : Prop := ramNoneUptoRow.holds Try.pinned (OpenSpec.upto ramNoneSpec)

/-- 'mummerlaw06.WalkMays', WHERE WHAT IT READS IS OF BULK AT MOST 1048576: true; the input reads as it did. -/
def walkMaysUptoRow : OpenClaim := { program := "yteoanahfbfflbaa", sum := "6e7e5131e8385196a2023fcf595e9bc102c86efce9bd19af248b03a7c4cdc6ec", func := "mummer/mummerlaw06.WalkMays", spec := "walkMays", unfollowed := true, recurses := true, apart := false, narrowed := true }
def WalkMaysUptoSaid : Prop := walkMaysUptoRow.holds Try.pinned (OpenSpec.upto walkMaysSpec)

/-- 'mummerlaw06.WalkLess', WHERE WHAT IT READS IS OF BULK AT MOST 1048576: true; the input reads as it did. -/
def walkLessUptoRow : OpenClaim := { program := "yteoanahfbfflbaa", sum := "6e7e5131e8385196a2023fcf595e9bc102c86efce9bd19af248b03a7c4cdc6ec", func := "mummer/mummerlaw06.WalkLess", spec := "walkLess", unfollowed := true, recurses := true, apart := false, narrowed := true }
def WalkLessUptoSaid : Prop := walkLessUptoRow.holds Try.pinned (OpenSpec.upto walkLessSpec)

/-- 'mummerlaw06.WalkComes', WHERE WHAT IT READS IS OF BULK AT MOST 1048576: true; the input reads as it did. -/
def walkComesUptoRow : OpenClaim := { program := "yteoanahfbfflbaa", sum := "6e7e5131e8385196a2023fcf595e9bc102c86efce9bd19af248b03a7c4cdc6ec", func := "mummer/mummerlaw06.WalkComes", spec := "walkComes", unfollowed := true, recurses := true, apart := false, narrowed := true }
def WalkComesUptoSaid : Prop := walkComesUptoRow.holds Try.pinned (OpenSpec.upto walkComesSpec)

/-- 'mummerlaw06.WalkNone', WHERE WHAT IT READS IS OF BULK AT MOST 1048576: true; the input reads as it did. -/
def walkNoneUptoRow : OpenClaim := { program := "yteoanahfbfflbaa", sum := "6e7e5131e8385196a2023fcf595e9bc102c86efce9bd19af248b03a7c4cdc6ec", func := "mummer/mummerlaw06.WalkNone", spec := "walkNone", unfollowed := true, recurses := true, apart := false, narrowed := true }
def WalkNoneUptoSaid : Prop := walkNoneUptoRow.holds Try.pinned (OpenSpec.upto walkNoneSpec)

end Rows
end Go.Proofs.Yteoanahfbfflbaa
