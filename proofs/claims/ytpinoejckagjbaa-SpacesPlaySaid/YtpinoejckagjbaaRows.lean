/-
  No cell of these rows narrows 'for every input' (looked for: loops, veiled, ifaces, maps, wideKeys, modest, calm, conditions, laid).
  DERIVED. THE GIVEN ROWS OF THIS SEAT. 8 by the template 'for every input the law returns true; each argument reads behind the call as it read before'; 0 by the template 'total and deterministic' (their statements: YtpinoejckagjbaaTotals.lean).
  GIVEN WITH THE SEED: the statements are not yours to turn. If you find one false, say at which input.
  Laid BY PROGRAM, IN A SANDBOX (cutbox-rows.mjs): the forced cells as the released guide's own fill.sh prints them over the translation 348bc94e3f877877… (all of the seat's roots in one cut). By AI agents, Wed Nov 11 2026. No macro, syntax, notation, axiom, sorry.
-/
import Derived.Test.YtpinoejckagjbaaChecked
import GoSem.Claim
import GoSem.ClaimJoined
import GoSem.ClaimMapViews
import Derived.JoinedTies
import Derived.KernelRfl
namespace Go.Proofs.Ytpinoejckagjbaa
/- THE CELL 'sum', in the pinned program and in every row, IS THE sha256 OF THE DUMP (.gsa) THAT YtpinoejckagjbaaProg.lean LOADS. Nothing in Lean hashes anything: it is a label: what it is worth is what the hold of that sum in a sandbox is worth. -/
noncomputable def Try.pinned : Pinned := { name := "ytpinoejckagjbaa", sum := "348bc94e3f87787767c0dd8274e3e48c7e46c81ba2e962d18d29bf812069f667", checked := Try.checked }
namespace Rows
def none {H : Type} : Left H := { results := [], args := [] }

/-- 'mummerlaw16.ShadowLast': WHATEVER THE INPUT: true; the input reads as it did. -/
def shadowLastSpec : ChangeSpec := { name := "shadowLast", fn := fun _ => fun
  | [d1, d2] => { results := [.lit (.bool true)], args := [d1, d2] }
  | _ => none }
def shadowLastRow : OpenClaim := { program := "ytpinoejckagjbaa", sum := "348bc94e3f87787767c0dd8274e3e48c7e46c81ba2e962d18d29bf812069f667", func := "mummer/mummerlaw16.ShadowLast", spec := "shadowLast", inPlace := ["sync/atomic.AddInt64"], unfollowed := true, recurses := true, apart := false }
def ShadowLastSaid : Prop := shadowLastRow.holds Try.pinned (OpenSpec.ofChange shadowLastSpec)

/-- ITS FALSE NEIGHBOUR: 'it returns false'. Refute it at one input. -/
def shadowLastWrong : ChangeSpec := { name := "shadowLast", fn := fun _ => fun
  | [d1, d2] => { results := [.lit (.bool false)], args := [d1, d2] }
  | _ => none }
def ShadowLastWrongFalsely : Prop := shadowLastRow.holds Try.pinned (OpenSpec.ofChange shadowLastWrong)

/-- 'mummerlaw16.ShadowWrites': WHATEVER THE INPUT: true; the input reads as it did. -/
def shadowWritesSpec : ChangeSpec := { name := "shadowWrites", fn := fun _ => fun
  | [d1, d2] => { results := [.lit (.bool true)], args := [d1, d2] }
  | _ => none }
def shadowWritesRow : OpenClaim := { program := "ytpinoejckagjbaa", sum := "348bc94e3f87787767c0dd8274e3e48c7e46c81ba2e962d18d29bf812069f667", func := "mummer/mummerlaw16.ShadowWrites", spec := "shadowWrites", inPlace := ["sync/atomic.AddInt64"], unfollowed := true, recurses := true, apart := false }
def ShadowWritesSaid : Prop := shadowWritesRow.holds Try.pinned (OpenSpec.ofChange shadowWritesSpec)

/-- ITS FALSE NEIGHBOUR: 'it returns false'. Refute it at one input. -/
def shadowWritesWrong : ChangeSpec := { name := "shadowWrites", fn := fun _ => fun
  | [d1, d2] => { results := [.lit (.bool false)], args := [d1, d2] }
  | _ => none }
def ShadowWritesWrongFalsely : Prop := shadowWritesRow.holds Try.pinned (OpenSpec.ofChange shadowWritesWrong)

/-- 'mummerlaw16.ShadowBegins': WHATEVER THE INPUT: true; the input reads as it did. -/
def shadowBeginsSpec : ChangeSpec := { name := "shadowBegins", fn := fun _ => fun
  | [d1, d2, d3] => { results := [.lit (.bool true)], args := [d1, d2, d3] }
  | _ => none }
def shadowBeginsRow : OpenClaim := { program := "ytpinoejckagjbaa", sum := "348bc94e3f87787767c0dd8274e3e48c7e46c81ba2e962d18d29bf812069f667", func := "mummer/mummerlaw16.ShadowBegins", spec := "shadowBegins", inPlace := ["sync/atomic.AddInt64"], unfollowed := true, recurses := true, apart := false }
def ShadowBeginsSaid : Prop := shadowBeginsRow.holds Try.pinned (OpenSpec.ofChange shadowBeginsSpec)

/-- ITS FALSE NEIGHBOUR: 'it returns false'. Refute it at one input. -/
def shadowBeginsWrong : ChangeSpec := { name := "shadowBegins", fn := fun _ => fun
  | [d1, d2, d3] => { results := [.lit (.bool false)], args := [d1, d2, d3] }
  | _ => none }
def ShadowBeginsWrongFalsely : Prop := shadowBeginsRow.holds Try.pinned (OpenSpec.ofChange shadowBeginsWrong)

/-- 'mummerlaw16.ShadowPlays': WHATEVER THE INPUT: true; the input reads as it did. -/
def shadowPlaysSpec : ChangeSpec := { name := "shadowPlays", fn := fun _ => fun
  | [d1, d2, d3] => { results := [.lit (.bool true)], args := [d1, d2, d3] }
  | _ => none }
def shadowPlaysRow : OpenClaim := { program := "ytpinoejckagjbaa", sum := "348bc94e3f87787767c0dd8274e3e48c7e46c81ba2e962d18d29bf812069f667", func := "mummer/mummerlaw16.ShadowPlays", spec := "shadowPlays", inPlace := ["sync/atomic.AddInt64"], unfollowed := true, recurses := true, apart := false }
def ShadowPlaysSaid : Prop := shadowPlaysRow.holds Try.pinned (OpenSpec.ofChange shadowPlaysSpec)

/-- ITS FALSE NEIGHBOUR: 'it returns false'. Refute it at one input. -/
def shadowPlaysWrong : ChangeSpec := { name := "shadowPlays", fn := fun _ => fun
  | [d1, d2, d3] => { results := [.lit (.bool false)], args := [d1, d2, d3] }
  | _ => none }
def ShadowPlaysWrongFalsely : Prop := shadowPlaysRow.holds Try.pinned (OpenSpec.ofChange shadowPlaysWrong)

/-- 'mummerlaw25.SpacesApart': WHATEVER THE INPUT: true; the input reads as it did. -/
def spacesApartSpec : ChangeSpec := { name := "spacesApart", fn := fun _ => fun
  | [d1, d2, d3] => { results := [.lit (.bool true)], args := [d1, d2, d3] }
  | _ => none }
def spacesApartRow : OpenClaim := { program := "ytpinoejckagjbaa", sum := "348bc94e3f87787767c0dd8274e3e48c7e46c81ba2e962d18d29bf812069f667", func := "mummer/mummerlaw25.SpacesApart", spec := "spacesApart", inPlace := ["sync/atomic.AddInt64"], unfollowed := true, recurses := true, apart := false }
def SpacesApartSaid : Prop := spacesApartRow.holds Try.pinned (OpenSpec.ofChange spacesApartSpec)

/-- ITS FALSE NEIGHBOUR: 'it returns false'. Refute it at one input. -/
def spacesApartWrong : ChangeSpec := { name := "spacesApart", fn := fun _ => fun
  | [d1, d2, d3] => { results := [.lit (.bool false)], args := [d1, d2, d3] }
  | _ => none }
def SpacesApartWrongFalsely : Prop := spacesApartRow.holds Try.pinned (OpenSpec.ofChange spacesApartWrong)

/-- 'mummerlaw25.SpacesBegin': WHATEVER THE INPUT: true; the input reads as it did. -/
def spacesBeginSpec : ChangeSpec := { name := "spacesBegin", fn := fun _ => fun
  | [d1, d2, d3] => { results := [.lit (.bool true)], args := [d1, d2, d3] }
  | _ => none }
def spacesBeginRow : OpenClaim := { program := "ytpinoejckagjbaa", sum := "348bc94e3f87787767c0dd8274e3e48c7e46c81ba2e962d18d29bf812069f667", func := "mummer/mummerlaw25.SpacesBegin", spec := "spacesBegin", inPlace := ["sync/atomic.AddInt64"], unfollowed := true, recurses := true, apart := false }
def SpacesBeginSaid : Prop := spacesBeginRow.holds Try.pinned (OpenSpec.ofChange spacesBeginSpec)

/-- ITS FALSE NEIGHBOUR: 'it returns false'. Refute it at one input. -/
def spacesBeginWrong : ChangeSpec := { name := "spacesBegin", fn := fun _ => fun
  | [d1, d2, d3] => { results := [.lit (.bool false)], args := [d1, d2, d3] }
  | _ => none }
def SpacesBeginWrongFalsely : Prop := spacesBeginRow.holds Try.pinned (OpenSpec.ofChange spacesBeginWrong)

/-- 'mummerlaw25.SpacesPlay': WHATEVER THE INPUT: true; the input reads as it did. -/
def spacesPlaySpec : ChangeSpec := { name := "spacesPlay", fn := fun _ => fun
  | [d1, d2, d3] => { results := [.lit (.bool true)], args := [d1, d2, d3] }
  | _ => none }
def spacesPlayRow : OpenClaim := { program := "ytpinoejckagjbaa", sum := "348bc94e3f87787767c0dd8274e3e48c7e46c81ba2e962d18d29bf812069f667", func := "mummer/mummerlaw25.SpacesPlay", spec := "spacesPlay", inPlace := ["sync/atomic.AddInt64", "sync/atomic.LoadInt64"], unfollowed := true, recurses := true, apart := false }
def SpacesPlaySaid : Prop := spacesPlayRow.holds Try.pinned (OpenSpec.ofChange spacesPlaySpec)

/-- ITS FALSE NEIGHBOUR: 'it returns false'. Refute it at one input. -/
def spacesPlayWrong : ChangeSpec := { name := "spacesPlay", fn := fun _ => fun
  | [d1, d2, d3] => { results := [.lit (.bool false)], args := [d1, d2, d3] }
  | _ => none }
def SpacesPlayWrongFalsely : Prop := spacesPlayRow.holds Try.pinned (OpenSpec.ofChange spacesPlayWrong)

/-- 'mummerlaw25.SpacesNone': WHATEVER THE INPUT: true; the input reads as it did. -/
def spacesNoneSpec : ChangeSpec := { name := "spacesNone", fn := fun _ => fun
  | [d] => { results := [.lit (.bool true)], args := [d] }
  | _ => none }
def spacesNoneRow : OpenClaim := { program := "ytpinoejckagjbaa", sum := "348bc94e3f87787767c0dd8274e3e48c7e46c81ba2e962d18d29bf812069f667", func := "mummer/mummerlaw25.SpacesNone", spec := "spacesNone", inPlace := ["sync/atomic.LoadInt64", "sync/atomic.AddInt64"], unfollowed := true, recurses := true, apart := false }
def SpacesNoneSaid : Prop := spacesNoneRow.holds Try.pinned (OpenSpec.ofChange spacesNoneSpec)

/-- ITS FALSE NEIGHBOUR: 'it returns false'. Refute it at one input. -/
def spacesNoneWrong : ChangeSpec := { name := "spacesNone", fn := fun _ => fun
  | [d] => { results := [.lit (.bool false)], args := [d] }
  | _ => none }
def SpacesNoneWrongFalsely : Prop := spacesNoneRow.holds Try.pinned (OpenSpec.ofChange spacesNoneWrong)

/- THE SECOND FORM. 'bulk': how many values and letters a reading holds, each counted each time it is reached (what is shared counts as often as it is met; a slice's spare places count too). A statement '..UptoSaid' is the law's where the arguments, and the package variables that the reading takes, are together of bulk at most 1048576: NARROWER than '..Said'. Prove '..Said' where nothing that the law and all that it calls make is longer than what came in: it says more and counts as full. Else prove '..UptoSaid'. A law counts once. -/
mutual
def uptoBulk {H : Type} : DataW H → Nat
  | .lit (.string bytes) => bytes.length + 1
  | .lit _ => 1
  | .nil => 1
  | .ptr d => uptoBulk d + 1
  | .slice elems spare => uptoBulkAll elems + uptoBulkAll spare + 1
  | .agg parts => uptoBulkAll parts + 1
  | .iface _ d => uptoBulk d + 1
  | .map entries => uptoBulkEntries entries + 1
  | .held _ => 1
def uptoBulkAll {H : Type} : List (DataW H) → Nat
  | [] => 0
  | d :: r => uptoBulk d + uptoBulkAll r
def uptoBulkEntries {H : Type} : List (Lit × DataW H) → Nat
  | [] => 0
  | x :: r => uptoBulkEntry x + uptoBulkEntries r
def uptoBulkEntry {H : Type} : Lit × DataW H → Nat
  | (.string bytes, d) => bytes.length + uptoBulk d + 1
  | (_, d) => uptoBulk d + 1
 end
def uptoSmall : (H : Type) → List (DataW H) → Bool := fun _ ds => decide (uptoBulkAll ds ≤ 1048576)
def OpenSpec.upto (s : _root_.Go.ChangeSpec) : _root_.Go.OpenSpec := { _root_.Go.OpenSpec.ofChange s with cond := some uptoSmall }

/-- 'mummerlaw16.ShadowLast', WHERE WHAT IT READS IS OF BULK AT MOST 1048576: true; the input reads as it did. -/
def shadowLastUptoRow : OpenClaim := { program := "ytpinoejckagjbaa", sum := "348bc94e3f87787767c0dd8274e3e48c7e46c81ba2e962d18d29bf812069f667", func := "mummer/mummerlaw16.ShadowLast", spec := "shadowLast", inPlace := ["sync/atomic.AddInt64"], unfollowed := true, recurses := true, apart := false, narrowed := true }
def ShadowLastUptoSaid : Prop := shadowLastUptoRow.holds Try.pinned (OpenSpec.upto shadowLastSpec)

/-- 'mummerlaw16.ShadowWrites', WHERE WHAT IT READS IS OF BULK AT MOST 1048576: true; the input reads as it did. -/
def shadowWritesUptoRow : OpenClaim := { program := "ytpinoejckagjbaa", sum := "348bc94e3f87787767c0dd8274e3e48c7e46c81ba2e962d18d29bf812069f667", func := "mummer/mummerlaw16.ShadowWrites", spec := "shadowWrites", inPlace := ["sync/atomic.AddInt64"], unfollowed := true, recurses := true, apart := false, narrowed := true }
def ShadowWritesUptoSaid : Prop := shadowWritesUptoRow.holds Try.pinned (OpenSpec.upto shadowWritesSpec)

/-- 'mummerlaw16.ShadowBegins', WHERE WHAT IT READS IS OF BULK AT MOST 1048576: true; the input reads as it did. -/
def shadowBeginsUptoRow : OpenClaim := { program := "ytpinoejckagjbaa", sum := "348bc94e3f87787767c0dd8274e3e48c7e46c81ba2e962d18d29bf812069f667", func := "mummer/mummerlaw16.ShadowBegins", spec := "shadowBegins", inPlace := ["sync/atomic.AddInt64"], unfollowed := true, recurses := true, apart := false, narrowed := true }
def ShadowBeginsUptoSaid : Prop := shadowBeginsUptoRow.holds Try.pinned (OpenSpec.upto shadowBeginsSpec)

/-- 'mummerlaw16.ShadowPlays', WHERE WHAT IT READS IS OF BULK AT MOST 1048576: true; the input reads as it did. -/
def shadowPlaysUptoRow : OpenClaim := { program := "ytpinoejckagjbaa", sum := "348bc94e3f87787767c0dd8274e3e48c7e46c81ba2e962d18d29bf812069f667", func := "mummer/mummerlaw16.ShadowPlays", spec := "shadowPlays", inPlace := ["sync/atomic.AddInt64"], unfollowed := true, recurses := true, apart := false, narrowed := true }
def ShadowPlaysUptoSaid : Prop := shadowPlaysUptoRow.holds Try.pinned (OpenSpec.upto shadowPlaysSpec)

/-- 'mummerlaw25.SpacesApart', WHERE WHAT IT READS IS OF BULK AT MOST 1048576: true; the input reads as it did. -/
def spacesApartUptoRow : OpenClaim := { program := "ytpinoejckagjbaa", sum := "348bc94e3f87787767c0dd8274e3e48c7e46c81ba2e962d18d29bf812069f667", func := "mummer/mummerlaw25.SpacesApart", spec := "spacesApart", inPlace := ["sync/atomic.AddInt64"], unfollowed := true, recurses := true, apart := false, narrowed := true }
def SpacesApartUptoSaid : Prop := spacesApartUptoRow.holds Try.pinned (OpenSpec.upto spacesApartSpec)

/-- 'mummerlaw25.SpacesBegin', WHERE WHAT IT READS IS OF BULK AT MOST 1048576: true; the input reads as it did. -/
def spacesBeginUptoRow : OpenClaim := { program := "ytpinoejckagjbaa", sum := "348bc94e3f87787767c0dd8274e3e48c7e46c81ba2e962d18d29bf812069f667", func := "mummer/mummerlaw25.SpacesBegin", spec := "spacesBegin", inPlace := ["sync/atomic.AddInt64"], unfollowed := true, recurses := true, apart := false, narrowed := true }
def SpacesBeginUptoSaid : Prop := spacesBeginUptoRow.holds Try.pinned (OpenSpec.upto spacesBeginSpec)

/-- 'mummerlaw25.SpacesPlay', WHERE WHAT IT READS IS OF BULK AT MOST 1048576: true; the input reads as it did. -/
def spacesPlayUptoRow : OpenClaim := { program := "ytpinoejckagjbaa", sum := "348bc94e3f87787767c0dd8274e3e48c7e46c81ba2e962d18d29bf812069f667", func := "mummer/mummerlaw25.SpacesPlay", spec := "spacesPlay", inPlace := ["sync/atomic.AddInt64", "sync/atomic.LoadInt64"], unfollowed := true, recurses := true, apart := false, narrowed := true }
def SpacesPlayUptoSaid : Prop := spacesPlayUptoRow.holds Try.pinned (OpenSpec.upto spacesPlaySpec)

/-- 'mummerlaw25.SpacesNone', WHERE WHAT IT READS IS OF BULK AT MOST 1048576: true; the input reads as it did. -/
def spacesNoneUptoRow : OpenClaim := { program := "ytpinoejckagjbaa", sum := "348bc94e3f87787767c0dd8274e3e48c7e46c81ba2e962d18d29bf812069f667", func := "mummer/mummerlaw25.SpacesNone", spec := "spacesNone", inPlace := ["sync/atomic.LoadInt64", "sync/atomic.AddInt64"], unfollowed := true, recurses := true, apart := false, narrowed := true }
def SpacesNoneUptoSaid : Prop := spacesNoneUptoRow.holds Try.pinned (OpenSpec.upto spacesNoneSpec)

end Rows
end Go.Proofs.Ytpinoejckagjbaa
