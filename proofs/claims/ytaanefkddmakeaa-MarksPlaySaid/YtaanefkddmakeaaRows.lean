/-
  No cell of these rows narrows 'for every input' (looked for: loops, veiled, ifaces, maps, wideKeys, modest, calm, conditions, laid).
  DERIVED. THE GIVEN ROWS OF THIS SEAT. 8 by the template 'for every input the law returns true; each argument reads behind the call as it read before'; 0 by the template 'total and deterministic' (their statements: YtaanefkddmakeaaTotals.lean).
  GIVEN WITH THE SEED: the statements are not yours to turn. If you find one false, say at which input.
  Laid BY PROGRAM, IN A SANDBOX (cutbox-rows.mjs): the forced cells as the released guide's own fill.sh prints them over the translation fc37c963109855e1… (all of the seat's roots in one cut). By AI agents, Wed Nov 11 2026. No macro, syntax, notation, axiom, sorry.
-/
import Derived.Test.YtaanefkddmakeaaChecked
import GoSem.Claim
import GoSem.ClaimJoined
import GoSem.ClaimMapViews
import Derived.JoinedTies
import Derived.KernelRfl
namespace Go.Proofs.Ytaanefkddmakeaa
/- THE CELL 'sum', in the pinned program and in every row, IS THE sha256 OF THE DUMP (.gsa) THAT YtaanefkddmakeaaProg.lean LOADS. Nothing in Lean hashes anything: it is a label: what it is worth is what the hold of that sum in a sandbox is worth. -/
noncomputable def Try.pinned : Pinned := { name := "ytaanefkddmakeaa", sum := "fc37c963109855e1717ed54f08a4eb9862f202bfe20537356000922317e8e20f", checked := Try.checked }
namespace Rows
def none {H : Type} : Left H := { results := [], args := [] }

/-- 'mummerlaw15.MarksApart': WHATEVER THE INPUT: true; the input reads as it did. -/
def marksApartSpec : ChangeSpec := { name := "marksApart", fn := fun _ => fun
  | [d1, d2, d3] => { results := [.lit (.bool true)], args := [d1, d2, d3] }
  | _ => none }
def marksApartRow : OpenClaim := { program := "ytaanefkddmakeaa", sum := "fc37c963109855e1717ed54f08a4eb9862f202bfe20537356000922317e8e20f", func := "mummer/mummerlaw15.MarksApart", spec := "marksApart", apart := false }
def MarksApartSaid : Prop := marksApartRow.holds Try.pinned (OpenSpec.ofChange marksApartSpec)

/-- ITS FALSE NEIGHBOUR: 'it returns false'. Refute it at one input. -/
def marksApartWrong : ChangeSpec := { name := "marksApart", fn := fun _ => fun
  | [d1, d2, d3] => { results := [.lit (.bool false)], args := [d1, d2, d3] }
  | _ => none }
def MarksApartWrongFalsely : Prop := marksApartRow.holds Try.pinned (OpenSpec.ofChange marksApartWrong)

/-- 'mummerlaw14.PoolBegins': WHATEVER THE INPUT: true; the input reads as it did. -/
def poolBeginsSpec : ChangeSpec := { name := "poolBegins", fn := fun _ => fun
  | [d1, d2] => { results := [.lit (.bool true)], args := [d1, d2] }
  | _ => none }
def poolBeginsRow : OpenClaim := { program := "ytaanefkddmakeaa", sum := "fc37c963109855e1717ed54f08a4eb9862f202bfe20537356000922317e8e20f", func := "mummer/mummerlaw14.PoolBegins", spec := "poolBegins", inPlace := ["sync/atomic.AddInt64"], apart := false }
def PoolBeginsSaid : Prop := poolBeginsRow.holds Try.pinned (OpenSpec.ofChange poolBeginsSpec)

/-- ITS FALSE NEIGHBOUR: 'it returns false'. Refute it at one input. -/
def poolBeginsWrong : ChangeSpec := { name := "poolBegins", fn := fun _ => fun
  | [d1, d2] => { results := [.lit (.bool false)], args := [d1, d2] }
  | _ => none }
def PoolBeginsWrongFalsely : Prop := poolBeginsRow.holds Try.pinned (OpenSpec.ofChange poolBeginsWrong)

/-- 'mummerlaw14.PoolApart': WHATEVER THE INPUT: true; the input reads as it did. -/
def poolApartSpec : ChangeSpec := { name := "poolApart", fn := fun _ => fun
  | [d1, d2, d3] => { results := [.lit (.bool true)], args := [d1, d2, d3] }
  | _ => none }
def poolApartRow : OpenClaim := { program := "ytaanefkddmakeaa", sum := "fc37c963109855e1717ed54f08a4eb9862f202bfe20537356000922317e8e20f", func := "mummer/mummerlaw14.PoolApart", spec := "poolApart", inPlace := ["sync/atomic.AddInt64"], apart := false }
def PoolApartSaid : Prop := poolApartRow.holds Try.pinned (OpenSpec.ofChange poolApartSpec)

/-- ITS FALSE NEIGHBOUR: 'it returns false'. Refute it at one input. -/
def poolApartWrong : ChangeSpec := { name := "poolApart", fn := fun _ => fun
  | [d1, d2, d3] => { results := [.lit (.bool false)], args := [d1, d2, d3] }
  | _ => none }
def PoolApartWrongFalsely : Prop := poolApartRow.holds Try.pinned (OpenSpec.ofChange poolApartWrong)

/-- 'mummerlaw15.MarksBegin': WHATEVER THE INPUT: true; the input reads as it did. -/
def marksBeginSpec : ChangeSpec := { name := "marksBegin", fn := fun _ => fun
  | [d1, d2] => { results := [.lit (.bool true)], args := [d1, d2] }
  | _ => none }
def marksBeginRow : OpenClaim := { program := "ytaanefkddmakeaa", sum := "fc37c963109855e1717ed54f08a4eb9862f202bfe20537356000922317e8e20f", func := "mummer/mummerlaw15.MarksBegin", spec := "marksBegin", unfollowed := true, recurses := true, apart := false }
def MarksBeginSaid : Prop := marksBeginRow.holds Try.pinned (OpenSpec.ofChange marksBeginSpec)

/-- ITS FALSE NEIGHBOUR: 'it returns false'. Refute it at one input. -/
def marksBeginWrong : ChangeSpec := { name := "marksBegin", fn := fun _ => fun
  | [d1, d2] => { results := [.lit (.bool false)], args := [d1, d2] }
  | _ => none }
def MarksBeginWrongFalsely : Prop := marksBeginRow.holds Try.pinned (OpenSpec.ofChange marksBeginWrong)

/-- 'mummerlaw15.MarksPlay': WHATEVER THE INPUT: true; the input reads as it did. -/
def marksPlaySpec : ChangeSpec := { name := "marksPlay", fn := fun _ => fun
  | [d1, d2] => { results := [.lit (.bool true)], args := [d1, d2] }
  | _ => none }
def marksPlayRow : OpenClaim := { program := "ytaanefkddmakeaa", sum := "fc37c963109855e1717ed54f08a4eb9862f202bfe20537356000922317e8e20f", func := "mummer/mummerlaw15.MarksPlay", spec := "marksPlay", unfollowed := true, recurses := true, apart := false }
def MarksPlaySaid : Prop := marksPlayRow.holds Try.pinned (OpenSpec.ofChange marksPlaySpec)

/-- ITS FALSE NEIGHBOUR: 'it returns false'. Refute it at one input. -/
def marksPlayWrong : ChangeSpec := { name := "marksPlay", fn := fun _ => fun
  | [d1, d2] => { results := [.lit (.bool false)], args := [d1, d2] }
  | _ => none }
def MarksPlayWrongFalsely : Prop := marksPlayRow.holds Try.pinned (OpenSpec.ofChange marksPlayWrong)

/-- 'mummerlaw15.MarksNone': WHATEVER THE INPUT: true; the input reads as it did. -/
def marksNoneSpec : ChangeSpec := { name := "marksNone", fn := fun _ => fun
  | [d1, d2] => { results := [.lit (.bool true)], args := [d1, d2] }
  | _ => none }
def marksNoneRow : OpenClaim := { program := "ytaanefkddmakeaa", sum := "fc37c963109855e1717ed54f08a4eb9862f202bfe20537356000922317e8e20f", func := "mummer/mummerlaw15.MarksNone", spec := "marksNone", unfollowed := true, recurses := true, apart := false }
def MarksNoneSaid : Prop := marksNoneRow.holds Try.pinned (OpenSpec.ofChange marksNoneSpec)

/-- ITS FALSE NEIGHBOUR: 'it returns false'. Refute it at one input. -/
def marksNoneWrong : ChangeSpec := { name := "marksNone", fn := fun _ => fun
  | [d1, d2] => { results := [.lit (.bool false)], args := [d1, d2] }
  | _ => none }
def MarksNoneWrongFalsely : Prop := marksNoneRow.holds Try.pinned (OpenSpec.ofChange marksNoneWrong)

/-- 'mummerlaw14.PoolPlays': WHATEVER THE INPUT: true; the input reads as it did. -/
def poolPlaysSpec : ChangeSpec := { name := "poolPlays", fn := fun _ => fun
  | [d1, d2, d3] => { results := [.lit (.bool true)], args := [d1, d2, d3] }
  | _ => none }
def poolPlaysRow : OpenClaim := { program := "ytaanefkddmakeaa", sum := "fc37c963109855e1717ed54f08a4eb9862f202bfe20537356000922317e8e20f", func := "mummer/mummerlaw14.PoolPlays", spec := "poolPlays", inPlace := ["sync/atomic.AddInt64", "sync/atomic.LoadInt64"], apart := false }
def PoolPlaysSaid : Prop := poolPlaysRow.holds Try.pinned (OpenSpec.ofChange poolPlaysSpec)

/-- ITS FALSE NEIGHBOUR: 'it returns false'. Refute it at one input. -/
def poolPlaysWrong : ChangeSpec := { name := "poolPlays", fn := fun _ => fun
  | [d1, d2, d3] => { results := [.lit (.bool false)], args := [d1, d2, d3] }
  | _ => none }
def PoolPlaysWrongFalsely : Prop := poolPlaysRow.holds Try.pinned (OpenSpec.ofChange poolPlaysWrong)

/-- 'mummerlaw14.PoolNone': WHATEVER THE INPUT: true; the input reads as it did. -/
def poolNoneSpec : ChangeSpec := { name := "poolNone", fn := fun _ => fun
  | [d] => { results := [.lit (.bool true)], args := [d] }
  | _ => none }
def poolNoneRow : OpenClaim := { program := "ytaanefkddmakeaa", sum := "fc37c963109855e1717ed54f08a4eb9862f202bfe20537356000922317e8e20f", func := "mummer/mummerlaw14.PoolNone", spec := "poolNone", inPlace := ["sync/atomic.AddInt64", "sync/atomic.LoadInt64"], apart := false }
def PoolNoneSaid : Prop := poolNoneRow.holds Try.pinned (OpenSpec.ofChange poolNoneSpec)

/-- ITS FALSE NEIGHBOUR: 'it returns false'. Refute it at one input. -/
def poolNoneWrong : ChangeSpec := { name := "poolNone", fn := fun _ => fun
  | [d] => { results := [.lit (.bool false)], args := [d] }
  | _ => none }
def PoolNoneWrongFalsely : Prop := poolNoneRow.holds Try.pinned (OpenSpec.ofChange poolNoneWrong)

/- THE SECOND FORM. 'bulk': how many values and letters a reading holds, each counted each time it is reached (what is shared counts as often as it is met; a slice's spare places count too). A statement '..UptoSaid' is the law's where the arguments, and the package variables that the reading takes, are together of bulk at most 1048576: NARROWER than '..Said'. Prove '..Said' where nothing that the law and all that it calls make is longer than what came in: it says more and counts as full. Else prove '..UptoSaid'. A law counts once. -/
mutual
def uptoBulk {H : Type} : DataW H → Nat
  | .lit (.string bytes) => bytes.length + 1
  | .lit _ => 1
  | .nil => 1
  | .ptr d => uptoBulk d + 1
  | .slice elems spare => uptoBulkAll elems + uptoBulkAll spare + 1
  | .agg parts => uptoBulkAll parts + 1
  | .iface _ d => uptoBulk d + 1
  | .map entries => uptoBulkEntries entries + 1
  | .held _ => 1
def uptoBulkAll {H : Type} : List (DataW H) → Nat
  | [] => 0
  | d :: r => uptoBulk d + uptoBulkAll r
def uptoBulkEntries {H : Type} : List (Lit × DataW H) → Nat
  | [] => 0
  | x :: r => uptoBulkEntry x + uptoBulkEntries r
def uptoBulkEntry {H : Type} : Lit × DataW H → Nat
  | (.string bytes, d) => bytes.length + uptoBulk d + 1
  | (_, d) => uptoBulk d + 1
 end
def uptoSmall : (H : Type) → List (DataW H) → Bool := fun _ ds => decide (uptoBulkAll ds ≤ 1048576)
def OpenSpec.upto (s : _root_.Go.ChangeSpec) : _root_.Go.OpenSpec := { _root_.Go.OpenSpec.ofChange s with cond := some uptoSmall }

/-- 'mummerlaw15.MarksApart', WHERE WHAT IT READS IS OF BULK AT MOST 1048576: true; the input reads as it did. -/
def marksApartUptoRow : OpenClaim := { program := "ytaanefkddmakeaa", sum := "fc37c963109855e1717ed54f08a4eb9862f202bfe20537356000922317e8e20f", func := "mummer/mummerlaw15.MarksApart", spec := "marksApart", apart := false, narrowed := true }
def MarksApartUptoSaid : Prop := marksApartUptoRow.holds Try.pinned (OpenSpec.upto marksApartSpec)

/-- 'mummerlaw14.PoolBegins', WHERE WHAT IT READS IS OF BULK AT MOST 1048576: true; the input reads as it did. -/
def poolBeginsUptoRow : OpenClaim := { program := "ytaanefkddmakeaa", sum := "fc37c963109855e1717ed54f08a4eb9862f202bfe20537356000922317e8e20f", func := "mummer/mummerlaw14.PoolBegins", spec := "poolBegins", inPlace := ["sync/atomic.AddInt64"], apart := false, narrowed := true }
def PoolBeginsUptoSaid : Prop := poolBeginsUptoRow.holds Try.pinned (OpenSpec.upto poolBeginsSpec)

/-- 'mummerlaw14.PoolApart', WHERE WHAT IT READS IS OF BULK AT MOST 1048576: true; the input reads as it did. -/
def poolApartUptoRow : OpenClaim := { program := "ytaanefkddmakeaa", sum := "fc37c963109855e1717ed54f08a4eb9862f202bfe20537356000922317e8e20f", func := "mummer/mummerlaw14.PoolApart", spec := "poolApart", inPlace := ["sync/atomic.AddInt64"], apart := false, narrowed := true }
def PoolApartUptoSaid : Prop := poolApartUptoRow.holds Try.pinned (OpenSpec.upto poolApartSpec)

/-- 'mummerlaw15.MarksBegin', WHERE WHAT IT READS IS OF BULK AT MOST 1048576: true; the input reads as it did. -/
def marksBeginUptoRow : OpenClaim := { program := "ytaanefkddmakeaa", sum := "fc37c963109855e1717ed54f08a4eb9862f202bfe20537356000922317e8e20f", func := "mummer/mummerlaw15.MarksBegin", spec := "marksBegin", unfollowed := true, recurses := true, apart := false, narrowed := true }
def MarksBeginUptoSaid : Prop := marksBeginUptoRow.holds Try.pinned (OpenSpec.upto marksBeginSpec)

/-- 'mummerlaw15.MarksPlay', WHERE WHAT IT READS IS OF BULK AT MOST 1048576: true; the input reads as it did. -/
def marksPlayUptoRow : OpenClaim := { program := "ytaanefkddmakeaa", sum := "fc37c963109855e1717ed54f08a4eb9862f202bfe20537356000922317e8e20f", func := "mummer/mummerlaw15.MarksPlay", spec := "marksPlay", unfollowed := true, recurses := true, apart := false, narrowed := true }
def MarksPlayUptoSaid : Prop := marksPlayUptoRow.holds Try.pinned (OpenSpec.upto marksPlaySpec)

/-- 'mummerlaw15.MarksNone', WHERE WHAT IT READS IS OF BULK AT MOST 1048576: true; the input reads as it did. -/
def marksNoneUptoRow : OpenClaim := { program := "ytaanefkddmakeaa", sum := "fc37c963109855e1717ed54f08a4eb9862f202bfe20537356000922317e8e20f", func := "mummer/mummerlaw15.MarksNone", spec := "marksNone", unfollowed := true, recurses := true, apart := false, narrowed := true }
def MarksNoneUptoSaid : Prop := marksNoneUptoRow.holds Try.pinned (OpenSpec.upto marksNoneSpec)

/-- 'mummerlaw14.PoolPlays', WHERE WHAT IT READS IS OF BULK AT MOST 1048576: true; the input reads as it did. -/
def poolPlaysUptoRow : OpenClaim := { program := "ytaanefkddmakeaa", sum := "fc37c963109855e1717ed54f08a4eb9862f202bfe20537356000922317e8e20f", func := "mummer/mummerlaw14.PoolPlays", spec := "poolPlays", inPlace := ["sync/atomic.AddInt64", "sync/atomic.LoadInt64"], apart := false, narrowed := true }
def PoolPlaysUptoSaid : Prop := poolPlaysUptoRow.holds Try.pinned (OpenSpec.upto poolPlaysSpec)

/-- 'mummerlaw14.PoolNone', WHERE WHAT IT READS IS OF BULK AT MOST 1048576: true; the input reads as it did. -/
def poolNoneUptoRow : OpenClaim := { program := "ytaanefkddmakeaa", sum := "fc37c963109855e1717ed54f08a4eb9862f202bfe20537356000922317e8e20f", func := "mummer/mummerlaw14.PoolNone", spec := "poolNone", inPlace := ["sync/atomic.AddInt64", "sync/atomic.LoadInt64"], apart := false, narrowed := true }
def PoolNoneUptoSaid : Prop := poolNoneUptoRow.holds Try.pinned (OpenSpec.upto poolNoneSpec)

end Rows
end Go.Proofs.Ytaanefkddmakeaa
