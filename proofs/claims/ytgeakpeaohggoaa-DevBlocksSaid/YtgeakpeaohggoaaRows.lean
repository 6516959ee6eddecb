/-
  No cell of these rows narrows 'for every input' (looked for: loops, veiled, ifaces, maps, wideKeys, modest, calm, conditions, laid).
  DERIVED. THE GIVEN ROWS OF THIS SEAT. 8 by the template 'for every input the law returns true; each argument reads behind the call as it read before'; 0 by the template 'total and deterministic' (their statements: YtgeakpeaohggoaaTotals.lean).
  GIVEN WITH THE SEED: the statements are not yours to turn. If you find one false, say at which input.
  Laid BY PROGRAM, IN A SANDBOX (cutbox-rows.mjs): the forced cells as the released guide's own fill.sh prints them over the translation d6628bd19e5abc5b… (all of the seat's roots in one cut). By AI agents, Wed Nov 11 2026. No macro, syntax, notation, axiom, sorry.
-/
import Derived.Test.YtgeakpeaohggoaaChecked
import GoSem.Claim
import GoSem.ClaimJoined
import GoSem.ClaimMapViews
import Derived.JoinedTies
import Derived.KernelRfl
namespace Go.Proofs.Ytgeakpeaohggoaa
/- THE CELL 'sum', in the pinned program and in every row, IS THE sha256 OF THE DUMP (.gsa) THAT YtgeakpeaohggoaaProg.lean LOADS. Nothing in Lean hashes anything: it is a label: what it is worth is what the hold of that sum in a sandbox is worth. -/
noncomputable def Try.pinned : Pinned := { name := "ytgeakpeaohggoaa", sum := "d6628bd19e5abc5b580e168eac76045d38dacd790084bccd730f9c0a9688d1d6", checked := Try.checked }
namespace Rows
def none {H : Type} : Left H := { results := [], args := [] }

/-- 'mummerlaw11.DevBytes': WHATEVER THE INPUT: true; the input reads as it did. -/
def devBytesSpec : ChangeSpec := { name := "devBytes", fn := fun _ => fun
  | [d1, d2] => { results := [.lit (.bool true)], args := [d1, d2] }
  | _ => none }
def devBytesRow : OpenClaim := { program := "ytgeakpeaohggoaa", sum := "d6628bd19e5abc5b580e168eac76045d38dacd790084bccd730f9c0a9688d1d6", func := "mummer/mummerlaw11.DevBytes", spec := "devBytes", unfollowed := true, recurses := true, apart := false }
def DevBytesSaid : Prop := devBytesRow.holds Try.pinned (OpenSpec.ofChange devBytesSpec)

/-- ITS FALSE NEIGHBOUR: 'it returns false'. Refute it at one input. -/
def devBytesWrong : ChangeSpec := { name := "devBytes", fn := fun _ => fun
  | [d1, d2] => { results := [.lit (.bool false)], args := [d1, d2] }
  | _ => none }
def DevBytesWrongFalsely : Prop := devBytesRow.holds Try.pinned (OpenSpec.ofChange devBytesWrong)

/-- 'mummerlaw11.DevOnce': WHATEVER THE INPUT: true; the input reads as it did. -/
def devOnceSpec : ChangeSpec := { name := "devOnce", fn := fun _ => fun
  | [d1, d2] => { results := [.lit (.bool true)], args := [d1, d2] }
  | _ => none }
def devOnceRow : OpenClaim := { program := "ytgeakpeaohggoaa", sum := "d6628bd19e5abc5b580e168eac76045d38dacd790084bccd730f9c0a9688d1d6", func := "mummer/mummerlaw11.DevOnce", spec := "devOnce", unfollowed := true, recurses := true, apart := false }
def DevOnceSaid : Prop := devOnceRow.holds Try.pinned (OpenSpec.ofChange devOnceSpec)

/-- ITS FALSE NEIGHBOUR: 'it returns false'. Refute it at one input. -/
def devOnceWrong : ChangeSpec := { name := "devOnce", fn := fun _ => fun
  | [d1, d2] => { results := [.lit (.bool false)], args := [d1, d2] }
  | _ => none }
def DevOnceWrongFalsely : Prop := devOnceRow.holds Try.pinned (OpenSpec.ofChange devOnceWrong)

/-- 'mummerlaw11.DevLoads': WHATEVER THE INPUT: true; the input reads as it did. -/
def devLoadsSpec : ChangeSpec := { name := "devLoads", fn := fun _ => fun
  | [d] => { results := [.lit (.bool true)], args := [d] }
  | _ => none }
def devLoadsRow : OpenClaim := { program := "ytgeakpeaohggoaa", sum := "d6628bd19e5abc5b580e168eac76045d38dacd790084bccd730f9c0a9688d1d6", func := "mummer/mummerlaw11.DevLoads", spec := "devLoads", unfollowed := true, recurses := true, apart := false }
def DevLoadsSaid : Prop := devLoadsRow.holds Try.pinned (OpenSpec.ofChange devLoadsSpec)

/-- ITS FALSE NEIGHBOUR: 'it returns false'. Refute it at one input. -/
def devLoadsWrong : ChangeSpec := { name := "devLoads", fn := fun _ => fun
  | [d] => { results := [.lit (.bool false)], args := [d] }
  | _ => none }
def DevLoadsWrongFalsely : Prop := devLoadsRow.holds Try.pinned (OpenSpec.ofChange devLoadsWrong)

/-- 'mummerlaw11.DevBlocks': WHATEVER THE INPUT: true; the input reads as it did. -/
def devBlocksSpec : ChangeSpec := { name := "devBlocks", fn := fun _ => fun
  | [d1, d2, d3] => { results := [.lit (.bool true)], args := [d1, d2, d3] }
  | _ => none }
def devBlocksRow : OpenClaim := { program := "ytgeakpeaohggoaa", sum := "d6628bd19e5abc5b580e168eac76045d38dacd790084bccd730f9c0a9688d1d6", func := "mummer/mummerlaw11.DevBlocks", spec := "devBlocks", unfollowed := true, recurses := true, apart := false }
def DevBlocksSaid : Prop := devBlocksRow.holds Try.pinned (OpenSpec.ofChange devBlocksSpec)

/-- ITS FALSE NEIGHBOUR: 'it returns false'. Refute it at one input. -/
def devBlocksWrong : ChangeSpec := { name := "devBlocks", fn := fun _ => fun
  | [d1, d2, d3] => { results := [.lit (.bool false)], args := [d1, d2, d3] }
  | _ => none }
def DevBlocksWrongFalsely : Prop := devBlocksRow.holds Try.pinned (OpenSpec.ofChange devBlocksWrong)

/-- 'mummerlaw11.DevMasked': WHATEVER THE INPUT: true; the input reads as it did. -/
def devMaskedSpec : ChangeSpec := { name := "devMasked", fn := fun _ => fun
  | [d1, d2] => { results := [.lit (.bool true)], args := [d1, d2] }
  | _ => none }
def devMaskedRow : OpenClaim := { program := "ytgeakpeaohggoaa", sum := "d6628bd19e5abc5b580e168eac76045d38dacd790084bccd730f9c0a9688d1d6", func := "mummer/mummerlaw11.DevMasked", spec := "devMasked", unfollowed := true, recurses := true, apart := false }
def DevMaskedSaid : Prop := devMaskedRow.holds Try.pinned (OpenSpec.ofChange devMaskedSpec)

/-- ITS FALSE NEIGHBOUR: 'it returns false'. Refute it at one input. -/
def devMaskedWrong : ChangeSpec := { name := "devMasked", fn := fun _ => fun
  | [d1, d2] => { results := [.lit (.bool false)], args := [d1, d2] }
  | _ => none }
def DevMaskedWrongFalsely : Prop := devMaskedRow.holds Try.pinned (OpenSpec.ofChange devMaskedWrong)

/-- 'mummerlaw11.DevNone': WHATEVER THE INPUT: true; the input reads as it did. -/
def devNoneSpec : ChangeSpec := { name := "devNone", fn := fun _ => fun
  | [d] => { results := [.lit (.bool true)], args := [d] }
  | _ => none }
def devNoneRow : OpenClaim := { program := "ytgeakpeaohggoaa", sum := "d6628bd19e5abc5b580e168eac76045d38dacd790084bccd730f9c0a9688d1d6", func := "mummer/mummerlaw11.DevNone", spec := "devNone", unfollowed := true, recurses := true, apart := false }
def DevNoneSaid : Prop := devNoneRow.holds Try.pinned (OpenSpec.ofChange devNoneSpec)

/-- ITS FALSE NEIGHBOUR: 'it returns false'. Refute it at one input. -/
def devNoneWrong : ChangeSpec := { name := "devNone", fn := fun _ => fun
  | [d] => { results := [.lit (.bool false)], args := [d] }
  | _ => none }
def DevNoneWrongFalsely : Prop := devNoneRow.holds Try.pinned (OpenSpec.ofChange devNoneWrong)

/-- 'mummerlaw11.DevPlays': WHATEVER THE INPUT: true; the input reads as it did. -/
def devPlaysSpec : ChangeSpec := { name := "devPlays", fn := fun _ => fun
  | [d1, d2, d3] => { results := [.lit (.bool true)], args := [d1, d2, d3] }
  | _ => none }
def devPlaysRow : OpenClaim := { program := "ytgeakpeaohggoaa", sum := "d6628bd19e5abc5b580e168eac76045d38dacd790084bccd730f9c0a9688d1d6", func := "mummer/mummerlaw11.DevPlays", spec := "devPlays", unfollowed := true, recurses := true, apart := false }
def DevPlaysSaid : Prop := devPlaysRow.holds Try.pinned (OpenSpec.ofChange devPlaysSpec)

/-- ITS FALSE NEIGHBOUR: 'it returns false'. Refute it at one input. -/
def devPlaysWrong : ChangeSpec := { name := "devPlays", fn := fun _ => fun
  | [d1, d2, d3] => { results := [.lit (.bool false)], args := [d1, d2, d3] }
  | _ => none }
def DevPlaysWrongFalsely : Prop := devPlaysRow.holds Try.pinned (OpenSpec.ofChange devPlaysWrong)

/-- 'mummerlaw11.DevSaves': WHATEVER THE INPUT: true; the input reads as it did. -/
def devSavesSpec : ChangeSpec := { name := "devSaves", fn := fun _ => fun
  | [d1, d2, d3] => { results := [.lit (.bool true)], args := [d1, d2, d3] }
  | _ => none }
def devSavesRow : OpenClaim := { program := "ytgeakpeaohggoaa", sum := "d6628bd19e5abc5b580e168eac76045d38dacd790084bccd730f9c0a9688d1d6", func := "mummer/mummerlaw11.DevSaves", spec := "devSaves", unfollowed := true, recurses := true, apart := false }
def DevSavesSaid : Prop := devSavesRow.holds Try.pinned (OpenSpec.ofChange devSavesSpec)

/-- ITS FALSE NEIGHBOUR: 'it returns false'. Refute it at one input. -/
def devSavesWrong : ChangeSpec := { name := "devSaves", fn := fun _ => fun
  | [d1, d2, d3] => { results := [.lit (.bool false)], args := [d1, d2, d3] }
  | _ => none }
def DevSavesWrongFalsely : Prop := devSavesRow.holds Try.pinned (OpenSpec.ofChange devSavesWrong)

/- THE SECOND FORM. 'bulk': how many values and letters a reading holds, each counted each time it is reached (what is shared counts as often as it is met; a slice's spare places count too). A statement '..UptoSaid' is the law's where the arguments, and the package variables that the reading takes, are together of bulk at most 1048576: NARROWER than '..Said'. Prove '..Said' where nothing that the law and all that it calls make is longer than what came in: it says more and counts as full. Else prove '..UptoSaid'. A law counts once. -/
mutual
def uptoBulk {H : Type} : DataW H → Nat
  | .lit (.string bytes) => bytes.length + 1
  | .lit _ => 1
  | .nil => 1
  | .ptr d => uptoBulk d + 1
  | .slice elems spare => uptoBulkAll elems + uptoBulkAll spare + 1
  | .agg parts => uptoBulkAll parts + 1
  | .iface _ d => uptoBulk d + 1
  | .map entries => uptoBulkEntries entries + 1
  | .held _ => 1
def uptoBulkAll {H : Type} : List (DataW H) → Nat
  | [] => 0
  | d :: r => uptoBulk d + uptoBulkAll r
def uptoBulkEntries {H : Type} : List (Lit × DataW H) → Nat
  | [] => 0
  | x :: r => uptoBulkEntry x + uptoBulkEntries r
def uptoBulkEntry {H : Type} : Lit × DataW H → Nat
  | (.string bytes, d) => bytes.length + uptoBulk d + 1
  | (_, d) => uptoBulk d + 1
 end
def uptoSmall : (H : Type) → List (DataW H) → Bool := fun _ ds => decide (uptoBulkAll ds ≤ 1048576)
def OpenSpec.upto (s : _root_.Go.ChangeSpec) : _root_.Go.OpenSpec := { _root_.Go.OpenSpec.ofChange s with cond := some uptoSmall }

/-- 'mummerlaw11.DevBytes', WHERE WHAT IT READS IS OF BULK AT MOST 1048576: true; the input reads as it did. -/
def devBytesUptoRow : OpenClaim := { program := "ytgeakpeaohggoaa", sum := "d6628bd19e5abc5b580e168eac76045d38dacd790084bccd730f9c0a9688d1d6", func := "mummer/mummerlaw11.DevBytes", spec := "devBytes", unfollowed := true, recurses := true, apart := false, narrowed := true }
def DevBytesUptoSaid : Prop := devBytesUptoRow.holds Try.pinned (OpenSpec.upto devBytesSpec)

/-- 'mummerlaw11.DevOnce', WHERE WHAT IT READS IS OF BULK AT MOST 1048576: true; the input reads as it did. -/
def devOnceUptoRow : OpenClaim := { program := "ytgeakpeaohggoaa", sum := "d6628bd19e5abc5b580e168eac76045d38dacd790084bccd730f9c0a9688d1d6", func := "mummer/mummerlaw11.DevOnce", spec := "devOnce", unfollowed := true, recurses := true, apart := false, narrowed := true }
def DevOnceUptoSaid : Prop := devOnceUptoRow.holds Try.pinned (OpenSpec.upto devOnceSpec)

/-- 'mummerlaw11.DevLoads', WHERE WHAT IT READS IS OF BULK AT MOST 1048576: true; the input reads as it did. -/
def devLoadsUptoRow : OpenClaim := { program := "ytgeakpeaohggoaa", sum := "d6628bd19e5abc5b580e168eac76045d38dacd790084bccd730f9c0a9688d1d6", func := "mummer/mummerlaw11.DevLoads", spec := "devLoads", unfollowed := true, recurses := true, apart := false, narrowed := true }
def DevLoadsUptoSaid : Prop := devLoadsUptoRow.holds Try.pinned (OpenSpec.upto devLoadsSpec)

/-- 'mummerlaw11.DevBlocks', WHERE WHAT IT READS IS OF BULK AT MOST 1048576: true; the input reads as it did. -/
def devBlocksUptoRow : OpenClaim := { program := "ytgeakpeaohggoaa", sum := "d6628bd19e5abc5b580e168eac76045d38dacd790084bccd730f9c0a9688d1d6", func := "mummer/mummerlaw11.DevBlocks", spec := "devBlocks", unfollowed := true, recurses := true, apart := false, narrowed := true }
def DevBlocksUptoSaid : Prop := devBlocksUptoRow.holds Try.pinned (OpenSpec.upto devBlocksSpec)

/-- 'mummerlaw11.DevMasked', WHERE WHAT IT READS IS OF BULK AT MOST 1048576: true; the input reads as it did. -/
def devMaskedUptoRow : OpenClaim := { program := "ytgeakpeaohggoaa", sum := "d6628bd19e5abc5b580e168eac76045d38dacd790084bccd730f9c0a9688d1d6", func := "mummer/mummerlaw11.DevMasked", spec := "devMasked", unfollowed := true, recurses := true, apart := false, narrowed := true }
def DevMaskedUptoSaid : Prop := devMaskedUptoRow.holds Try.pinned (OpenSpec.upto devMaskedSpec)

/-- 'mummerlaw11.DevNone', WHERE WHAT IT READS IS OF BULK AT MOST 1048576: true; the input reads as it did. -/
def devNoneUptoRow : OpenClaim := { program := "ytgeakpeaohggoaa", sum := "d6628bd19e5abc5b580e168eac76045d38dacd790084bccd730f9c0a9688d1d6", func := "mummer/mummerlaw11.DevNone", spec := "devNone", unfollowed := true, recurses := true, apart := false, narrowed := true }
def DevNoneUptoSaid : Prop := devNoneUptoRow.holds Try.pinned (OpenSpec.upto devNoneSpec)

/-- 'mummerlaw11.DevPlays', WHERE WHAT IT READS IS OF BULK AT MOST 1048576: true; the input reads as it did. -/
def devPlaysUptoRow : OpenClaim := { program := "ytgeakpeaohggoaa", sum := "d6628bd19e5abc5b580e168eac76045d38dacd790084bccd730f9c0a9688d1d6", func := "mummer/mummerlaw11.DevPlays", spec := "devPlays", unfollowed := true, recurses := true, apart := false, narrowed := true }
def DevPlaysUptoSaid : Prop := devPlaysUptoRow.holds Try.pinned (OpenSpec.upto devPlaysSpec)

/-- 'mummerlaw11.DevSaves', WHERE WHAT IT READS IS OF BULK AT MOST 1048576: true; the input reads as it did. -/
def devSavesUptoRow : OpenClaim := { program := "ytgeakpeaohggoaa", sum := "d6628bd19e5abc5b580e168eac76045d38dacd790084bccd730f9c0a9688d1d6", func := "mummer/mummerlaw11.DevSaves", spec := "devSaves", unfollowed := true, recurses := true, apart := false, narrowed := true }
def DevSavesUptoSaid : Prop := devSavesUptoRow.holds Try.pinned (OpenSpec.upto devSavesSpec)

end Rows
end Go.Proofs.Ytgeakpeaohggoaa
