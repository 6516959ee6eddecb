/-
  No cell of these rows narrows 'for every input' (looked for: loops, veiled, ifaces, maps, wideKeys, modest, calm, conditions, laid).
  DERIVED. THE GIVEN ROWS OF THIS SEAT. 5 by the template 'for every input the law returns true; each argument reads behind the call as it read before'; 0 by the template 'total and deterministic' (their statements: YtnpnedimgfbnhaaTotals.lean).
  GIVEN WITH THE SEED: the statements are not yours to turn. If you find one false, say at which input.
  Laid BY PROGRAM, IN A SANDBOX (cutbox-rows.mjs): the forced cells as the released guide's own fill.sh prints them over the translation 3382dede76f4146d… (all of the seat's roots in one cut). By AI agents, Wed Nov 11 2026. No macro, syntax, notation, axiom, sorry.
-/
import Derived.Test.YtnpnedimgfbnhaaChecked
import GoSem.Claim
import GoSem.ClaimJoined
import GoSem.ClaimMapViews
import Derived.JoinedTies
import Derived.KernelRfl
namespace Go.Proofs.Ytnpnedimgfbnhaa
/- THE CELL 'sum', in the pinned program and in every row, IS THE sha256 OF THE DUMP (.gsa) THAT YtnpnedimgfbnhaaProg.lean LOADS. Nothing in Lean hashes anything: it is a label: what it is worth is what the hold of that sum in a sandbox is worth. -/
noncomputable def Try.pinned : Pinned := { name := "ytnpnedimgfbnhaa", sum := "3382dede76f4146d4d73cc8f98fdef6038bb04d3e480f78f84e17f64ae0fb11d", checked := Try.checked }
namespace Rows
def none {H : Type} : Left H := { results := [], args := [] }

/-- 'mummerlaw24.LeadBits': WHATEVER THE INPUT: true; the input reads as it did. -/
def leadBitsSpec : ChangeSpec := { name := "leadBits", fn := fun _ => fun
  | [d1, d2, d3] => { results := [.lit (.bool true)], args := [d1, d2, d3] }
  | _ => none }
def leadBitsRow : OpenClaim := { program := "ytnpnedimgfbnhaa", sum := "3382dede76f4146d4d73cc8f98fdef6038bb04d3e480f78f84e17f64ae0fb11d", func := "mummer/mummerlaw24.LeadBits", spec := "leadBits", unfollowed := true, recurses := true, apart := false }
def LeadBitsSaid : Prop := leadBitsRow.holds Try.pinned (OpenSpec.ofChange leadBitsSpec)

/-- ITS FALSE NEIGHBOUR: 'it returns false'. Refute it at one input. -/
def leadBitsWrong : ChangeSpec := { name := "leadBits", fn := fun _ => fun
  | [d1, d2, d3] => { results := [.lit (.bool false)], args := [d1, d2, d3] }
  | _ => none }
def LeadBitsWrongFalsely : Prop := leadBitsRow.holds Try.pinned (OpenSpec.ofChange leadBitsWrong)

/-- 'mummerlaw24.LeadTells': WHATEVER THE INPUT: true; the input reads as it did. -/
def leadTellsSpec : ChangeSpec := { name := "leadTells", fn := fun _ => fun
  | [d1, d2, d3] => { results := [.lit (.bool true)], args := [d1, d2, d3] }
  | _ => none }
def leadTellsRow : OpenClaim := { program := "ytnpnedimgfbnhaa", sum := "3382dede76f4146d4d73cc8f98fdef6038bb04d3e480f78f84e17f64ae0fb11d", func := "mummer/mummerlaw24.LeadTells", spec := "leadTells", unfollowed := true, recurses := true, apart := false }
def LeadTellsSaid : Prop := leadTellsRow.holds Try.pinned (OpenSpec.ofChange leadTellsSpec)

/-- ITS FALSE NEIGHBOUR: 'it returns false'. Refute it at one input. -/
def leadTellsWrong : ChangeSpec := { name := "leadTells", fn := fun _ => fun
  | [d1, d2, d3] => { results := [.lit (.bool false)], args := [d1, d2, d3] }
  | _ => none }
def LeadTellsWrongFalsely : Prop := leadTellsRow.holds Try.pinned (OpenSpec.ofChange leadTellsWrong)

/-- 'mummerlaw24.LeadSound': WHATEVER THE INPUT: true; the input reads as it did. -/
def leadSoundSpec : ChangeSpec := { name := "leadSound", fn := fun _ => fun
  | [d1, d2, d3] => { results := [.lit (.bool true)], args := [d1, d2, d3] }
  | _ => none }
def leadSoundRow : OpenClaim := { program := "ytnpnedimgfbnhaa", sum := "3382dede76f4146d4d73cc8f98fdef6038bb04d3e480f78f84e17f64ae0fb11d", func := "mummer/mummerlaw24.LeadSound", spec := "leadSound", unfollowed := true, recurses := true, apart := false }
def LeadSoundSaid : Prop := leadSoundRow.holds Try.pinned (OpenSpec.ofChange leadSoundSpec)

/-- ITS FALSE NEIGHBOUR: 'it returns false'. Refute it at one input. -/
def leadSoundWrong : ChangeSpec := { name := "leadSound", fn := fun _ => fun
  | [d1, d2, d3] => { results := [.lit (.bool false)], args := [d1, d2, d3] }
  | _ => none }
def LeadSoundWrongFalsely : Prop := leadSoundRow.holds Try.pinned (OpenSpec.ofChange leadSoundWrong)

/-- 'mummerlaw24.LeadMarked': WHATEVER THE INPUT: true; the input reads as it did. -/
def leadMarkedSpec : ChangeSpec := { name := "leadMarked", fn := fun _ => fun
  | [d1, d2, d3] => { results := [.lit (.bool true)], args := [d1, d2, d3] }
  | _ => none }
def leadMarkedRow : OpenClaim := { program := "ytnpnedimgfbnhaa", sum := "3382dede76f4146d4d73cc8f98fdef6038bb04d3e480f78f84e17f64ae0fb11d", func := "mummer/mummerlaw24.LeadMarked", spec := "leadMarked", unfollowed := true, recurses := true, apart := false }
def LeadMarkedSaid : Prop := leadMarkedRow.holds Try.pinned (OpenSpec.ofChange leadMarkedSpec)

/-- ITS FALSE NEIGHBOUR: 'it returns false'. Refute it at one input. -/
def leadMarkedWrong : ChangeSpec := { name := "leadMarked", fn := fun _ => fun
  | [d1, d2, d3] => { results := [.lit (.bool false)], args := [d1, d2, d3] }
  | _ => none }
def LeadMarkedWrongFalsely : Prop := leadMarkedRow.holds Try.pinned (OpenSpec.ofChange leadMarkedWrong)

/-- 'mummerlaw24.LeadHangs': WHATEVER THE INPUT: true; the input reads as it did. -/
def leadHangsSpec : ChangeSpec := { name := "leadHangs", fn := fun _ => fun
  | [d1, d2, d3] => { results := [.lit (.bool true)], args := [d1, d2, d3] }
  | _ => none }
def leadHangsRow : OpenClaim := { program := "ytnpnedimgfbnhaa", sum := "3382dede76f4146d4d73cc8f98fdef6038bb04d3e480f78f84e17f64ae0fb11d", func := "mummer/mummerlaw24.LeadHangs", spec := "leadHangs", unfollowed := true, recurses := true, apart := false }
def LeadHangsSaid : Prop := leadHangsRow.holds Try.pinned (OpenSpec.ofChange leadHangsSpec)

/-- ITS FALSE NEIGHBOUR: 'it returns false'. Refute it at one input. -/
def leadHangsWrong : ChangeSpec := { name := "leadHangs", fn := fun _ => fun
  | [d1, d2, d3] => { results := [.lit (.bool false)], args := [d1, d2, d3] }
  | _ => none }
def LeadHangsWrongFalsely : Prop := leadHangsRow.holds Try.pinned (OpenSpec.ofChange leadHangsWrong)

/- THE SECOND FORM. 'bulk': how many values and letters a reading holds, each counted each time it is reached (what is shared counts as often as it is met; a slice's spare places count too). A statement '..UptoSaid' is the law's where the arguments, and the package variables that the reading takes, are together of bulk at most 1048576: NARROWER than '..Said'. Prove '..Said' where nothing that the law and all that it calls make is longer than what came in: it says more and counts as full. Else prove '..UptoSaid'. A law counts once. -/
mutual
def uptoBulk {H : Type} : DataW H → Nat
  | .lit (.string bytes) => bytes.length + 1
  | .lit _ => 1
  | .nil => 1
  | .ptr d => uptoBulk d + 1
  | .slice elems spare => uptoBulkAll elems + uptoBulkAll spare + 1
  | .agg parts => uptoBulkAll parts + 1
  | .iface _ d => uptoBulk d + 1
  | .map entries => uptoBulkEntries entries + 1
  | .held _ => 1
def uptoBulkAll {H : Type} : List (DataW H) → Nat
  | [] => 0
  | d :: r => uptoBulk d + uptoBulkAll r
def uptoBulkEntries {H : Type} : List (Lit × DataW H) → Nat
  | [] => 0
  | x :: r => uptoBulkEntry x + uptoBulkEntries r
def uptoBulkEntry {H : Type} : Lit × DataW H → Nat
  | (.string bytes, d) => bytes.length + uptoBulk d + 1
  | (_, d) => uptoBulk d + 1
 end
def uptoSmall : (H : Type) → List (DataW H) → Bool := fun _ ds => decide (uptoBulkAll ds ≤ 1048576)
def OpenSpec.upto (s : _root_.Go.ChangeSpec) : _root_.Go.OpenSpec := { _root_.Go.OpenSpec.ofChange s with cond := some uptoSmall }

/-- 'mummerlaw24.LeadBits', WHERE WHAT IT READS IS OF BULK AT MOST 1048576: true; the input reads as it did. -/
def leadBitsUptoRow : OpenClaim := { program := "ytnpnedimgfbnhaa", sum := "3382dede76f4146d4d73cc8f98fdef6038bb04d3e480f78f84e17f64ae0fb11d", func := "mummer/mummerlaw24.LeadBits", spec := "leadBits", unfollowed := true, recurses := true, apart := false, narrowed := true }
def LeadBitsUptoSaid : Prop := leadBitsUptoRow.holds Try.pinned (OpenSpec.upto leadBitsSpec)

/-- 'mummerlaw24.LeadTells', WHERE WHAT IT READS IS OF BULK AT MOST 1048576: true; the input reads as it did. -/
def leadTellsUptoRow : OpenClaim := { program := "ytnpnedimgfbnhaa", sum := "3382dede76f4146d4d73cc8f98fdef6038bb04d3e480f78f84e17f64ae0fb11d", func := "mummer/mummerlaw24.LeadTells", spec := "leadTells", unfollowed := true, recurses := true, apart := false, narrowed := true }
def LeadTellsUptoSaid : Prop := leadTellsUptoRow.holds Try.pinned (OpenSpec.upto leadTellsSpec)

/-- 'mummerlaw24.LeadSound', WHERE WHAT IT READS IS OF BULK AT MOST 1048576: true; the input reads as it did. -/
def leadSoundUptoRow : OpenClaim := { program := "ytnpnedimgfbnhaa", sum := "3382dede76f4146d4d73cc8f98fdef6038bb04d3e480f78f84e17f64ae0fb11d", func := "mummer/mummerlaw24.LeadSound", spec := "leadSound", unfollowed := true, recurses := true, apart := false, narrowed := true }
def LeadSoundUptoSaid : Prop := leadSoundUptoRow.holds Try.pinned (OpenSpec.upto leadSoundSpec)

/-- 'mummerlaw24.LeadMarked', WHERE WHAT IT READS IS OF BULK AT MOST 1048576: true; the input reads as it did. -/
def leadMarkedUptoRow : OpenClaim := { program := "ytnpnedimgfbnhaa", sum := "3382dede76f4146d4d73cc8f98fdef6038bb04d3e480f78f84e17f64ae0fb11d", func := "mummer/mummerlaw24.LeadMarked", spec := "leadMarked", unfollowed := true, recurses := true, apart := false, narrowed := true }
def LeadMarkedUptoSaid : Prop := leadMarkedUptoRow.holds Try.pinned (OpenSpec.upto leadMarkedSpec)

/-- 'mummerlaw24.LeadHangs', WHERE WHAT IT READS IS OF BULK AT MOST 1048576: true; the input reads as it did. -/
def leadHangsUptoRow : OpenClaim := { program := "ytnpnedimgfbnhaa", sum := "3382dede76f4146d4d73cc8f98fdef6038bb04d3e480f78f84e17f64ae0fb11d", func := "mummer/mummerlaw24.LeadHangs", spec := "leadHangs", unfollowed := true, recurses := true, apart := false, narrowed := true }
def LeadHangsUptoSaid : Prop := leadHangsUptoRow.holds Try.pinned (OpenSpec.upto leadHangsSpec)

end Rows
end Go.Proofs.Ytnpnedimgfbnhaa
