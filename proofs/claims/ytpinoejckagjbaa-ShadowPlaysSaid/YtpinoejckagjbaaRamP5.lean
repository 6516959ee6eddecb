/- Have both memories the same bytes? -/
import Derived.Test.YtpinoejckagjbaaRamP4
import Derived.Outline
namespace Go.Proofs.Ytpinoejckagjbaa
open Go.RowKit Go.Mum

/-- How bytes read as a string. -/
def Str (x : World) (a : Option Addr) (k c : Nat) (M : List Int) : Prop := (convert 48 9 (.slice a k c)).run Try.prog x = .ok (.string (strOfNums M)) x
theorem str_of {x : World} {a : Option Addr} {k c : Nat} {M : List Int} (h : Row x a c M) (hk : k = M.length) : Str x a k c M := run_string (P := Try.prog) Try.underlying48 Try.underlying5 h k hk _ Try.underlying9

theorem frameOf_range {n k : Nat} (L : List Int) (hk : k < n) : frameOf (List.range n) L k = (L.drop (64 * k)).take 64 := by
  unfold frameOf
  simp [List.getD, List.getElem?_range hk]

/-- The answer is true, and nothing that was there has been turned. -/
def True1 (w : World) (e : Ending) (w' : World) : Prop := e = .returned (.bool true) ∧ Keep [] w w'

end Go.Proofs.Ytpinoejckagjbaa
