/- A region whose order is drawn: the condition on the world may grow as the calls come back. -/
import Derived.Test.YtpinoejckagjbaaLib
import Derived.RegionTactic
import Derived.Deep.RegionHeld3
namespace Go.Mum
open Go.RowKit

section
variable {P : Program} {ops : Array Oper} {Q : Exit → Act → World → Prop} {md : Region.Mode} {S S' : World → Prop}

theorem wpAnyH_grow (h : ∀ w, S' w → S w) : ∀ (fuel : Nat) (listed : Array Bool) (a : Act) (w : World), wpAnyH P md ops Q S' fuel listed a w → wpAnyH P md ops Q S fuel listed a w
  | 0, _, _, _, q => q
  | fuel + 1, _, _, _, q => ⟨q.1, fun i hi => wpOp_mono (fun a' w' r => ⟨h _ r.1, wpAnyH_grow h fuel _ a' w' r.2⟩) (q.2 i hi)⟩

/-- Behind a call: the region goes on under a condition that says more. -/
theorem shut_grow {fuel : Nat} {listed : Array Bool} {K : Act → World → Prop} (S' : World → Prop) (hK : Shut (∀ a w, S w → (S w → wpAnyH P md ops Q S fuel listed a w) → K a w)) (h : ∀ w, S' w → S w)
    {a : Act} {w : World} (hS : S' w) (hw : S' w → wpAnyH P md ops Q S' fuel listed a w) : K a w :=
  hK.out a w (h w hS) fun _ => wpAnyH_grow h fuel listed a w (hw hS)
end
end Go.Mum
