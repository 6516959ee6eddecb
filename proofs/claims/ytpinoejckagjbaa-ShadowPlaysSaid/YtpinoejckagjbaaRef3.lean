/- The document's memory: copies and frames. -/
import Derived.Test.YtpinoejckagjbaaRef2
import Derived.Outline
namespace Go.Proofs.Ytpinoejckagjbaa
open Go.RowKit Go.Mum

/-- What a call that hands back bytes leaves. -/
def RowPost (M : List Int) (w : World) (e : Ending) (w' : World) : Prop := ∃ a c, e = .returned (.slice a M.length c) ∧ Row w' a c M ∧ Keep [] w w'

theorem rowPost_own {M : List Int} {w : World} {e : Ending} {w' : World} (h : OwnPost M w e w') : RowPost M w e w' := by
  obtain ⟨v, rfl, ho, hk⟩ := h
  obtain ⟨a, c, rfl, hr⟩ := ho.shape
  exact ⟨a, c, rfl, hr, hk⟩

theorem rowPost_none {w : World} : RowPost [] w (.returned (.slice none 0 0)) w := ⟨Option.none, 0, rfl, Row.nil w, Keep.refl _ _⟩

theorem own_grown {w x y : World} {v : Value} (h : Keep [] w x) (hg : x.grownBy y v.ownBlock) {L : List Int} (ho : Own x w.heap.size 5 v L) : Keep [] w y :=
  h.grown hg fun k hk => .inr (ho.block k hk).1

/-- What Copy leaves. -/
def FCopyPost (L : List Int) (w : World) (e : Ending) (w' : World) : Prop := ∃ v, e = .returned (.agg #[v]) ∧ Own w' w.heap.size 5 v L ∧ Keep [] w w'

end Go.Proofs.Ytpinoejckagjbaa
