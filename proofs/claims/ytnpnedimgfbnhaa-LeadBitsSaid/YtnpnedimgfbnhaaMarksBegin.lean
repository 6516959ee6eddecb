/- The laws MarksBegin and MarksNone, walked. -/
import Derived.Test.YtnpnedimgfbnhaaMarksApart
import Derived.Test.YtnpnedimgfbnhaaMarksList
namespace Go.Proofs.Ytnpnedimgfbnhaa
open Go.RowKit Go.Mum
set_option maxRecDepth 100000

theorem keep_of_below {w x : World} (h : Below w.heap.size w x) : Keep [] w x := ⟨h.os, h.tape, h.output, h.size, fun k hk _ => h.block k hk⟩

/-- A list of numbers in new memory. -/
def ListAt (B : Nat) (w : World) (a : Option Addr) (l : List Int) : Prop :=
  l = [] ∨ ∃ g, a = some ⟨g, 0, none⟩ ∧ B ≤ g ∧ g < w.heap.size ∧ ∀ j (hj : j < l.length), w.cell? ⟨g, j, none⟩ = some (.int .i64 l[j])

def ListIs (l : List Int) (w : World) (e : Ending) (w' : World) : Prop :=
  ∃ a cap, e = .returned (.slice a l.length cap) ∧ ListAt w.heap.size w' a l ∧ Keep [] w w'

theorem listIs_of {l : List Int} {w : World} {e : Ending} {w' : World} (h : ListPost l w e w') : ListIs l w e w' := by
  obtain ⟨v, rfl, hown, hb⟩ := h
  rcases hown.2 with ⟨rfl, hl⟩ | ⟨g, cap, cur, rfl, hg, hh, hn, _, hsz, htake⟩
  · have : l = [] := List.eq_nil_of_length_eq_zero hl
    subst this
    exact ⟨none, 0, rfl, .inl rfl, keep_of_below hb⟩
  · refine ⟨_, cap, rfl, .inr ⟨g, rfl, hg, lt_of_heap hh, fun j hj => ?_⟩, keep_of_below hb⟩
    refine cell_of hh j ?_
    have := congrArg (fun q => q[j]?) htake
    simpa [List.getElem?_take, hj] using this

theorem MarksAt.listed {w : World} {b m1 m2 : Nat} {N : Nat} {s1 s2 : List Int} (h : MarksAt w b m1 m2 N s1 s2) (hN : N ≤ 64) (k : Int) : Listed w (.pointer (some ⟨b, 0, none⟩)) k N (sel k s1 s2) := by
  refine ⟨hN, some m1, some m2, h.sets, holds_sel (.inr ⟨m1, rfl, h.one⟩) (.inr ⟨m2, rfl, h.two⟩) k, ?_, fun m _ => ⟨b, rfl, h.cells.1⟩⟩
  intro m hm
  unfold selM at hm
  split at hm
  · cases hm; exact h.one.lt
  · split at hm
    · cases hm; exact h.two.lt
    · cases hm

/-! Marks that are not there, or that no call made. -/

theorem selM_none (k : Int) : selM k none none = none := by unfold selM; split <;> (try split) <;> rfl

theorem Sets.keep {v : Value} {v1 v2 : Option Nat} {w x : World} (h : Sets w v v1 v2) (hk : Keep [] w x) : Sets x v v1 v2 := by
  rcases h with h | ⟨b, rfl, h1, h2⟩
  · exact .inl h
  · exact .inr ⟨b, rfl, hk.cell h1 (by simp), hk.cell h2 (by simp)⟩

end Go.Proofs.Ytnpnedimgfbnhaa
