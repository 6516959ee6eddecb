/- A row of cells that a call made: block g, n cells, cell j holding f j. -/
import Derived.Test.YtpinoejckagjbaaLib
import Derived.OwnWalk
import Derived.Deep.OwnRows
namespace Go.Mum
open Go.RowKit

def ArrAt (w : World) (g : Nat) (t : TypeId) (n : Nat) (f : Nat → Value) : Prop :=
  ∃ cs : Array Value, w.heap[g]? = some (.cells cs t (0, 0)) ∧ cs.size = n ∧ ∀ j, j < n → cs[j]? = some (f j)

section
variable {w x : World} {g : Nat} {t : TypeId} {n : Nat} {f : Nat → Value}

theorem ArrAt.lt (h : ArrAt w g t n f) : g < w.heap.size := by obtain ⟨cs, h1, _⟩ := h; exact lt_of_heap h1

theorem ArrAt.same (h : ArrAt w g t n f) (he : x.heap[g]? = w.heap[g]?) : ArrAt x g t n f := by
  obtain ⟨cs, h1, r⟩ := h
  exact ⟨cs, by rw [he]; exact h1, r⟩

theorem ArrAt.keep {l : List Nat} (h : ArrAt w g t n f) (hk : Keep l w x) (hn : g ∉ l) : ArrAt x g t n f := h.same (hk.block g h.lt hn)

theorem ArrAt.cell (h : ArrAt w g t n f) {j : Nat} (hj : j < n) : w.cell? ⟨g, j, none⟩ = some (f j) := by
  obtain ⟨cs, h1, _, h3⟩ := h
  exact cell_of h1 j (h3 j hj)

theorem ArrAt.frozen (h : ArrAt w g t n f) (j : Nat) : w.frozen? ⟨g, j, none⟩ = false := by
  obtain ⟨cs, h1, _⟩ := h
  exact frozen_of h1 j

theorem ArrAt.ext (h : ArrAt w g t n f) {f' : Nat → Value} (he : ∀ j, j < n → f j = f' j) : ArrAt w g t n f' := by
  obtain ⟨cs, h1, h2, h3⟩ := h
  exact ⟨cs, h1, h2, fun j hj => by rw [h3 j hj, he j hj]⟩

theorem ArrAt.set (h : ArrAt w g t n f) (i : Nat) (v : Value) : ArrAt (w.setCell ⟨g, i, none⟩ v) g t n (fun j => if j = i then v else f j) := by
  obtain ⟨cs, h1, h2, h3⟩ := h
  refine ⟨_, heap_set_same h1 i v, by simpa using h2, fun j hj => ?_⟩
  rw [Array.getElem?_setIfInBounds]
  by_cases e : j = i
  · subst e
    simp [h2, hj]
  · rw [if_neg (fun q => e q.symm)]
    show cs[j]? = some (if j = i then v else f j)
    rw [if_neg e, h3 j hj]

theorem ArrAt.ne_of_old {B : Nat} (_h : ArrAt w g t n f) (hB : B ≤ g) {k : Nat} (hk : k < B) : k ≠ g := by omega

/-- A row that 'make' laid, an element being one cell. -/
theorem arrAt_of_made {base : Nat} {z : Value} (hz : z.cells = #[z]) (h : w.ownsRow base t 1 (.slice (some ⟨g, 0, none⟩) n n) n (madeCells z.cells (n * 1)).toList) : ArrAt w g t n (fun _ => z) := by
  rcases h.2 with ⟨h1, _⟩ | ⟨g', cap, cur, h1, _, h3, _, _, h6, h7⟩
  · simp at h1
  · simp only [Value.slice.injEq, Option.some.injEq, Addr.mk.injEq] at h1
    obtain ⟨⟨rfl, _, _⟩, _, rfl⟩ := h1
    refine ⟨cur, h3, by omega, fun j hj => ?_⟩
    have := congrArg (fun l => l[j]?) h7
    simp only [List.getElem?_take, Nat.mul_one, hj, if_true, Array.getElem?_toList] at this
    rw [this, hz, ← Array.getElem?_toList, toList_madeCells_one]
    simp [hj]
end

theorem arrAt_new (w : World) (z : Value) (n : Nat) (t : TypeId) {g : Nat} (hg : g = w.heap.size) : ArrAt (w.alloc (.cells (madeCells #[z] n) t)) g t n (fun _ => z) :=
  ⟨_, heap_alloc_at _ hg, by simp [size_madeCells], fun j hj => by rw [← Array.getElem?_toList, toList_madeCells_one]; simp [hj]⟩

/-- Several blocks at once: what stands behind a contract. -/
theorem Keep.arr {l : List Nat} {w x : World} (hk : Keep l w x) {g : Nat} {t : TypeId} {n : Nat} {f : Nat → Value} (h : ArrAt w g t n f) (hn : g ∉ l) : ArrAt x g t n f := h.keep hk hn

end Go.Mum
