/- What the statements on memories share: made, near. -/
import Derived.Test.YtpinoejckagjbaaRef3
import Derived.Test.YtpinoejckagjbaaHeld
import Derived.Outline
namespace Go.Proofs.Ytpinoejckagjbaa
open Go.RowKit Go.Mum

/-- A memory and the document's, with the same bytes. -/
structure Both (w : World) (r fb g q n : Nat) (L : List Int) : Prop where
  ram : RamAt w r fb g (List.range n) L
  ref : RefAt w (some ⟨q, 0, none⟩) L
  len : L.length = 64 * n
  qs : q ≠ r ∧ q ≠ fb ∧ q ≠ g
  n1 : 1 ≤ n ∧ n ≤ 16
  qd : w.heap[q]? = some (.cells (u8s L).toArray 5 (0, 0))

theorem Both.keep {l : List Nat} {w x : World} {r fb g q n : Nat} {L : List Int} (h : Both w r fb g q n L) (hk : Keep l w x) (h1 : r ∉ l) (h2 : fb ∉ l) (h3 : g ∉ l) (h4 : q ∉ l) : Both x r fb g q n L :=
  ⟨h.ram.keep hk h1 h2 h3, h.ref.keep hk (by simpa using h4), h.len, h.qs, h.n1, hk.heap h.qd h4⟩

theorem Both.keep0 {w x : World} {r fb g q n : Nat} {L : List Int} (h : Both w r fb g q n L) (hk : Keep [] w x) : Both x r fb g q n L := h.keep hk (by simp) (by simp) (by simp) (by simp)

theorem Both.lt {w : World} {r fb g q n : Nat} {L : List Int} (h : Both w r fb g q n L) : r < w.heap.size ∧ fb < w.heap.size ∧ g < w.heap.size ∧ q < w.heap.size :=
  ⟨h.ram.lt.1, h.ram.lt.2.1, h.ram.lt.2.2, lt_of_heap h.qd⟩

/-- Only the two blocks of bytes were turned; or the same and new ones. -/
theorem Both.set {w x : World} {r fb g q n : Nat} {L L' : List Int} (h : Both w r fb g q n L) (hl : L'.length = L.length) (hr : RamAt x r fb g (List.range n) L') (hq : x.heap[q]? = some (.cells (u8s L').toArray 5 (0, 0))) : Both x r fb g q n L' :=
  ⟨hr, ⟨.inr ⟨q, rfl, hq⟩, hr.bytes, by rw [hl]; exact h.ref.2.2⟩, by rw [hl]; exact h.len, h.qs, h.n1, hq⟩

/-- The address that a statement asks for. -/
def near (a : Nat) : Nat := if a % 3 = 0 then a else a % 400

theorem near_lt {a : Nat} (h : a < 4294967296) : near a < 4294967296 := by unfold near; split <;> omega

/-- What made leaves. -/
def MadePost (w : World) (e : Ending) (w' : World) : Prop :=
  ∃ r fb g q n, n ≤ 5 ∧ w.heap.size ≤ r ∧ w.heap.size ≤ fb ∧ w.heap.size ≤ g ∧ w.heap.size ≤ q ∧ e = .returned (.tuple #[.pointer (some ⟨r, 0, none⟩), .agg #[.slice (some ⟨q, 0, none⟩) (64 * n) (64 * n)]]) ∧
    Both w' r fb g q n (List.replicate (64 * n) 0) ∧ Keep [] w w'

end Go.Proofs.Ytpinoejckagjbaa
