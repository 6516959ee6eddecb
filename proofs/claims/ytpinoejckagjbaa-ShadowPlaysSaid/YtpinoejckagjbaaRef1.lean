/- The document's memory: its calls, one by one. -/
import Derived.Test.YtpinoejckagjbaaRam5
import Derived.Outline
namespace Go.Proofs.Ytpinoejckagjbaa
open Go.RowKit Go.Mum

/-- The document's memory: its bytes L lie in a block of their own; or there is none. -/
def RefAt (w : World) (a : Option Addr) (L : List Int) : Prop :=
  ((a = none ∧ L = []) ∨ ∃ q, a = some ⟨q, 0, none⟩ ∧ w.heap[q]? = some (.cells (u8s L).toArray 5 (0, 0))) ∧ IsBytes L ∧ L.length ≤ 32768

theorem RefAt.keep {l : List Nat} {w x : World} {a : Option Addr} {L : List Int} (h : RefAt w a L) (hk : Keep l w x) (hn : ∀ b, a = some b → b.block ∉ l) : RefAt x a L :=
  ⟨h.1.imp id fun ⟨q, e, hq⟩ => ⟨q, e, hk.heap hq (by simpa using hn _ e)⟩, h.2⟩

theorem RefAt.keep0 {w x : World} {a : Option Addr} {L : List Int} (h : RefAt w a L) (hk : Keep [] w x) : RefAt x a L := h.keep hk (fun _ _ => by simp)

theorem RefAt.some_of {w : World} {a : Option Addr} {L : List Int} (h : RefAt w a L) (h0 : 0 < L.length) : ∃ q, a = some ⟨q, 0, none⟩ ∧ w.heap[q]? = some (.cells (u8s L).toArray 5 (0, 0)) := by
  rcases h.1 with ⟨_, rfl⟩ | h
  · simp at h0
  · exact h

theorem RefAt.row {w : World} {a : Option Addr} {L : List Int} (h : RefAt w a L) : Row w a L.length L := by
  refine ⟨h.2.1, ⟨Nat.le_refl _, by have := h.2.2; unfold maxLen; omega⟩, ?_⟩
  rcases h.1 with ⟨rfl, rfl⟩ | ⟨q, rfl, hq⟩
  · exact .inl ⟨rfl, rfl, rfl⟩
  · exact .inr (.inr ⟨q, 0, rfl, fun i hi => by rw [Nat.zero_add]; exact cell_of hq i (by simp [u8s, List.getElem?_eq_getElem hi, List.getD])⟩)

theorem u8_cell {w : World} {q : Nat} {L : List Int} {t : TypeId} (h : w.heap[q]? = some (.cells (u8s L).toArray t (0, 0))) {j : Nat} (hj : j < L.length) : w.cell? ⟨q, j, none⟩ = some (.int .u8 (L.getD j 0)) :=
  cell_of h j (by simp [u8s, List.getElem?_eq_getElem hj, List.getD])

theorem u8_byte {L : List Int} (h : IsBytes L) {j : Nat} (hj : j < L.length) : 0 ≤ L.getD j 0 ∧ L.getD j 0 < 256 := h _ (by simp [List.getD, List.getElem?_eq_getElem hj])

theorem u8_set {w : World} {q : Nat} {L : List Int} {t : TypeId} (h : w.heap[q]? = some (.cells (u8s L).toArray t (0, 0))) (j : Nat) (z : Int) : (w.setCell ⟨q, j, none⟩ (.int .u8 z)).heap[q]? = some (.cells (u8s (L.set j z)).toArray t (0, 0)) := by
  rw [heap_set_same h]
  simp [u8s, List.map_set]

/-- What a call that lays bytes leaves. -/
def FPost (a : Option Addr) (L' : List Int) (ok : Bool) (w : World) (e : Ending) (w' : World) : Prop :=
  e = .returned (.bool ok) ∧ RefAt w' a L' ∧ ∃ l, (∀ k ∈ l, ∃ q, a = some ⟨k, q, none⟩) ∧ Keep l w w'

theorem f_no {w : World} {a : Option Addr} {L : List Int} (h : RefAt w a L) (o : Obj) : FPost a L false w (.returned (.bool false)) (w.alloc o) :=
  ⟨rfl, h.keep0 ((Keep.refl _ _).alloc _), [], by simp, (Keep.refl _ _).alloc _⟩

end Go.Proofs.Ytpinoejckagjbaa
