/- Small laws on worlds that several proofs share: a world that is another but for listed blocks and for new ones. -/
import Derived.WalkKit
import Derived.WalkSpells
import Derived.WalkLawsBesides
import Derived.LoopTactic
import Derived.Below
import Derived.Lib.Hide
import Derived.Deep.QuietTactic
import Derived.BigQuiet
namespace Go.Mum
open Go.RowKit

/-- 'x' is 'w' but for the blocks 'l' and for new ones. -/
structure Keep (l : List Nat) (w x : World) : Prop where
  os : x.os = w.os
  tape : x.tape = w.tape
  output : x.output = w.output
  size : w.heap.size ≤ x.heap.size
  block : ∀ k, k < w.heap.size → k ∉ l → x.heap[k]? = w.heap[k]?

theorem Keep.refl (l : List Nat) (w : World) : Keep l w w := ⟨rfl, rfl, rfl, Nat.le_refl _, fun _ _ _ => rfl⟩

theorem Keep.trans {l : List Nat} {w x y : World} (h : Keep l w x) (h' : Keep l x y) : Keep l w y :=
  ⟨h'.os.trans h.os, h'.tape.trans h.tape, h'.output.trans h.output, Nat.le_trans h.size h'.size,
   fun k hk hn => (h'.block k (Nat.lt_of_lt_of_le hk h.size) hn).trans (h.block k hk hn)⟩

/-- The exceptions may be more, or such as were not there at the start. -/
theorem Keep.weaken {l l' : List Nat} {w x : World} (h : Keep l w x) (hs : ∀ k ∈ l, k < w.heap.size → k ∈ l') : Keep l' w x :=
  ⟨h.os, h.tape, h.output, h.size, fun k hk hn => h.block k hk fun hm => hn (hs k hm hk)⟩

theorem Keep.then {l l' : List Nat} {w x y : World} (h : Keep l w x) (h' : Keep l' x y) (hs : ∀ k ∈ l', k < w.heap.size → k ∈ l) : Keep l w y :=
  ⟨h'.os.trans h.os, h'.tape.trans h.tape, h'.output.trans h.output, Nat.le_trans h.size h'.size,
   fun k hk hn => (h'.block k (Nat.lt_of_lt_of_le hk h.size) fun hm => hn (hs k hm hk)).trans (h.block k hk hn)⟩

theorem Keep.below {l : List Nat} {w x : World} {B : Nat} (h : Keep l w x) (hB : B ≤ w.heap.size) (hs : ∀ k ∈ l, B ≤ k) : Below B w x :=
  ⟨h.os, h.tape, h.output, h.size, fun k hk => h.block k (by omega) fun hm => by have := hs k hm; omega⟩

theorem Keep.alloc {l : List Nat} {w x : World} (h : Keep l w x) (o : Obj) : Keep l w (x.alloc o) :=
  h.trans ⟨rfl, rfl, rfl, by simp, fun k hk _ => Below.heap_alloc _ _ _ hk⟩

theorem Keep.drew {l : List Nat} {w x : World} (h : Keep l w x) : Keep l w x.drew := ⟨h.os, h.tape, h.output, h.size, h.block⟩

theorem Keep.drewN {l : List Nat} {w x : World} (h : Keep l w x) (n : Nat) : Keep l w (x.drewN n) := ⟨h.os, h.tape, h.output, h.size, h.block⟩

theorem Keep.setCell {l : List Nat} {w x : World} (h : Keep l w x) {p : Addr} (hp : p.block ∈ l ∨ w.heap.size ≤ p.block) (u : Value) : Keep l w (x.setCell p u) :=
  ⟨h.os, h.tape, h.output, by simpa [World.setCell] using h.size, fun k hk hn => by
    rw [Below.heap_setCell _ _ _ _ (fun e => by subst e; rcases hp with hp | hp; exact hn hp; omega)]
    exact h.block k hk hn⟩

theorem Keep.grown {l : List Nat} {w x y : World} {row : Option Nat} (h : Keep l w x) (hg : x.grownBy y row) (hr : ∀ k, row = some k → k ∈ l ∨ w.heap.size ≤ k) : Keep l w y :=
  ⟨hg.os.trans h.os, hg.tape.trans h.tape, hg.output.trans h.output, Nat.le_trans h.size hg.size, fun k hk hn =>
    (hg.block k (Nat.lt_of_lt_of_le hk h.size) (fun e => by rcases hr k e.symm with h1 | h1; exact hn h1; omega)).trans (h.block k hk hn)⟩

theorem Keep.heap {l : List Nat} {w x : World} (h : Keep l w x) {k : Nat} {o : Obj} (ho : w.heap[k]? = some o) (hn : k ∉ l) : x.heap[k]? = some o := by
  rw [h.block k (Array.getElem?_eq_some_iff.1 ho).1 hn, ho]

theorem Keep.lt {l : List Nat} {w x : World} (h : Keep l w x) {k : Nat} (hk : k < w.heap.size) : k < x.heap.size := Nat.lt_of_lt_of_le hk h.size

theorem Keep.cell {l : List Nat} {w x : World} (h : Keep l w x) {a : Addr} {v : Value} (hc : w.cell? a = some v) (hn : a.block ∉ l) : x.cell? a = some v := by
  rw [World.cell?_of_block (w := w) (h.block a.block (World.block_lt_of_cell? w a hc) hn), hc]

theorem Keep.frozen {l : List Nat} {w x : World} (h : Keep l w x) {a : Addr} (hk : a.block < w.heap.size) (hn : a.block ∉ l) : x.frozen? a = w.frozen? a :=
  World.frozen?_of_block (w := w) (h.block a.block hk hn)

theorem lt_of_heap {w : World} {k : Nat} {o : Obj} (h : w.heap[k]? = some o) : k < w.heap.size := (Array.getElem?_eq_some_iff.1 h).1

/-- A cell of a block that is known whole. -/
theorem cell_of {w : World} {b : Nat} {cs : Array Value} {t : TypeId} {fz : Nat × Nat} (h : w.heap[b]? = some (.cells cs t fz)) (i : Nat) {v : Value} (hv : cs[i]? = some v) : w.cell? ⟨b, i, none⟩ = some v := by
  simp [World.cell?, h, hv]

theorem frozen_of {w : World} {b : Nat} {cs : Array Value} {t : TypeId} (h : w.heap[b]? = some (.cells cs t (0, 0))) (i : Nat) : w.frozen? ⟨b, i, none⟩ = false := by
  simp [World.frozen?, h]

theorem heap_set_same {w : World} {b : Nat} {cs : Array Value} {t : TypeId} {fz : Nat × Nat} (h : w.heap[b]? = some (.cells cs t fz)) (i : Nat) (v : Value) :
    (w.setCell ⟨b, i, none⟩ v).heap[b]? = some (.cells (cs.setIfInBounds i v) t fz) := by
  simp [World.setCell, Array.getElem?_modify, h]

theorem heap_set_other {w : World} {b k : Nat} (hne : k ≠ b) (i : Nat) (v : Value) : (w.setCell ⟨b, i, none⟩ v).heap[k]? = w.heap[k]? :=
  Below.heap_setCell _ _ _ _ hne

theorem heap_alloc_same (w : World) (o : Obj) : (w.alloc o).heap[w.heap.size]? = some o := heap_alloc_new w o

theorem heap_alloc_at {w : World} {n : Nat} (o : Obj) (hn : n = w.heap.size) : (w.alloc o).heap[n]? = some o := by subst hn; exact heap_alloc_new w o

theorem heap_alloc_other {w : World} {k : Nat} {o' : Obj} (o : Obj) (h : w.heap[k]? = some o') : (w.alloc o).heap[k]? = some o' := by
  rw [Below.heap_alloc _ _ _ (lt_of_heap h), h]

/-- A callee that leaves the very world, in a region that reads alone. -/
theorem quiet_same {P : Program} {f : FuncId} {args : Array Value} {w : World} {n : Nat} {v : Value}
    (h : Calls P f args (w.drewN n) fun e w' => e = .returned v ∧ w.drewN n = w') : Calls P f args (w.drewN n) fun e w'' => e = .returned v ∧ ∃ m, w'' = w.drewN m :=
  h.mono fun _ _ ⟨he, hm⟩ => ⟨he, n, hm.symm⟩

end Go.Mum
