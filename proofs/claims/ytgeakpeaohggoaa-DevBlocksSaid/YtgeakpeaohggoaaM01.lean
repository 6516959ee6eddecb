/- Contracts of the functions that the law reaches, walked, and the plain laws on them (several texts in one). -/
import Derived.WalkKit
import Derived.WalkSpells
import Derived.WalkLawsBesides
import Derived.LoopTactic
import Derived.Below
import Derived.Lib.Hide
import Derived.Deep.QuietTactic
import Derived.BigQuiet
import Derived.OwnWalk
import Derived.Laws.AppendOwnNone
import Derived.Laws.BytesArg
import Derived.Laws.IdiomStrings

/- Small laws on worlds that several proofs share: a world that is another but for listed blocks and for new ones. -/
namespace Go.Mum
open Go.RowKit

/-- 'x' is 'w' but for the blocks 'l' and for new ones. -/
structure Keep (l : List Nat) (w x : World) : Prop where
  os : x.os = w.os
  tape : x.tape = w.tape
  output : x.output = w.output
  size : w.heap.size ≤ x.heap.size
  block : ∀ k, k < w.heap.size → k ∉ l → x.heap[k]? = w.heap[k]?

theorem Keep.refl (l : List Nat) (w : World) : Keep l w w := ⟨rfl, rfl, rfl, Nat.le_refl _, fun _ _ _ => rfl⟩

theorem Keep.trans {l : List Nat} {w x y : World} (h : Keep l w x) (h' : Keep l x y) : Keep l w y :=
  ⟨h'.os.trans h.os, h'.tape.trans h.tape, h'.output.trans h.output, Nat.le_trans h.size h'.size,
   fun k hk hn => (h'.block k (Nat.lt_of_lt_of_le hk h.size) hn).trans (h.block k hk hn)⟩

/-- The exceptions may be more, or such as were not there at the start. -/
theorem Keep.weaken {l l' : List Nat} {w x : World} (h : Keep l w x) (hs : ∀ k ∈ l, k < w.heap.size → k ∈ l') : Keep l' w x :=
  ⟨h.os, h.tape, h.output, h.size, fun k hk hn => h.block k hk fun hm => hn (hs k hm hk)⟩

theorem Keep.then {l l' : List Nat} {w x y : World} (h : Keep l w x) (h' : Keep l' x y) (hs : ∀ k ∈ l', k < w.heap.size → k ∈ l) : Keep l w y :=
  ⟨h'.os.trans h.os, h'.tape.trans h.tape, h'.output.trans h.output, Nat.le_trans h.size h'.size,
   fun k hk hn => (h'.block k (Nat.lt_of_lt_of_le hk h.size) fun hm => hn (hs k hm hk)).trans (h.block k hk hn)⟩

theorem Keep.below {l : List Nat} {w x : World} {B : Nat} (h : Keep l w x) (hB : B ≤ w.heap.size) (hs : ∀ k ∈ l, B ≤ k) : Below B w x :=
  ⟨h.os, h.tape, h.output, h.size, fun k hk => h.block k (by omega) fun hm => by have := hs k hm; omega⟩

theorem Keep.alloc {l : List Nat} {w x : World} (h : Keep l w x) (o : Obj) : Keep l w (x.alloc o) :=
  h.trans ⟨rfl, rfl, rfl, by simp, fun k hk _ => Below.heap_alloc _ _ _ hk⟩

theorem Keep.drew {l : List Nat} {w x : World} (h : Keep l w x) : Keep l w x.drew := ⟨h.os, h.tape, h.output, h.size, h.block⟩

theorem Keep.drewN {l : List Nat} {w x : World} (h : Keep l w x) (n : Nat) : Keep l w (x.drewN n) := ⟨h.os, h.tape, h.output, h.size, h.block⟩

theorem Keep.setCell {l : List Nat} {w x : World} (h : Keep l w x) {p : Addr} (hp : p.block ∈ l ∨ w.heap.size ≤ p.block) (u : Value) : Keep l w (x.setCell p u) :=
  ⟨h.os, h.tape, h.output, by simpa [World.setCell] using h.size, fun k hk hn => by
    rw [Below.heap_setCell _ _ _ _ (fun e => by subst e; rcases hp with hp | hp; exact hn hp; omega)]
    exact h.block k hk hn⟩

theorem Keep.grown {l : List Nat} {w x y : World} {row : Option Nat} (h : Keep l w x) (hg : x.grownBy y row) (hr : ∀ k, row = some k → k ∈ l ∨ w.heap.size ≤ k) : Keep l w y :=
  ⟨hg.os.trans h.os, hg.tape.trans h.tape, hg.output.trans h.output, Nat.le_trans h.size hg.size, fun k hk hn =>
    (hg.block k (Nat.lt_of_lt_of_le hk h.size) (fun e => by rcases hr k e.symm with h1 | h1; exact hn h1; omega)).trans (h.block k hk hn)⟩

theorem Keep.heap {l : List Nat} {w x : World} (h : Keep l w x) {k : Nat} {o : Obj} (ho : w.heap[k]? = some o) (hn : k ∉ l) : x.heap[k]? = some o := by
  rw [h.block k (Array.getElem?_eq_some_iff.1 ho).1 hn, ho]

theorem Keep.lt {l : List Nat} {w x : World} (h : Keep l w x) {k : Nat} (hk : k < w.heap.size) : k < x.heap.size := Nat.lt_of_lt_of_le hk h.size

theorem Keep.cell {l : List Nat} {w x : World} (h : Keep l w x) {a : Addr} {v : Value} (hc : w.cell? a = some v) (hn : a.block ∉ l) : x.cell? a = some v := by
  rw [World.cell?_of_block (w := w) (h.block a.block (World.block_lt_of_cell? w a hc) hn), hc]

theorem Keep.frozen {l : List Nat} {w x : World} (h : Keep l w x) {a : Addr} (hk : a.block < w.heap.size) (hn : a.block ∉ l) : x.frozen? a = w.frozen? a :=
  World.frozen?_of_block (w := w) (h.block a.block hk hn)

theorem lt_of_heap {w : World} {k : Nat} {o : Obj} (h : w.heap[k]? = some o) : k < w.heap.size := (Array.getElem?_eq_some_iff.1 h).1

/-- A cell of a block that is known whole. -/
theorem cell_of {w : World} {b : Nat} {cs : Array Value} {t : TypeId} {fz : Nat × Nat} (h : w.heap[b]? = some (.cells cs t fz)) (i : Nat) {v : Value} (hv : cs[i]? = some v) : w.cell? ⟨b, i, none⟩ = some v := by
  simp [World.cell?, h, hv]

theorem frozen_of {w : World} {b : Nat} {cs : Array Value} {t : TypeId} (h : w.heap[b]? = some (.cells cs t (0, 0))) (i : Nat) : w.frozen? ⟨b, i, none⟩ = false := by
  simp [World.frozen?, h]

theorem heap_set_same {w : World} {b : Nat} {cs : Array Value} {t : TypeId} {fz : Nat × Nat} (h : w.heap[b]? = some (.cells cs t fz)) (i : Nat) (v : Value) :
    (w.setCell ⟨b, i, none⟩ v).heap[b]? = some (.cells (cs.setIfInBounds i v) t fz) := by
  simp [World.setCell, Array.getElem?_modify, h]

theorem heap_set_other {w : World} {b k : Nat} (hne : k ≠ b) (i : Nat) (v : Value) : (w.setCell ⟨b, i, none⟩ v).heap[k]? = w.heap[k]? :=
  Below.heap_setCell _ _ _ _ hne

theorem heap_alloc_same (w : World) (o : Obj) : (w.alloc o).heap[w.heap.size]? = some o := heap_alloc_new w o

theorem heap_alloc_at {w : World} {n : Nat} (o : Obj) (hn : n = w.heap.size) : (w.alloc o).heap[n]? = some o := by subst hn; exact heap_alloc_new w o

theorem heap_alloc_other {w : World} {k : Nat} {o' : Obj} (o : Obj) (h : w.heap[k]? = some o') : (w.alloc o).heap[k]? = some o' := by
  rw [Below.heap_alloc _ _ _ (lt_of_heap h), h]

/-- A callee that leaves the very world, in a region that reads alone. -/
theorem quiet_same {P : Program} {f : FuncId} {args : Array Value} {w : World} {n : Nat} {v : Value}
    (h : Calls P f args (w.drewN n) fun e w' => e = .returned v ∧ w.drewN n = w') : Calls P f args (w.drewN n) fun e w'' => e = .returned v ∧ ∃ m, w'' = w.drewN m :=
  h.mono fun _ _ ⟨he, hm⟩ => ⟨he, n, hm.symm⟩

end Go.Mum

/- Slices of bytes, as lists of numbers: a row that can be read, a row that the call made itself. -/
namespace Go.Mum
open Go.RowKit

def u8s (L : List Int) : List Value := L.map (Value.int .u8)
def IsBytes (L : List Int) : Prop := ∀ x ∈ L, 0 ≤ x ∧ x < 256

/-- The value is a slice whose elements are the bytes L. -/
structure Row (w : World) (a : Option Addr) (c : Nat) (L : List Int) : Prop where
  bytes : IsBytes L
  cap : L.length ≤ c ∧ c ≤ maxLen
  at' : (a = none ∧ L = [] ∧ c = 0) ∨ (L = [] ∧ ∃ ad, a = some ad) ∨ ∃ b off, a = some ⟨b, off, none⟩ ∧ ∀ i, i < L.length → w.cell? ⟨b, off + i, none⟩ = some (.int .u8 (L.getD i 0))

theorem Row.keep {l : List Nat} {w x : World} {a : Option Addr} {c : Nat} {L : List Int} (h : Row w a c L) (hk : Keep l w x) (hn : ∀ b, a = some b → b.block ∉ l) : Row x a c L :=
  ⟨h.bytes, h.cap, h.at'.imp id <| Or.imp id fun ⟨b, off, e, hc⟩ => ⟨b, off, e, fun i hi => hk.cell (hc i hi) (by simpa using hn _ e)⟩⟩

theorem Row.keep0 {w x : World} {a : Option Addr} {c : Nat} {L : List Int} (h : Row w a c L) (hk : Keep [] w x) : Row x a c L := h.keep hk (fun _ _ => by simp)

theorem Row.nil (w : World) : Row w none 0 [] := ⟨(by intro x hx; cases hx), ⟨Nat.le_refl _, (by unfold maxLen; omega)⟩, .inl ⟨rfl, rfl, rfl⟩⟩

theorem Row.take {w : World} {a : Option Addr} {c : Nat} {L : List Int} (h : Row w a c L) (k : Nat) : Row w a c (L.take k) := by
  refine ⟨fun x hx => h.bytes x (List.mem_of_mem_take hx), ⟨by rw [List.length_take]; have := h.cap; omega, h.cap.2⟩, ?_⟩
  rcases h.at' with ⟨h1, rfl, h3⟩ | ⟨rfl, h2⟩ | ⟨b, off, rfl, hc⟩
  · exact .inl ⟨h1, by simp, h3⟩
  · exact .inr (.inl ⟨by simp, h2⟩)
  · refine .inr (.inr ⟨b, off, rfl, fun i hi => ?_⟩)
    rw [List.length_take] at hi
    rw [hc i (by omega)]
    simp [List.getD, List.getElem?_take_of_lt (show i < k by omega)]

theorem Row.drop {w : World} {b off : Nat} {c : Nat} {L : List Int} (h : Row w (some ⟨b, off, none⟩) c L) (k : Nat) (hk : k ≤ L.length) : Row w (some ⟨b, off + k, none⟩) (c - k) (L.drop k) := by
  refine ⟨fun x hx => h.bytes x (List.mem_of_mem_drop hx), ⟨by rw [List.length_drop]; have := h.cap; omega, by have := h.cap; omega⟩, ?_⟩
  rcases h.at' with ⟨h1, _⟩ | ⟨rfl, h2⟩ | ⟨b', off', e, hc⟩
  · cases h1
  · exact .inr (.inl ⟨by simp, _, rfl⟩)
  · cases e
    refine .inr (.inr ⟨b, off + k, rfl, fun i hi => ?_⟩)
    rw [List.length_drop] at hi
    rw [show off + k + i = off + (k + i) by omega, hc (k + i) (by omega)]
    simp [List.getD]

theorem Row.some_of {w : World} {a : Option Addr} {c : Nat} {L : List Int} (h : Row w a c L) (h0 : 0 < L.length) : ∃ b off, a = some ⟨b, off, none⟩ := by
  rcases h.at' with ⟨_, rfl, _⟩ | ⟨rfl, _⟩ | ⟨b, off, rfl, _⟩
  · simp at h0
  · simp at h0
  · exact ⟨b, off, rfl⟩

/-- 's[l:h]'. -/
theorem run_slice_row {P : Program} {t e : TypeId} (ht : P.underlying t = some (.slice e)) (hz : ∀ w, (Go.sizeOf e).run P w = .ok 1 w) {w : World} {b off c : Nat} {L : List Int} (hr : Row w (some ⟨b, off, none⟩) c L) (l h : Nat) (hlh : l ≤ h) (hh : h ≤ L.length) :
    ∃ a', (∀ W : World, (Instr.slice t (.slice (some ⟨b, off, none⟩) L.length c) (some (.int .i64 (l : Int))) (some (.int .i64 (h : Int))) none).run P W = .ok (.slice a' (h - l) (c - l)) W) ∧ Row w a' (c - l) ((L.drop l).take (h - l)) := by
  have hcap := hr.cap
  have ht' : P.underlying t = some (.slice (P.elem t)) := by simp [Program.elem, ht]
  have he : P.elem t = e := by simp [Program.elem, ht]
  have hrun : ∀ W : World, (Instr.slice t (.slice (some ⟨b, off, none⟩) L.length c) (some (.int .i64 (l : Int))) (some (.int .i64 (h : Int))) none).run P W = .ok (sliced (some ⟨b, off, none⟩) l h c 1) W := by
    intro W
    rw [run_slice_lh W t _ _ _ ht' .i64 .i64 _ _ (by omega) (by omega) (by omega), he, hz]
    simp [Result.andThen]
  have hd := (hr.drop l (by omega)).take (h - l)
  by_cases hne : c = l
  · have hL : (L.drop l).take (h - l) = [] := by
      rw [List.take_eq_nil_iff]; left; omega
    rw [hL]
    refine ⟨some ⟨b, off, none⟩, fun W => ?_, ⟨(by intro x hx; cases hx), ⟨by simp, by omega⟩, .inr (.inl ⟨rfl, _, rfl⟩)⟩⟩
    rw [hrun]
    simp [sliced, hne]
  · refine ⟨some ⟨b, off + l, none⟩, fun W => ?_, hd⟩
    rw [hrun]
    by_cases h0 : l = 0
    · subst h0; simp [sliced, Addr.add, hne]
    · simp [sliced, Addr.add, hne, h0]

theorem u8s_append (a b : List Int) : u8s (a ++ b) = u8s a ++ u8s b := by simp [u8s]
theorem u8s_length (a : List Int) : (u8s a).length = a.length := by simp [u8s]
theorem isBytes_append {a b : List Int} (ha : IsBytes a) (hb : IsBytes b) : IsBytes (a ++ b) := by
  intro x hx
  rcases List.mem_append.1 hx with h | h
  · exact ha x h
  · exact hb x h

/-- A row that the call made: its bytes are L, its block is not older than 'base'. -/
def Own (w : World) (base : Nat) (t : TypeId) (v : Value) (L : List Int) : Prop := w.ownsRow base t 1 v L.length (u8s L) ∧ IsBytes L

theorem Own.nil (w : World) (base : Nat) (t : TypeId) : Own w base t (.slice none 0 0) [] := ⟨World.ownsRow_nil _ _ _ _, by intro x hx; cases hx⟩

/-- '[]byte{}'. -/
theorem Own.empty {w : World} {base : Nat} {t : TypeId} {g : Nat} (h : w.heap[g]? = some (.cells #[] t (0, 0))) (hb : base ≤ g) : Own w base t (.slice (some ⟨g, 0, none⟩) 0 0) [] :=
  ⟨⟨rfl, .inr ⟨g, 0, #[], rfl, hb, h, Nat.le_refl _, by unfold maxLen; omega, rfl, rfl⟩⟩, by intro x hx; cases hx⟩

theorem Own.shape {w : World} {base : Nat} {t : TypeId} {v : Value} {L : List Int} (h : Own w base t v L) : ∃ a c, v = .slice a L.length c ∧ Row w a c L := by
  rcases h.1.2 with ⟨rfl, h0⟩ | ⟨g, cap, cur, rfl, hb, hg, h1, h2, h3, h4⟩
  · have : L = [] := List.eq_nil_of_length_eq_zero h0
    subst this
    exact ⟨none, 0, rfl, Row.nil w⟩
  · refine ⟨_, cap, rfl, h.2, ⟨h1, h2⟩, .inr <| .inr ⟨g, 0, rfl, fun i hi => ?_⟩⟩
    refine cell_of hg _ ?_
    have := congrArg (fun l => l[i]?) h4
    simp only [List.getElem?_take, Nat.mul_one, hi, if_true, Array.getElem?_toList] at this
    rw [Nat.zero_add, this]
    simp [u8s, List.getElem?_eq_getElem hi, List.getD]

theorem Own.keep {l : List Nat} {w x : World} {base : Nat} {t : TypeId} {v : Value} {L : List Int} (h : Own w base t v L) (hk : Keep l w x) (hn : ∀ k, v.ownBlock = some k → k ∉ l) : Own x base t v L := by
  refine ⟨⟨h.1.1, ?_⟩, h.2⟩
  rcases h.1.2 with hh | ⟨g, cap, cur, rfl, hb, hg, r⟩
  · exact .inl hh
  · exact .inr ⟨g, cap, cur, rfl, hb, hk.heap hg (hn g rfl), r⟩

theorem Own.keep0 {w x : World} {base : Nat} {t : TypeId} {v : Value} {L : List Int} (h : Own w base t v L) (hk : Keep [] w x) : Own x base t v L := h.keep hk (fun _ _ => by simp)

theorem Own.lower {w : World} {base base' : Nat} {t : TypeId} {v : Value} {L : List Int} (h : Own w base t v L) (hb : base' ≤ base) : Own w base' t v L := by
  refine ⟨⟨h.1.1, ?_⟩, h.2⟩
  rcases h.1.2 with hh | ⟨g, cap, cur, rfl, hb', r⟩
  · exact .inl hh
  · exact .inr ⟨g, cap, cur, rfl, by omega, r⟩

theorem Own.block {w : World} {base : Nat} {t : TypeId} {v : Value} {L : List Int} (h : Own w base t v L) : ∀ k, v.ownBlock = some k → base ≤ k ∧ k < w.heap.size := h.1.lt

section
variable {P : Program} {w : World} {ops : Array Oper} {rest : List Oper} {o : Oper} {act : Act} {Q : Exit → Act → World → Prop}

/-- 'append(own, row...)'. -/
theorem wpList_append_row (hgd : o.guard = none) (s x : Operand) (t : TypeId) (ho : o.op = .call { callee := .builtin .append, args := #[s, x], argTypes := #[t, t] })
    (base : Nat) (e : TypeId) (ht : P.underlying t = some (.slice e)) (hinfo : (P.info? e).map (fun i => (i.zero, i.size, i.bytes)) = some (some (.int .u8 0), 1, 1))
    (v : Value) (L M : List Int) (hs : act.eval s = v) (hown : Own w base e v L) (a : Option Addr) (m c : Nat) (hm : m = M.length) (hx : act.eval x = .slice a m c) (hrow : Row w a c M)
    (hlen : L.length + M.length ≤ 140737488355328) (hbase : base ≤ w.heap.size)
    (h : ∀ v' w', Own w' base e v' (L ++ M) → w.grownBy w' v.ownBlock → wpList P ops Q rest (act.put o.dst v') w') : wpList P ops Q (o :: rest) act w := by
  obtain ⟨i0, hi, hz0, hz1, hz2⟩ := info_parts hinfo
  subst hm
  rcases hrow.at' with ⟨rfl, rfl, rfl⟩ | ⟨rfl, ad, rfl⟩ | ⟨b, off, rfl, hc⟩
  · refine wpList_append_own_none hgd s x t ho base e i0 1 ht hi v L.length (u8s L) hs hown.1 hx (h v w (by simpa using hown) ⟨rfl, rfl, rfl, Nat.le_refl _, fun _ _ _ => rfl⟩)
  · refine wpList_append_own _ hgd s x t ho base e i0 (.int .u8 0) 1 1 ht hi hz0 hz1 hz2 rfl (by decide) v L.length (u8s L) hs hown.1 ad 0 c [] hx rfl (by simp) (by simp) (by unfold maxLen; omega) (by omega) hbase ?_
    intro v' w' h1 h2 _
    exact h v' w' ⟨by simpa using h1, by simpa using hown.2⟩ h2
  · refine wpList_append_own _ hgd s x t ho base e i0 (.int .u8 0) 1 1 ht hi hz0 hz1 hz2 rfl (by decide) v L.length (u8s L) hs hown.1 ⟨b, off, none⟩ M.length c (u8s M) hx (by simp [u8s]) ?_ ?_ (by unfold maxLen; omega) (by omega) hbase ?_
    · intro j u hu
      have hj : j < M.length := by
        rcases Nat.lt_or_ge j M.length with h | h
        · exact h
        · rw [List.getElem?_eq_none (by simpa [u8s] using h)] at hu; cases hu
      rw [Addr.add_lit, hc j hj]
      simp only [u8s, List.getElem?_map, List.getElem?_eq_getElem hj, Option.map_some, Option.some.injEq] at hu
      rw [← hu]
      simp [List.getD, List.getElem?_eq_getElem hj]
    · intro u hu
      obtain ⟨z, _, rfl⟩ := List.mem_map.1 hu
      simp [Value.oneCell']
    · intro v' w' h1 h2 _
      exact h v' w' ⟨by rw [u8s_append, List.length_append]; exact h1, isBytes_append hown.2 hrow.bytes⟩ h2
end

/-- 'string(row)'. -/
theorem run_string {P : Program} {src e : TypeId} (hs : P.underlying src = some (.slice e)) (he : P.underlying e = some (.int .u8)) {w : World} {a : Option Addr} {c : Nat} {L : List Int} (h : Row w a c L) (n : Nat) (hn : n = L.length) :
    ∀ dst, P.underlying dst = some .string → (convert src dst (.slice a n c)).run P w = .ok (.string (strOfNums L)) w := by
  subst hn
  rcases h.at' with ⟨rfl, rfl, rfl⟩ | ⟨rfl, ad, rfl⟩ | ⟨b, off, rfl, hc⟩
  · intro dst hd
    exact (run_convert_bytes_nil w src e hs he 0 0 dst hd).trans rfl
  · intro dst hd
    have hl : (loadCells ad 0).run P w = .ok ([].map (Value.int .u8)).toArray w := rfl
    show (convert src dst (.slice (some ad) 0 c)).run P w = _
    rw [run_convert_bytes_string w src dst e _ 0 c hs he hd, run_bytesToString w _ 0 c [] hl]
    rfl
  · exact run_convert_bytes_arg w src e hs he b off L.length c L rfl hc

theorem strOfNums_append (a b : List Int) : strOfNums (a ++ b) = strOfNums a ++ strOfNums b := by
  apply ByteArray.ext
  simp [strOfNums]

theorem strOfNums_inj {a b : List Int} (ha : IsBytes a) (hb : IsBytes b) (h : strOfNums a = strOfNums b) : a = b := by
  have h1 : a.map (fun n => UInt8.ofNat n.toNat) = b.map (fun n => UInt8.ofNat n.toNat) := by
    rw [← strOfNums_data, ← strOfNums_data, h]
  have back : ∀ l : List Int, IsBytes l → (l.map (fun n => UInt8.ofNat n.toNat)).map (fun u => (u.toNat : Int)) = l := by
    intro l hl
    rw [List.map_map]
    conv => rhs; rw [← List.map_id l]
    apply List.map_congr_left
    intro x hx
    have := hl x hx
    simp
    omega
  rw [← back a ha, ← back b hb, h1]

end Go.Mum
