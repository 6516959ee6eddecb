/- The document's memory: its calls, one by one. -/
import Derived.Test.YtnpnedimgfbnhaaRam5
import Derived.Outline
namespace Go.Proofs.Ytnpnedimgfbnhaa
open Go.RowKit Go.Mum

/-- The document's memory: its bytes L lie in a block of their own; or there is none. -/
def RefAt (w : World) (a : Option Addr) (L : List Int) : Prop :=
  ((a = none ∧ L = []) ∨ ∃ q, a = some ⟨q, 0, none⟩ ∧ w.heap[q]? = some (.cells (u8s L).toArray 5 (0, 0))) ∧ IsBytes L ∧ L.length ≤ 32768

theorem RefAt.keep {l : List Nat} {w x : World} {a : Option Addr} {L : List Int} (h : RefAt w a L) (hk : Keep l w x) (hn : ∀ b, a = some b → b.block ∉ l) : RefAt x a L :=
  ⟨h.1.imp id fun ⟨q, e, hq⟩ => ⟨q, e, hk.heap hq (by simpa using hn _ e)⟩, h.2⟩

theorem RefAt.keep0 {w x : World} {a : Option Addr} {L : List Int} (h : RefAt w a L) (hk : Keep [] w x) : RefAt x a L := h.keep hk (fun _ _ => by simp)

theorem RefAt.some_of {w : World} {a : Option Addr} {L : List Int} (h : RefAt w a L) (h0 : 0 < L.length) : ∃ q, a = some ⟨q, 0, none⟩ ∧ w.heap[q]? = some (.cells (u8s L).toArray 5 (0, 0)) := by
  rcases h.1 with ⟨_, rfl⟩ | h
  · simp at h0
  · exact h

theorem RefAt.row {w : World} {a : Option Addr} {L : List Int} (h : RefAt w a L) : Row w a L.length L := by
  refine ⟨h.2.1, ⟨Nat.le_refl _, by have := h.2.2; unfold maxLen; omega⟩, ?_⟩
  rcases h.1 with ⟨rfl, rfl⟩ | ⟨q, rfl, hq⟩
  · exact .inl ⟨rfl, rfl, rfl⟩
  · exact .inr (.inr ⟨q, 0, rfl, fun i hi => by rw [Nat.zero_add]; exact cell_of hq i (by simp [u8s, List.getElem?_eq_getElem hi, List.getD])⟩)

theorem u8_cell {w : World} {q : Nat} {L : List Int} {t : TypeId} (h : w.heap[q]? = some (.cells (u8s L).toArray t (0, 0))) {j : Nat} (hj : j < L.length) : w.cell? ⟨q, j, none⟩ = some (.int .u8 (L.getD j 0)) :=
  cell_of h j (by simp [u8s, List.getElem?_eq_getElem hj, List.getD])

theorem u8_byte {L : List Int} (h : IsBytes L) {j : Nat} (hj : j < L.length) : 0 ≤ L.getD j 0 ∧ L.getD j 0 < 256 := h _ (by simp [List.getD, List.getElem?_eq_getElem hj])

theorem u8_set {w : World} {q : Nat} {L : List Int} {t : TypeId} (h : w.heap[q]? = some (.cells (u8s L).toArray t (0, 0))) (j : Nat) (z : Int) : (w.setCell ⟨q, j, none⟩ (.int .u8 z)).heap[q]? = some (.cells (u8s (L.set j z)).toArray t (0, 0)) := by
  rw [heap_set_same h]
  simp [u8s, List.map_set]

set_option maxHeartbeats 400000 in
theorem fnew_at (n : Nat) (w : World) (hn : n ≤ 512) :
    Calls Try.prog 24 #[.int .i64 n] w fun e w' => e = .returned (.agg #[.slice (some ⟨w.heap.size + 1, 0, none⟩) (64 * n) (64 * n)]) ∧ RefAt w' (some ⟨w.heap.size + 1, 0, none⟩) (List.replicate (64 * n) 0) ∧ Keep [] w w' := by
  have hmk := make_u8 (64 * n) (by omega) ((n : Int) * 64) (by omega)
  go_enter Try.func24, Try.ntmps24
  go_wp2_with fail
  refine bodyPost_ret (v := .agg #[.slice (some ⟨w.heap.size + 1, 0, none⟩) (64 * n) (64 * n)]) (by simp [results, Try.results24, go_sem]) rfl ⟨rfl, ?_, ?_⟩
  · exact ⟨.inr ⟨_, rfl, heap_alloc_at _ (by simp)⟩, (by intro x hx; rw [List.eq_of_mem_replicate hx]; omega), by rw [List.length_replicate]; omega⟩
  · exact ((Keep.refl _ _).alloc _).alloc _

set_option maxHeartbeats 400000 in
theorem fbyte_yes {w : World} {a : Option Addr} {L : List Int} (h : RefAt w a L) (i : Nat) (hi : i < L.length) :
    Calls Try.prog 50 #[.agg #[.slice a L.length L.length], .int .u32 i] w fun e w' => e = .returned (.tuple #[.int .u8 (L.getD i 0), .bool true]) ∧ Keep [] w w' := by
  have hl := h.2.2
  obtain ⟨q, rfl, hq⟩ := h.some_of (by omega)
  have hc : ∀ o, (w.alloc o).cell? ⟨q, i, none⟩ = some (.int .u8 (L.getD i 0)) := fun o => ((Keep.refl [] w).alloc o).cell (u8_cell hq hi) (by simp)
  have hc2 := hc (.cells #[.slice (some ⟨q, 0, none⟩) L.length L.length] 50)
  have hi' : ¬ ((L.length : Int) ≤ (i : Int)) := by omega
  have hi'' : (i : Int) < (L.length : Int) := by omega
  clear hc h
  go_enter Try.func50, Try.ntmps50
  go_wp2
  go_ret2
  exact ⟨rfl, (Keep.refl _ _).alloc _⟩

set_option maxHeartbeats 400000 in
theorem fbyte_no {w : World} {a : Option Addr} {L : List Int} (h : RefAt w a L) (i : Nat) (hi : L.length ≤ i) (hi2 : i < 4294967296) :
    Calls Try.prog 50 #[.agg #[.slice a L.length L.length], .int .u32 i] w fun e w' => e = .returned (.tuple #[.int .u8 0, .bool false]) ∧ Keep [] w w' := by
  have hl := h.2.2
  have hi' : (L.length : Int) ≤ (i : Int) := by omega
  clear h
  go_enter Try.func50, Try.ntmps50
  go_wp2
  go_ret2
  exact ⟨rfl, (Keep.refl _ _).alloc _⟩

/-- What a call that lays bytes leaves. -/
def FPost (a : Option Addr) (L' : List Int) (ok : Bool) (w : World) (e : Ending) (w' : World) : Prop :=
  e = .returned (.bool ok) ∧ RefAt w' a L' ∧ ∃ l, (∀ k ∈ l, ∃ q, a = some ⟨k, q, none⟩) ∧ Keep l w w'

theorem f_no {w : World} {a : Option Addr} {L : List Int} (h : RefAt w a L) (o : Obj) : FPost a L false w (.returned (.bool false)) (w.alloc o) :=
  ⟨rfl, h.keep0 ((Keep.refl _ _).alloc _), [], by simp, (Keep.refl _ _).alloc _⟩

set_option maxHeartbeats 2000000 in
theorem fword_yes {w : World} {a : Option Addr} {L : List Int} (h : RefAt w a L) (i : Nat) (h4 : i % 4 = 0) (hi : i < L.length) (hl4 : L.length % 4 = 0) :
    Calls Try.prog 52 #[.agg #[.slice a L.length L.length], .int .u32 i] w fun e w' => e = .returned (.tuple #[.int .u32 (word4 L i), .bool true]) ∧ Keep [] w w' := by
  have hl := h.2.2
  obtain ⟨q, rfl, hq⟩ := h.some_of (by omega)
  have hq' := heap_alloc_other (.cells #[.slice (some ⟨q, 0, none⟩) L.length L.length] 50) hq
  have c0 := u8_cell hq' hi
  have c1 := u8_cell hq' (j := i + 1) (by omega)
  have c2 := u8_cell hq' (j := i + 2) (by omega)
  have c3 := u8_cell hq' (j := i + 3) (by omega)
  have b0 := u8_byte h.2.1 hi
  have b1 := u8_byte h.2.1 (j := i + 1) (by omega)
  have b2 := u8_byte h.2.1 (j := i + 2) (by omega)
  have b3 := u8_byte h.2.1 (j := i + 3) (by omega)
  have hi0 : (i : Int) < (L.length : Int) := by omega
  have hi1 : (i : Int) + 1 < (L.length : Int) := by omega
  have hi2 : (i : Int) + 2 < (L.length : Int) := by omega
  have hi3 : (i : Int) + 3 < (L.length : Int) := by omega
  have n1 : IntKind.u32.wrap ((i : Int) + 1) = ((i + 1 : Nat) : Int) := by rw [IntKind.wrap_u32]; omega
  have n2 : IntKind.u32.wrap ((i : Int) + 2) = ((i + 2 : Nat) : Int) := by rw [IntKind.wrap_u32]; omega
  have n3 : IntKind.u32.wrap ((i : Int) + 3) = ((i + 3 : Nat) : Int) := by rw [IntKind.wrap_u32]; omega
  have hm : ((i : Int) % 4 != 0) = false := by rw [bne_eq_false_iff_eq]; omega
  have hli : ¬ ((L.length : Int) ≤ (i : Int)) := by omega
  unfold word4
  generalize L.getD i 0 = d0 at *
  generalize L.getD (i + 1) 0 = d1 at *
  generalize L.getD (i + 2) 0 = d2 at *
  generalize L.getD (i + 3) 0 = d3 at *
  have m1 : IntKind.u32.wrap (256 * d1) = d1 * 256 := by rw [IntKind.wrap_u32]; omega
  have m2 : IntKind.u32.wrap (65536 * d2) = d2 * 65536 := by rw [IntKind.wrap_u32]; omega
  have m3 : IntKind.u32.wrap (16777216 * d3) = d3 * 16777216 := by rw [IntKind.wrap_u32]; omega
  have s1 : IntKind.u32.wrap (d0 + d1 * 256) = d0 + d1 * 256 := by rw [IntKind.wrap_u32]; omega
  have s2 : IntKind.u32.wrap (d0 + d1 * 256 + d2 * 65536) = d0 + d1 * 256 + d2 * 65536 := by rw [IntKind.wrap_u32]; omega
  have s3 : IntKind.u32.wrap (d0 + d1 * 256 + d2 * 65536 + d3 * 16777216) = d0 + d1 * 256 + d2 * 65536 + d3 * 16777216 := by rw [IntKind.wrap_u32]; omega
  clear h h4 hl4 hq hq'
  go_enter Try.func52, Try.ntmps52
  go_wp2_with fail
  go_quiet (fail)
  go_wp2
  go_ret2
  exact ⟨rfl, ((Keep.refl _ _).alloc _).drewN _⟩

set_option maxHeartbeats 400000 in
theorem fword_no {w : World} {a : Option Addr} {L : List Int} (h : RefAt w a L) (i : Nat) (hi : i < 4294967296) (hno : i % 4 ≠ 0 ∨ L.length ≤ i) :
    Calls Try.prog 52 #[.agg #[.slice a L.length L.length], .int .u32 i] w fun e w' => e = .returned (.tuple #[.int .u32 0, .bool false]) ∧ Keep [] w w' := by
  have hl := h.2.2
  clear h
  by_cases h4 : i % 4 = 0
  · have hli : (L.length : Int) ≤ (i : Int) := by omega
    have hm : ((i : Int) % 4 != 0) = false := by rw [bne_eq_false_iff_eq]; omega
    clear hno h4
    go_enter Try.func52, Try.ntmps52
    go_wp2_with fail
    go_ret2
    exact ⟨rfl, (Keep.refl _ _).alloc _⟩
  · have hm : ((i : Int) % 4 != 0) = true := by rw [bne_iff_ne]; omega
    clear hno h4
    go_enter Try.func52, Try.ntmps52
    go_wp2_with fail
    go_ret2
    exact ⟨rfl, (Keep.refl _ _).alloc _⟩
end Go.Proofs.Ytnpnedimgfbnhaa
