/- The calls of the package ram that only read, one by one. -/
import Derived.Test.YtpinoejckagjbaaRows
import Derived.Test.YtpinoejckagjbaaStr
import Derived.Test.YtpinoejckagjbaaArr
import Derived.WalkMore
import Derived.IntWalk
namespace Go.Proofs.Ytpinoejckagjbaa
open Go.RowKit Go.Mum

/-- A memory: its head in block r, its rows in block fb, its bytes L in block g; frame k begins at cell 64 * ks[k]. -/
structure RamAt (w : World) (r fb g : Nat) (ks : List Nat) (L : List Int) : Prop where
  head : ∃ cap, w.heap[r]? = some (.cells #[.slice (some ⟨fb, 0, none⟩) ks.length cap] 121 (0, 0)) ∧ ks.length ≤ cap ∧ cap ≤ maxLen
  rows : ∃ cs, w.heap[fb]? = some (.cells cs 48 (0, 0)) ∧ ∀ k, k < ks.length → cs[k]? = some (.slice (some ⟨g, 64 * ks.getD k 0, none⟩) 64 64)
  data : w.heap[g]? = some (.cells (u8s L).toArray 5 (0, 0))
  bytes : IsBytes L
  fits : ∀ k, k < ks.length → 64 * ks.getD k 0 + 64 ≤ L.length
  size : 1 ≤ ks.length ∧ ks.length ≤ 512

/-- Where in the block the byte at an address lies. -/
def pl (ks : List Nat) (a : Nat) : Nat := 64 * ks.getD (a / 64) 0 + a % 64

section
variable {w x : World} {r fb g : Nat} {ks : List Nat} {L : List Int}

theorem RamAt.keep {l : List Nat} (h : RamAt w r fb g ks L) (hk : Keep l w x) (h1 : r ∉ l) (h2 : fb ∉ l) (h3 : g ∉ l) : RamAt x r fb g ks L := by
  obtain ⟨⟨cap, a1, a2⟩, ⟨cs, b1, b2⟩, c, d1, d2, d3⟩ := h
  exact ⟨⟨cap, hk.heap a1 h1, a2⟩, ⟨cs, hk.heap b1 h2, b2⟩, hk.heap c h3, d1, d2, d3⟩

theorem RamAt.keep0 (h : RamAt w r fb g ks L) (hk : Keep [] w x) : RamAt x r fb g ks L := h.keep hk (by simp) (by simp) (by simp)

theorem RamAt.ne (h : RamAt w r fb g ks L) : r ≠ fb ∧ r ≠ g ∧ fb ≠ g := by
  obtain ⟨⟨cap, a1, _⟩, ⟨cs, b1, _⟩, c, _⟩ := h
  refine ⟨?_, ?_, ?_⟩
  · rintro rfl; rw [a1] at b1; simp at b1
  · rintro rfl; rw [a1] at c; simp at c
  · rintro rfl; rw [b1] at c; simp at c

theorem RamAt.lt (h : RamAt w r fb g ks L) : r < w.heap.size ∧ fb < w.heap.size ∧ g < w.heap.size := by
  obtain ⟨⟨cap, a1, _⟩, ⟨cs, b1, _⟩, c, _⟩ := h
  exact ⟨lt_of_heap a1, lt_of_heap b1, lt_of_heap c⟩

theorem RamAt.hcell (h : RamAt w r fb g ks L) : ∃ cap, w.cell? ⟨r, 0, none⟩ = some (.slice (some ⟨fb, 0, none⟩) ks.length cap) := by
  obtain ⟨⟨cap, a1, _⟩, _⟩ := h
  exact ⟨cap, cell_of a1 0 rfl⟩

theorem RamAt.row (h : RamAt w r fb g ks L) {k : Nat} (hk : k < ks.length) : w.cell? ⟨fb, k, none⟩ = some (.slice (some ⟨g, 64 * ks.getD k 0, none⟩) 64 64) := by
  obtain ⟨_, ⟨cs, b1, b2⟩, _⟩ := h
  exact cell_of b1 k (b2 k hk)

theorem RamAt.cell (h : RamAt w r fb g ks L) {j : Nat} (hj : j < L.length) : w.cell? ⟨g, j, none⟩ = some (.int .u8 (L.getD j 0)) :=
  cell_of h.data j (by simp [u8s, List.getElem?_eq_getElem hj, List.getD])

theorem RamAt.frozen (h : RamAt w r fb g ks L) (j : Nat) : w.frozen? ⟨g, j, none⟩ = false := frozen_of h.data j

theorem RamAt.byte (h : RamAt w r fb g ks L) {j : Nat} (hj : j < L.length) : 0 ≤ L.getD j 0 ∧ L.getD j 0 < 256 :=
  h.bytes _ (by simp [List.getD, List.getElem?_eq_getElem hj])

theorem RamAt.pl_lt (h : RamAt w r fb g ks L) {a : Nat} (ha : a < 64 * ks.length) : 64 * ks.getD (a / 64) 0 + 64 ≤ L.length ∧ pl ks a < L.length := by
  have := h.fits (a / 64) (by omega)
  unfold pl
  omega
end

/-- A receiver with so many frames: one that is not there, or that no call made, has none. -/
def Sz (w : World) (v : Value) (n : Nat) : Prop :=
  (v = .pointer none ∧ n = 0) ∨ ∃ r a c, v = .pointer (some ⟨r, 0, none⟩) ∧ w.cell? ⟨r, 0, none⟩ = some (.slice a n c) ∧ n ≤ 512

theorem ret_bool {p q : Bool} (h : p = q) : Ending.returned (.bool p) = .returned (.bool q) := by rw [h]

theorem RamAt.sz {w : World} {r fb g : Nat} {ks : List Nat} {L : List Int} (h : RamAt w r fb g ks L) : Sz w (.pointer (some ⟨r, 0, none⟩)) ks.length := by
  obtain ⟨cap, hc⟩ := h.hcell
  exact .inr ⟨r, _, cap, rfl, hc, h.size.2⟩

theorem Sz.le {w : World} {v : Value} {n : Nat} (h : Sz w v n) : n ≤ 512 := by
  rcases h with ⟨_, rfl⟩ | ⟨_, _, _, _, _, h⟩
  · omega
  · exact h

set_option maxHeartbeats 400000 in
theorem rsize_any {w : World} {v : Value} {n : Nat} (h : Sz w v n) :
    Calls Try.prog 50 #[v] w fun e w' => e = .returned (.int .u32 (64 * (n : Int))) ∧ w = w' := by
  rcases h with ⟨rfl, rfl⟩ | ⟨r, a, c, rfl, hc, hn⟩
  · go_enter Try.func50, Try.ntmps50
    go_wp2
    go_ret
    exact ⟨rfl, rfl⟩
  · have he : (n : Int) * 64 = 64 * (n : Int) := by omega
    go_enter Try.func50, Try.ntmps50
    go_wp2
    go_ret
    exact ⟨rfl, rfl⟩

set_option maxHeartbeats 1000000 in
theorem rwithin_any {w : World} {v : Value} {n : Nat} (h : Sz w v n) (a m al : Nat) (ha : a < 4294967296) (hm : m ≤ 9223372036854775807) (hal : al = 1 ∨ al = 4) :
    Calls Try.prog 78 #[v, .int .u32 a, .int .i64 m, .int .i64 al] w fun e w' => e = .returned (.bool (decide (a % al = 0 ∧ a + m ≤ 64 * n))) ∧ w = w' := by
  have C := Lib.hid (rsize_any h)
  have hn := h.le
  clear h
  have h0 : al ≠ 0 := by omega
  have hr : ((a : Int).tmod (al : Int)) = ((a % al : Nat) : Int) := by rw [Int.tmod_eq_emod_of_nonneg (by omega)]; simp
  have hrl : a % al < 4 := by have := Nat.mod_lt a (show 0 < al by omega); omega
  generalize a % al = q at hr hrl
  by_cases hq : q = 0
  · subst hq
    by_cases h1 : m ≤ 64 * n
    · have h1' : (m : Int) ≤ 64 * (n : Int) := by omega
      clear h1 hrl
      go_enter Try.func78, Try.ntmps78
      go_wp2_with fail
      refine C.out.mono ?_
      rintro e w' ⟨rfl, rfl⟩
      go_wp2_with fail
      refine C.out.mono ?_
      rintro e w' ⟨rfl, rfl⟩
      go_wp2_with fail
      go_ret
      exact ⟨ret_bool (decide_eq_decide.2 (by rw [true_and]; omega)), rfl⟩
    · rw [decide_eq_false (p := 0 = 0 ∧ a + m ≤ 64 * n) (by omega)]
      have h1' : ¬ ((m : Int) ≤ 64 * (n : Int)) := by omega
      clear h1 hrl
      go_enter Try.func78, Try.ntmps78
      go_wp2_with fail
      refine C.out.mono ?_
      rintro e w' ⟨rfl, rfl⟩
      go_wp2_with fail
      go_ret
      exact ⟨rfl, rfl⟩
  · rw [decide_eq_false (p := q = 0 ∧ a + m ≤ 64 * n) (by omega)]
    have hq' : ((q : Int) == 0) = false := by simp [hq]
    clear hq hrl
    go_enter Try.func78, Try.ntmps78
    go_wp2_with fail
    go_ret
    exact ⟨rfl, rfl⟩

theorem size_u8 (w : World) : (Go.sizeOf 5).run Try.prog w = .ok 1 w := by kernel_rfl

set_option maxHeartbeats 400000 in
theorem rat_at {w : World} {r fb g : Nat} {ks : List Nat} {L : List Int} (h : RamAt w r fb g ks L) (a : Nat) (ha : a < 64 * ks.length) :
    Calls Try.prog 79 #[.pointer (some ⟨r, 0, none⟩), .int .u32 a] w fun e w' => e = .returned (.slice (some ⟨g, pl ks a, none⟩) (64 - a % 64) (64 - a % 64)) ∧ w = w' := by
  obtain ⟨cap, hc⟩ := h.hcell
  have hrow := h.row (k := a / 64) (by omega)
  have hs := h.size
  have hd : ((a : Int) / 64) = ((a / 64 : Nat) : Int) := by omega
  have hm : ((a : Int) % 64) = ((a % 64 : Nat) : Int) := by omega
  have hlt : ((a / 64 : Nat) : Int) < (ks.length : Int) := by omega
  have hm4 : a % 64 < 64 := by omega
  have hp : pl ks a = 64 * ks.getD (a / 64) 0 + a % 64 := rfl
  rw [hp]
  clear h hp ha
  generalize ks.getD (a / 64) 0 = f at *
  generalize a / 64 = i at *
  generalize a % 64 = j at *
  have hj : (j : Int) ≤ 64 := by omega
  have hne : ¬ (64 = j) := by omega
  go_enter Try.func79, Try.ntmps79
  go_wp2
  go_ret
  exact ⟨rfl, rfl⟩

/-- The byte at an address. -/
def byteAt (ks : List Nat) (L : List Int) (a : Nat) : Int := if a < 64 * ks.length then L.getD (pl ks a) 0 else 0

end Go.Proofs.Ytpinoejckagjbaa
