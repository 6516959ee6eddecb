/- What the statements on memories share: made, near. -/
import Derived.Test.YteoanahfbfflbaaRef3
import Derived.Test.YteoanahfbfflbaaHeld
import Derived.Outline
namespace Go.Proofs.Yteoanahfbfflbaa
open Go.RowKit Go.Mum

/-- A memory and the document's, with the same bytes. -/
structure Both (w : World) (r fb g q n : Nat) (L : List Int) : Prop where
  ram : RamAt w r fb g (List.range n) L
  ref : RefAt w (some ⟨q, 0, none⟩) L
  len : L.length = 64 * n
  qs : q ≠ r ∧ q ≠ fb ∧ q ≠ g
  n1 : 1 ≤ n ∧ n ≤ 16
  qd : w.heap[q]? = some (.cells (u8s L).toArray 5 (0, 0))

theorem Both.keep {l : List Nat} {w x : World} {r fb g q n : Nat} {L : List Int} (h : Both w r fb g q n L) (hk : Keep l w x) (h1 : r ∉ l) (h2 : fb ∉ l) (h3 : g ∉ l) (h4 : q ∉ l) : Both x r fb g q n L :=
  ⟨h.ram.keep hk h1 h2 h3, h.ref.keep hk (by simpa using h4), h.len, h.qs, h.n1, hk.heap h.qd h4⟩

theorem Both.keep0 {w x : World} {r fb g q n : Nat} {L : List Int} (h : Both w r fb g q n L) (hk : Keep [] w x) : Both x r fb g q n L := h.keep hk (by simp) (by simp) (by simp) (by simp)

theorem Both.lt {w : World} {r fb g q n : Nat} {L : List Int} (h : Both w r fb g q n L) : r < w.heap.size ∧ fb < w.heap.size ∧ g < w.heap.size ∧ q < w.heap.size :=
  ⟨h.ram.lt.1, h.ram.lt.2.1, h.ram.lt.2.2, lt_of_heap h.qd⟩

/-- Only the two blocks of bytes were turned; or the same and new ones. -/
theorem Both.set {w x : World} {r fb g q n : Nat} {L L' : List Int} (h : Both w r fb g q n L) (hl : L'.length = L.length) (hr : RamAt x r fb g (List.range n) L') (hq : x.heap[q]? = some (.cells (u8s L').toArray 5 (0, 0))) : Both x r fb g q n L' :=
  ⟨hr, ⟨.inr ⟨q, rfl, hq⟩, hr.bytes, by rw [hl]; exact h.ref.2.2⟩, by rw [hl]; exact h.len, h.qs, h.n1, hq⟩

/-- The address that a statement asks for. -/
def near (a : Nat) : Nat := if a % 3 = 0 then a else a % 400

theorem near_lt {a : Nat} (h : a < 4294967296) : near a < 4294967296 := by unfold near; split <;> omega

set_option maxHeartbeats 400000 in
theorem near_at (a : Nat) (ha : a < 4294967296) (w : World) :
    Calls Try.prog 22 #[.int .u32 a] w fun e w' => e = .returned (.int .u32 (near a)) ∧ w = w' := by
  unfold near
  by_cases h : a % 3 = 0
  · have hb : ((a : Int) % 3 == 0) = true := by rw [beq_iff_eq]; omega
    rw [if_pos h]
    clear h
    go_enter Try.func22, Try.ntmps22
    go_wp2
    go_ret
    exact ⟨rfl, rfl⟩
  · have hb : ((a : Int) % 3 == 0) = false := by rw [beq_eq_false_iff_ne]; omega
    rw [if_neg h]
    clear h
    go_enter Try.func22, Try.ntmps22
    go_wp2
    go_ret
    exact ⟨by simp, rfl⟩

/-- What made leaves. -/
def MadePost (w : World) (e : Ending) (w' : World) : Prop :=
  ∃ r fb g q n, n ≤ 5 ∧ w.heap.size ≤ r ∧ w.heap.size ≤ fb ∧ w.heap.size ≤ g ∧ w.heap.size ≤ q ∧ e = .returned (.tuple #[.pointer (some ⟨r, 0, none⟩), .agg #[.slice (some ⟨q, 0, none⟩) (64 * n) (64 * n)]]) ∧
    Both w' r fb g q n (List.replicate (64 * n) 0) ∧ Keep [] w w'

set_option maxRecDepth 100000 in
set_option maxHeartbeats 1000000 in
theorem made_at (z : Int) (w : World) :
    Calls Try.prog 21 #[.int .i64 z] w (MadePost w) := by
  obtain ⟨n, hn, hn1, hn5⟩ : ∃ n : Nat, (1 : Int) + wrap64 ((IntKind.u64.wrap z).tmod 5) = (n : Int) ∧ 1 ≤ n ∧ n ≤ 5 := by
    have h0 : 0 ≤ IntKind.u64.wrap z := by rw [IntKind.wrap_u64]; omega
    rw [Int.tmod_eq_emod_of_nonneg h0]
    have h2 := Int.emod_nonneg (IntKind.u64.wrap z) (b := 5) (by omega)
    have h3 := Int.emod_lt_of_pos (IntKind.u64.wrap z) (b := 5) (by omega)
    generalize IntKind.u64.wrap z % 5 = r at h2 h3
    refine ⟨(1 + r).toNat, ?_, by omega, by omega⟩
    unfold wrap64
    omega
  go_enter Try.func21, Try.ntmps21
  go_wp2_with fail
  refine (rnew_good n _ hn1 (by omega)).mono ?_
  rintro e y ⟨r, fb, g, hr, hfb, hg, rfl, hA, hK⟩
  have C := rsize_any hA.sz
  rw [List.length_range] at C
  have C := Lib.hid C
  have hce : IntKind.u32.wrap (64 * (n : Int)) = 64 * (n : Int) := by rw [IntKind.wrap_u32]; omega
  have HY := Lib.hid (And.intro hA (And.intro hK (And.intro hr (And.intro hfb (And.intro hg hn)))))
  have hcell : y.cell? ⟨w.heap.size, 0, none⟩ = some (.slice none 0 0) := hK.cell (cell_of (heap_alloc_same w _) 0 rfl) (by simp)
  clear hA hK hr hfb hg hn
  go_wp2_with fail
  refine C.out.mono ?_
  rintro e y1 ⟨rfl, rfl⟩
  go_wp2_with fail
  refine (fnew_at n _ (by omega)).mono ?_
  rintro e x ⟨rfl, hR, hKx⟩
  have hcx : x.cell? ⟨w.heap.size, 0, none⟩ = some (.slice none 0 0) := hKx.cell hcell (by simp)
  have hbx : x.heap[w.heap.size]? = some (.cells #[.slice none 0 0] 35 (0, 0)) := hKx.heap (HY.out.2.1.heap (heap_alloc_same w _) (by simp)) (by simp)
  have hfx := frozen_of hbx 0
  have HF : Hid (MadePost w (.returned (.tuple #[.pointer (some ⟨r, 0, none⟩), .agg #[.slice (some ⟨y.heap.size + 1, 0, none⟩) (64 * n) (64 * n)]])) (x.setCell ⟨w.heap.size, 0, none⟩ (.slice (some ⟨y.heap.size + 1, 0, none⟩) (64 * n) (64 * n)))) := Lib.hid (by
    obtain ⟨hA, hK, hr, hfb, hg, -⟩ := HY.out
    simp at hr hfb hg
    have hlt := hA.lt
    have hB : Both x r fb g (y.heap.size + 1) n (List.replicate (64 * n) 0) := by
      obtain ⟨q, e, hq⟩ := hR.some_of (by simp; omega)
      cases e
      exact ⟨hA.keep0 hKx, hR, by simp, ⟨by omega, by omega, by omega⟩, ⟨hn1, by omega⟩, hq⟩
    have hsz : w.heap.size + 1 ≤ y.heap.size := by have := hK.size; simpa using this
    refine ⟨r, fb, g, y.heap.size + 1, n, hn5, by omega, by omega, by omega, by omega, rfl, hB.keep ((Keep.refl [w.heap.size] x).setCell (.inl (by simp)) _) (by simp; omega) (by simp; omega) (by simp; omega) (by simp; omega), ?_⟩
    exact (((Keep.refl [] w).alloc _).trans (hK.trans hKx)).setCell (.inr (by simp)) _)
  clear hR hKx hbx
  go_wp2_with fail
  exact bodyPost_ret (v := .tuple #[.pointer (some ⟨r, 0, none⟩), .agg #[.slice (some ⟨y.heap.size + 1, 0, none⟩) (64 * n) (64 * n)]]) (by simp [results, Try.results21, go_sem, World.cell?_setCell_same, hcx]) rfl HF.out
end Go.Proofs.Yteoanahfbfflbaa
