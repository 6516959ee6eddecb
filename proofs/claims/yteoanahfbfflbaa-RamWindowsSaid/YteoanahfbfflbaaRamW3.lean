/- A memory, a window of it, and the document's memory: bytes laid in one of both. -/
import Derived.Test.YteoanahfbfflbaaRamW2
import Derived.Test.YteoanahfbfflbaaRamP5
import Derived.Test.YteoanahfbfflbaaFits2
namespace Go.Proofs.Yteoanahfbfflbaa
open Go.RowKit Go.Mum

/-- A memory, the document's, and a window. -/
structure Pair2 (x : World) (r fb g q r2 fb2 n : Nat) (KS : List Nat) (L : List Int) : Prop where
  both : Both x r fb g q n L
  win : RamAt x r2 fb2 g KS L
  ne : q ≠ r2 ∧ q ≠ fb2

/-- The memory and its window were written, the document's not yet. -/
structure Mid2 (x : World) (r fb g q r2 fb2 n : Nat) (KS : List Nat) (L L1 : List Int) : Prop where
  ram : RamAt x r fb g (List.range n) L1
  win : RamAt x r2 fb2 g KS L1
  ref : RefN x q n L
  ne : (q ≠ r2 ∧ q ≠ fb2) ∧ q ≠ r ∧ q ≠ fb ∧ q ≠ g
  n1 : 1 ≤ n ∧ n ≤ 16

def Mid2Post (r fb g q r2 fb2 n : Nat) (KS : List Nat) (L L1 : List Int) (w : World) (e : Ending) (w' : World) : Prop :=
  e = .returned (.bool true) ∧ Mid2 w' r fb g q r2 fb2 n KS L L1 ∧ Keep [g] w w'
def Pair2Post (r fb g q r2 fb2 n : Nat) (KS : List Nat) (L1 : List Int) (w : World) (e : Ending) (w' : World) : Prop :=
  e = .returned (.bool true) ∧ Pair2 w' r fb g q r2 fb2 n KS L1 ∧ Keep [q] w w'

section
variable {x y : World} {r fb g q r2 fb2 n : Nat} {KS : List Nat} {L L1 : List Int}

theorem Pair2.keep0 (h : Pair2 x r fb g q r2 fb2 n KS L) (hk : Keep [] x y) : Pair2 y r fb g q r2 fb2 n KS L := ⟨h.both.keep0 hk, h.win.keep0 hk, h.ne⟩

theorem Pair2.mid (h : Pair2 x r fb g q r2 fb2 n KS L) (hk : Keep [g] x y) (hd : y.heap[g]? = some (.cells (u8s L1).toArray 5 (0, 0))) (hl : L1.length = L.length) (hb : IsBytes L1) : Mid2 y r fb g q r2 fb2 n KS L L1 :=
  ⟨h.both.ram.put hk hd hl hb, h.win.put hk hd hl hb, ⟨h.both.ref.keep hk (by have := h.both.qs; simp; omega), h.both.len⟩, ⟨h.ne, h.both.qs⟩, h.both.n1⟩

theorem Pair2.setv (h : Pair2 x r fb g q r2 fb2 n KS L) (a : Nat) (ha : a < 64 * KS.length) (z : Int) (hz : 0 ≤ z ∧ z < 256) :
    Calls Try.prog 23 #[.pointer (some ⟨r2, 0, none⟩), .int .u32 a, .int .u8 z] x (Mid2Post r fb g q r2 fb2 n KS L (L.set (pl KS a) z) x) := by
  have hs := h.win.size
  refine (rsetbyte_any h.win a (by omega) z hz).mono ?_
  rintro e w' ⟨h1, h2, h3⟩
  have hy : layB KS.length a [z].length 1 = true := layB_yes (by simp; omega)
  rw [hy] at h1
  rw [if_pos hy] at h2
  exact ⟨h1, h.mid h3 h2.data (by simp) h2.bytes, h3⟩

theorem Pair2.setr (h : Pair2 x r fb g q r2 fb2 n KS L) (a : Nat) (ha : a < 64 * n) (z : Int) (hz : 0 ≤ z ∧ z < 256) :
    Calls Try.prog 23 #[.pointer (some ⟨r, 0, none⟩), .int .u32 a, .int .u8 z] x (Mid2Post r fb g q r2 fb2 n KS L (L.set a z) x) := by
  have hs := h.both.n1
  refine (rsetbyte_any h.both.ram a (by omega) z hz).mono ?_
  rintro e w' ⟨h1, h2, h3⟩
  have hy : layB (List.range n).length a [z].length 1 = true := layB_yes (by simp; omega)
  rw [hy] at h1
  rw [if_pos hy] at h2
  have e2 : putAt (List.range n) L a [z] = L.set a z := by simp only [putAt]; rw [pl_range ha]
  rw [e2] at h2
  exact ⟨h1, h.mid h3 h2.data (by simp) h2.bytes, h3⟩

theorem Mid2.setd (h : Mid2 x r fb g q r2 fb2 n KS L L1) (a : Nat) (ha : a < 64 * n) (z : Int) (hz : 0 ≤ z ∧ z < 256) (hL : L1 = L.set a z) :
    Calls Try.prog 35 #[.agg #[.slice (some ⟨q, 0, none⟩) (64 * n) (64 * n)], .int .u32 a, .int .u8 z] x (Pair2Post r fb g q r2 fb2 n KS L1 x) := by
  have hs := h.n1
  have hl := h.ref.len
  refine (bsetbyte_d h.ref a (by omega) z hz).mono ?_
  rintro e w' ⟨h1, h2, h3⟩
  have hy : layB n a [z].length 1 = true := layB_yes (by simp; omega)
  have e2 : laid n L a [z] 1 = L1 := by unfold laid; rw [if_pos hy, splice_one L a z (by omega), hL]
  rw [hy] at h1
  rw [e2] at h2
  have hl1 : L1.length = 64 * n := by rw [hL, List.length_set]; exact hl
  obtain ⟨q', e3, h4⟩ := h2.some_of (by omega)
  cases e3
  obtain ⟨⟨n1, n2⟩, n3, n4, n5⟩ := h.ne
  exact ⟨h1, ⟨⟨h.ram.keep h3 (by simp; omega) (by simp; omega) (by simp; omega), h2, hl1, ⟨n3, n4, n5⟩, h.n1, h4⟩, h.win.keep h3 (by simp; omega) (by simp; omega) (by simp; omega), ⟨n1, n2⟩⟩, h3⟩
end

theorem quad_of_fits {w : World} {B n : Nat} {c : Array Value} (h : Fits Try.prog w B n 66 c.toList) : ∃ z0 z1 z2 z3 : Nat, c = #[.int .u32 z0, .int .u32 z1, .int .u32 z2, .int .u32 z3] ∧ z0 < 4294967296 ∧ z1 < 4294967296 ∧ z2 < 4294967296 ∧ z3 < 4294967296 := by
  obtain ⟨m, hl, hf⟩ := h.array Try.underlying66
  have hlen : c.toList.length = 4 := hl
  obtain ⟨l⟩ := c
  match l, hlen with
  | [d0, d1, d2, d3], _ =>
    have q1 : Try.prog.cellsOf 26 = 1 := by kernel_rfl
    have f0 := hf 0 (by omega)
    have f1 := hf 1 (by omega)
    have f2 := hf 2 (by omega)
    have f3 := hf 3 (by omega)
    simp only [q1] at f0 f1 f2 f3
    obtain ⟨z0, e0, g0⟩ := f0.int Try.underlying26
    obtain ⟨z1, e1, g1⟩ := f1.int Try.underlying26
    obtain ⟨z2, e2, g2⟩ := f2.int Try.underlying26
    obtain ⟨z3, e3, g3⟩ := f3.int Try.underlying26
    simp at e0 e1 e2 e3
    subst e0 e1 e2 e3
    have h0 := wf_u32 g0
    have h1 := wf_u32 g1
    have h2 := wf_u32 g2
    have h3 := wf_u32 g3
    exact ⟨z0.toNat, z1.toNat, z2.toNat, z3.toNat, by rw [Int.toNat_of_nonneg h0.1, Int.toNat_of_nonneg h1.1, Int.toNat_of_nonneg h2.1, Int.toNat_of_nonneg h3.1], by omega, by omega, by omega, by omega⟩

/-- A list of whole numbers that came in. -/
theorem nums_of_fits {w : World} {B n : Nat} {a : Option Addr} {len cap : Nat} (h : Fits Try.prog w B n 68 [.slice a len cap]) : len ≤ 9223372036854775807 ∧ ∃ z : Nat → Int, Nums w a len z := by
  rcases h.ints Try.underlying68 Try.underlying3 (by kernel_rfl) with rfl | ⟨b, off, rfl, h0, h1, h2, h3, h4, z, hz⟩
  · exact ⟨by omega, fun _ => 0, .inl rfl⟩
  · exact ⟨by unfold maxLen at h2; omega, z, .inr ⟨b, off, rfl, fun i hi => ⟨(hz i hi).1, wf_i64 (hz i hi).2⟩⟩⟩
end Go.Proofs.Yteoanahfbfflbaa
