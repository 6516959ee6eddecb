/- The pair, call by call: both read alike. -/
import Derived.Test.YteoanahfbfflbaaRamP5
namespace Go.Proofs.Yteoanahfbfflbaa
open Go.RowKit Go.Mum

/-- The word at an address, 0 where there is none. -/
def wordAt (n : Nat) (L : List Int) (a : Nat) : Int := if layB n a 4 4 = true then word4 L a else 0

section
variable {w : World} {r fb g q n : Nat} {L : List Int}

def RdPost (v : Value) (ok : Bool) (w : World) (e : Ending) (w' : World) : Prop := e = .returned (.tuple #[v, .bool ok]) ∧ Keep [] w w'

theorem bbyte_r (h : Both w r fb g q n L) (a : Nat) (ha : a < 4294967296) :
    Calls Try.prog 19 #[.pointer (some ⟨r, 0, none⟩), .int .u32 a] w (RdPost (.int .u8 (byteAt (List.range n) L a)) (layB n a 1 1) w) := by
  refine (rbyte_any h.ram a ha).mono ?_
  rintro e w' ⟨rfl, rfl⟩
  refine ⟨?_, Keep.refl _ _⟩
  have e : decide (a < 64 * n) = layB n a 1 1 := decide_eq_decide.2 (by omega)
  rw [List.length_range, e]

theorem bbyte_d (h : RefN w q n L) (a : Nat) (ha : a < 4294967296) :
    Calls Try.prog 47 #[.agg #[.slice (some ⟨q, 0, none⟩) (64 * n) (64 * n)], .int .u32 a] w (RdPost (.int .u8 (byteAt (List.range n) L a)) (layB n a 1 1) w) := by
  have hl := h.len
  unfold byteAt
  rw [List.length_range]
  by_cases hy : a < 64 * n
  · have C := fbyte_yes h.ref a (by omega)
    rw [hl] at C
    rw [if_pos hy, pl_range hy, layB_yes (by omega)]
    exact C
  · have C := fbyte_no h.ref a (by omega) ha
    rw [hl] at C
    rw [if_neg hy, layB_no (by omega)]
    exact C

theorem bword_r (h : Both w r fb g q n L) (a : Nat) (ha : a < 4294967296) :
    Calls Try.prog 26 #[.pointer (some ⟨r, 0, none⟩), .int .u32 a] w (RdPost (.int .u32 (wordAt n L a)) (layB n a 4 4) w) := by
  unfold wordAt
  by_cases hy : a % 4 = 0 ∧ a < 64 * n
  · have hb : layB n a 4 4 = true := layB_yes (by omega)
    rw [if_pos hb, hb]
    refine (rword_yes h.ram a hy.1 (by rw [List.length_range]; exact hy.2)).mono ?_
    rintro e w' ⟨rfl, m, rfl⟩
    exact ⟨by rw [pl_range hy.2], (Keep.refl _ _).drewN _⟩
  · have hb : layB n a 4 4 = false := layB_no (by omega)
    rw [if_neg (by rw [hb]; simp), hb]
    refine (rword_no h.ram.sz a ha (by rw [List.length_range]; exact hy)).mono ?_
    rintro e w' ⟨rfl, rfl⟩
    exact ⟨rfl, Keep.refl _ _⟩

theorem bword_d (h : RefN w q n L) (a : Nat) (ha : a < 4294967296) :
    Calls Try.prog 48 #[.agg #[.slice (some ⟨q, 0, none⟩) (64 * n) (64 * n)], .int .u32 a] w (RdPost (.int .u32 (wordAt n L a)) (layB n a 4 4) w) := by
  have hl := h.len
  unfold wordAt
  by_cases hy : a % 4 = 0 ∧ a < 64 * n
  · have hb : layB n a 4 4 = true := layB_yes (by omega)
    rw [if_pos hb, hb]
    have C := fword_yes h.ref a hy.1 (by omega) (by omega)
    rw [hl] at C
    exact C
  · have hb : layB n a 4 4 = false := layB_no (by omega)
    rw [if_neg (by rw [hb]; simp), hb]
    have C := fword_no h.ref a ha (by omega)
    rw [hl] at C
    exact C

/-- The bytes of a frame, none where there is none. -/
def frameAt (n : Nat) (L : List Int) (k : Int) : List Int := if 0 ≤ k ∧ k < n then (L.drop (64 * k.toNat)).take 64 else []

theorem bframe_r (h : Both w r fb g q n L) (k : Int) (h1 : -9223372036854775808 ≤ k) (h2 : k ≤ 9223372036854775807) :
    Calls Try.prog 20 #[.pointer (some ⟨r, 0, none⟩), .int .i64 k] w (RowPost (frameAt n L k) w) := by
  unfold frameAt
  by_cases hy : 0 ≤ k ∧ k < n
  · rw [if_pos hy]
    obtain ⟨m, rfl⟩ : ∃ m : Nat, k = m := ⟨k.toNat, by omega⟩
    refine (rframe_yes h.ram m (by rw [List.length_range]; omega)).mono ?_
    intro e w' hp
    rw [frameOf_range L (by omega)] at hp
    rw [Int.toNat_natCast]
    exact rowPost_own hp
  · rw [if_neg hy]
    refine (rframe_no h.ram.sz k h1 h2 (by rw [List.length_range]; omega)).mono ?_
    rintro e w' ⟨rfl, rfl⟩
    exact rowPost_none

theorem bframe_d (h : RefN w q n L) (k : Int) (h1 : -9223372036854775808 ≤ k) (h2 : k ≤ 9223372036854775807) :
    Calls Try.prog 36 #[.agg #[.slice (some ⟨q, 0, none⟩) (64 * n) (64 * n)], .int .i64 k] w (RowPost (frameAt n L k) w) := by
  have hl := h.len
  unfold frameAt
  by_cases hy : 0 ≤ k ∧ k < n
  · rw [if_pos hy]
    obtain ⟨m, rfl⟩ : ∃ m : Nat, k = m := ⟨k.toNat, by omega⟩
    have C := fframe_yes h.ref m (by omega)
    rw [hl] at C
    rw [Int.toNat_natCast]
    exact C
  · rw [if_neg hy]
    have C := fframe_no h.ref k h1 h2 (by omega)
    rw [hl] at C
    exact C
end
end Go.Proofs.Yteoanahfbfflbaa
