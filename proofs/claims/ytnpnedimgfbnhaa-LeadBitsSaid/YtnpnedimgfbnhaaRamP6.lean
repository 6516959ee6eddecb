/- The pair, call by call: both read alike. -/
import Derived.Test.YtnpnedimgfbnhaaRamP5
namespace Go.Proofs.Ytnpnedimgfbnhaa
open Go.RowKit Go.Mum

/-- The word at an address, 0 where there is none. -/
def wordAt (n : Nat) (L : List Int) (a : Nat) : Int := if layB n a 4 4 = true then word4 L a else 0

section
variable {w : World} {r fb g q n : Nat} {L : List Int}

def RdPost (v : Value) (ok : Bool) (w : World) (e : Ending) (w' : World) : Prop := e = .returned (.tuple #[v, .bool ok]) ∧ Keep [] w w'

theorem bbyte_d (h : RefN w q n L) (a : Nat) (ha : a < 4294967296) :
    Calls Try.prog 50 #[.agg #[.slice (some ⟨q, 0, none⟩) (64 * n) (64 * n)], .int .u32 a] w (RdPost (.int .u8 (byteAt (List.range n) L a)) (layB n a 1 1) w) := by
  have hl := h.len
  unfold byteAt
  rw [List.length_range]
  by_cases hy : a < 64 * n
  · have C := fbyte_yes h.ref a (by omega)
    rw [hl] at C
    rw [if_pos hy, pl_range hy, layB_yes (by omega)]
    exact C
  · have C := fbyte_no h.ref a (by omega) ha
    rw [hl] at C
    rw [if_neg hy, layB_no (by omega)]
    exact C

theorem bword_r (h : Both w r fb g q n L) (a : Nat) (ha : a < 4294967296) :
    Calls Try.prog 37 #[.pointer (some ⟨r, 0, none⟩), .int .u32 a] w (RdPost (.int .u32 (wordAt n L a)) (layB n a 4 4) w) := by
  unfold wordAt
  by_cases hy : a % 4 = 0 ∧ a < 64 * n
  · have hb : layB n a 4 4 = true := layB_yes (by omega)
    rw [if_pos hb, hb]
    refine (rword_yes h.ram a hy.1 (by rw [List.length_range]; exact hy.2)).mono ?_
    rintro e w' ⟨rfl, m, rfl⟩
    exact ⟨by rw [pl_range hy.2], (Keep.refl _ _).drewN _⟩
  · have hb : layB n a 4 4 = false := layB_no (by omega)
    rw [if_neg (by rw [hb]; simp), hb]
    refine (rword_no h.ram.sz a ha (by rw [List.length_range]; exact hy)).mono ?_
    rintro e w' ⟨rfl, rfl⟩
    exact ⟨rfl, Keep.refl _ _⟩

theorem bword_d (h : RefN w q n L) (a : Nat) (ha : a < 4294967296) :
    Calls Try.prog 52 #[.agg #[.slice (some ⟨q, 0, none⟩) (64 * n) (64 * n)], .int .u32 a] w (RdPost (.int .u32 (wordAt n L a)) (layB n a 4 4) w) := by
  have hl := h.len
  unfold wordAt
  by_cases hy : a % 4 = 0 ∧ a < 64 * n
  · have hb : layB n a 4 4 = true := layB_yes (by omega)
    rw [if_pos hb, hb]
    have C := fword_yes h.ref a hy.1 (by omega) (by omega)
    rw [hl] at C
    exact C
  · have hb : layB n a 4 4 = false := layB_no (by omega)
    rw [if_neg (by rw [hb]; simp), hb]
    have C := fword_no h.ref a ha (by omega)
    rw [hl] at C
    exact C

/-- The bytes of a frame, none where there is none. -/
def frameAt (n : Nat) (L : List Int) (k : Int) : List Int := if 0 ≤ k ∧ k < n then (L.drop (64 * k.toNat)).take 64 else []

end
end Go.Proofs.Ytnpnedimgfbnhaa
