/- The pair, call by call: both read alike. -/
import Derived.Test.YtpinoejckagjbaaRamP5
namespace Go.Proofs.Ytpinoejckagjbaa
open Go.RowKit Go.Mum

/-- The word at an address, 0 where there is none. -/
def wordAt (n : Nat) (L : List Int) (a : Nat) : Int := if layB n a 4 4 = true then word4 L a else 0

section
variable {w : World} {r fb g q n : Nat} {L : List Int}

def RdPost (v : Value) (ok : Bool) (w : World) (e : Ending) (w' : World) : Prop := e = .returned (.tuple #[v, .bool ok]) ∧ Keep [] w w'

theorem bword_r (h : Both w r fb g q n L) (a : Nat) (ha : a < 4294967296) :
    Calls Try.prog 49 #[.pointer (some ⟨r, 0, none⟩), .int .u32 a] w (RdPost (.int .u32 (wordAt n L a)) (layB n a 4 4) w) := by
  unfold wordAt
  by_cases hy : a % 4 = 0 ∧ a < 64 * n
  · have hb : layB n a 4 4 = true := layB_yes (by omega)
    rw [if_pos hb, hb]
    refine (rword_yes h.ram a hy.1 (by rw [List.length_range]; exact hy.2)).mono ?_
    rintro e w' ⟨rfl, m, rfl⟩
    exact ⟨by rw [pl_range hy.2], (Keep.refl _ _).drewN _⟩
  · have hb : layB n a 4 4 = false := layB_no (by omega)
    rw [if_neg (by rw [hb]; simp), hb]
    refine (rword_no h.ram.sz a ha (by rw [List.length_range]; exact hy)).mono ?_
    rintro e w' ⟨rfl, rfl⟩
    exact ⟨rfl, Keep.refl _ _⟩

/-- The bytes of a frame, none where there is none. -/
def frameAt (n : Nat) (L : List Int) (k : Int) : List Int := if 0 ≤ k ∧ k < n then (L.drop (64 * k.toNat)).take 64 else []

theorem bframe_r (h : Both w r fb g q n L) (k : Int) (h1 : -9223372036854775808 ≤ k) (h2 : k ≤ 9223372036854775807) :
    Calls Try.prog 19 #[.pointer (some ⟨r, 0, none⟩), .int .i64 k] w (RowPost (frameAt n L k) w) := by
  unfold frameAt
  by_cases hy : 0 ≤ k ∧ k < n
  · rw [if_pos hy]
    obtain ⟨m, rfl⟩ : ∃ m : Nat, k = m := ⟨k.toNat, by omega⟩
    refine (rframe_yes h.ram m (by rw [List.length_range]; omega)).mono ?_
    intro e w' hp
    rw [frameOf_range L (by omega)] at hp
    rw [Int.toNat_natCast]
    exact rowPost_own hp
  · rw [if_neg hy]
    refine (rframe_no h.ram.sz k h1 h2 (by rw [List.length_range]; omega)).mono ?_
    rintro e w' ⟨rfl, rfl⟩
    exact rowPost_none

end
end Go.Proofs.Ytpinoejckagjbaa
