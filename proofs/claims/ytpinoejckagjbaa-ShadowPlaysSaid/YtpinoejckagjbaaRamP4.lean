/- The pair, call by call: both lay alike. -/
import Derived.Test.YtpinoejckagjbaaRamP3
import Derived.Test.YtpinoejckagjbaaRef3
namespace Go.Proofs.Ytpinoejckagjbaa
open Go.RowKit Go.Mum

/-- The bytes behind a call that lays M at a, if it may. -/
def laid (n : Nat) (L : List Int) (a : Nat) (M : List Int) (al : Nat) : List Int := if layB n a M.length al = true then splice L a M else L

theorem laid_length {n a al : Nat} {L M : List Int} (hl : L.length = 64 * n) : (laid n L a M al).length = L.length := by
  unfold laid
  split
  · rename_i h
    have := of_decide_eq_true h
    rw [splice_len]
    omega
  · rfl

/-- What a memory's call that lays bytes leaves. -/
def RPost (r fb g n : Nat) (L : List Int) (a : Nat) (M : List Int) (al : Nat) (w : World) (e : Ending) (w' : World) : Prop :=
  e = .returned (.bool (layB n a M.length al)) ∧ RamAt w' r fb g (List.range n) (laid n L a M al) ∧ Keep [g] w w'

theorem rpost_of {r fb g n a al : Nat} {L M : List Int} {w w' : World} {e : Ending} (hl : L.length = 64 * n) (h : LayPost r fb g (List.range n) L a M al w e w') : RPost r fb g n L a M al w e w' := by
  obtain ⟨h1, h2, h3⟩ := h
  rw [List.length_range] at h1 h2
  refine ⟨h1, ?_, h3⟩
  unfold laid
  by_cases hb : layB n a M.length al = true
  · rw [if_pos hb] at h2 ⊢
    have := of_decide_eq_true hb
    rw [putAt_range n M L a this.2 hl] at h2
    exact h2
  · rw [if_neg hb] at h2 ⊢
    exact h2

section
variable {w : World} {r fb g q n : Nat} {L : List Int}

theorem bsetword_r (h : Both w r fb g q n L) (a : Nat) (ha : a < 4294967296) (z : Nat) (hz : z < 4294967296) :
    Calls Try.prog 82 #[.pointer (some ⟨r, 0, none⟩), .int .u32 a, .int .u32 z] w (RPost r fb g n L a (le4 z) 4 w) :=
  (rsetword_any h.ram a ha z hz).mono fun _ _ => rpost_of h.len

theorem bfill_r (h : Both w r fb g q n L) (a : Nat) (ha : a < 4294967296) {src : Option Addr} {c : Nat} {M : List Int} (hM : Row w src c M) (hsrc : M = [] ∨ ∀ b, src = some b → b.block ≠ g) (hl : M.length ≤ 9223372036854775807) :
    Calls Try.prog 44 #[.pointer (some ⟨r, 0, none⟩), .int .u32 a, .slice src M.length c] w (RPost r fb g n L a M 1 w) :=
  (rfill_all h.ram a ha hM hsrc hl).mono fun _ _ => rpost_of h.len

/-- The document's memory alone: as much as a call needs of it. -/
structure RefN (w : World) (q n : Nat) (L : List Int) : Prop where
  ref : RefAt w (some ⟨q, 0, none⟩) L
  len : L.length = 64 * n

theorem Both.refN (h : Both w r fb g q n L) : RefN w q n L := ⟨h.ref, h.len⟩

/-- What the document's call leaves. -/
def DPost (q n : Nat) (L : List Int) (a : Nat) (M : List Int) (al : Nat) (w : World) (e : Ending) (w' : World) : Prop :=
  e = .returned (.bool (layB n a M.length al)) ∧ RefAt w' (some ⟨q, 0, none⟩) (laid n L a M al) ∧ Keep [q] w w'

theorem dpost_yes {a al : Nat} {M : List Int} {w' : World} {e : Ending} (hy : layB n a M.length al = true) (h : FPost (some ⟨q, 0, none⟩) (splice L a M) true w e w') : DPost q n L a M al w e w' := by
  obtain ⟨h1, h2, l, h3, h4⟩ := h
  refine ⟨by rw [hy]; exact h1, by unfold laid; rw [if_pos hy]; exact h2, h4.weaken fun k hk _ => ?_⟩
  obtain ⟨_, e⟩ := h3 k hk
  cases e
  simp

theorem dpost_no {a al : Nat} {M : List Int} {w' : World} {e : Ending} (hy : layB n a M.length al = false) (h : FPost (some ⟨q, 0, none⟩) L false w e w') : DPost q n L a M al w e w' := by
  obtain ⟨h1, h2, l, h3, h4⟩ := h
  refine ⟨by rw [hy]; exact h1, by unfold laid; rw [if_neg (by rw [hy]; simp)]; exact h2, h4.weaken fun k hk _ => ?_⟩
  obtain ⟨_, e⟩ := h3 k hk
  cases e
  simp

theorem splice_one (L : List Int) (a : Nat) (z : Int) (h : a < L.length) : splice L a [z] = L.set a z := by
  rw [← splice_cons L a z [] h, splice_nil]

end
end Go.Proofs.Ytpinoejckagjbaa
