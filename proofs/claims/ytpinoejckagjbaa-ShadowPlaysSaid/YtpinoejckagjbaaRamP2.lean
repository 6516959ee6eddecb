/- What the statements on memories share: the pair, call by call. -/
import Derived.Test.YtpinoejckagjbaaRamP1
import Derived.Test.YtpinoejckagjbaaRef2
namespace Go.Proofs.Ytpinoejckagjbaa
open Go.RowKit Go.Mum

theorem getD_splice_in {L M : List Int} {p j : Nat} (hj : j < M.length) (h : p + M.length ≤ L.length) : (splice L p M).getD (p + j) 0 = M.getD j 0 := by
  unfold splice
  simp only [List.getD]
  rw [List.getElem?_append_right (by rw [List.length_take]; omega), List.length_take, Nat.min_eq_left (by omega), Nat.add_sub_cancel_left, List.getElem?_append_left hj]

theorem getD_splice_out {L M : List Int} {p j : Nat} (hj : j < p ∨ p + M.length ≤ j) (h : p + M.length ≤ L.length) : (splice L p M).getD j 0 = L.getD j 0 := by
  unfold splice
  simp only [List.getD]
  rcases hj with hj | hj
  · rw [List.getElem?_append_left (by rw [List.length_take]; omega), List.getElem?_take_of_lt hj]
  · rw [List.getElem?_append_right (by rw [List.length_take]; omega), List.length_take, Nat.min_eq_left (by omega), List.getElem?_append_right (by omega), List.getElem?_drop]
    congr 2
    omega

theorem word4_splice {L : List Int} {p z : Nat} (h : p + 4 ≤ L.length) : word4 (splice L p (le4 z)) p = (z : Int) := by
  have e : ∀ j, j < 4 → (splice L p (le4 z)).getD (p + j) 0 = (le4 z).getD j 0 := fun j hj => getD_splice_in (by simpa [le4] using hj) (by simpa [le4] using h)
  have e0 := e 0 (by omega)
  rw [Nat.add_zero] at e0
  unfold word4
  rw [e0, e 1 (by omega), e 2 (by omega), e 3 (by omega)]
  simp [le4]
  omega

/-- In a memory that New made bytes lie side by side. -/
theorem putAt_range (n : Nat) : ∀ (M L : List Int) (a : Nat), a + M.length ≤ 64 * n → L.length = 64 * n → putAt (List.range n) L a M = splice L a M
  | [], L, a, _, _ => by rw [splice_nil]; rfl
  | x :: M, L, a, h, hl => by
    rw [List.length_cons] at h
    rw [putAt, pl_range (by omega), putAt_range n M _ (a + 1) (by omega) (by rw [List.length_set]; exact hl), splice_cons L a x M (by omega)]

end Go.Proofs.Ytpinoejckagjbaa
