/- A memory copied. -/
import Derived.Test.YtpinoejckagjbaaRam4
import Derived.Outline
namespace Go.Proofs.Ytpinoejckagjbaa
open Go.RowKit Go.Mum

/-- All the bytes, frame behind frame. -/
def view (ks : List Nat) (L : List Int) : List Int := (List.range ks.length).flatMap (frameOf ks L)

theorem flat_length {f : Nat → List Int} {k : Nat} (h : ∀ j, j < k → (f j).length = 64) : ((List.range k).flatMap f).length = 64 * k := by
  induction k with
  | zero => rfl
  | succ k ih =>
    rw [List.range_succ, List.flatMap_append, List.length_append, ih (fun j hj => h j (by omega))]
    simp [h k (by omega)]
    omega

theorem flat_range (L : List Int) (n : Nat) : ∀ k, k ≤ n → (List.range k).flatMap (frameOf (List.range n) L) = L.take (64 * k) := by
  intro k
  induction k with
  | zero => intro _; simp
  | succ k ih =>
    intro hk
    rw [List.range_succ, List.flatMap_append, ih (by omega)]
    have e : frameOf (List.range n) L k = (L.drop (64 * k)).take 64 := by
      unfold frameOf
      simp [List.getD, List.getElem?_range (show k < n by omega)]
    simp only [List.flatMap_cons, List.flatMap_nil, List.append_nil, e]
    rw [show 64 * (k + 1) = 64 * k + 64 by omega, List.take_add]

theorem view_range {L : List Int} {n : Nat} (h : L.length = 64 * n) : view (List.range n) L = L := by
  unfold view
  rw [List.length_range, flat_range L n n (Nat.le_refl _), List.take_of_length_le (by omega)]

theorem pl_range {n a : Nat} (h : a < 64 * n) : pl (List.range n) a = a := by
  unfold pl
  simp [List.getD, List.getElem?_range (show a / 64 < n by omega)]
  omega

/-- What Copy leaves. -/
def CopyPost (n : Nat) (L : List Int) (w : World) (e : Ending) (w' : World) : Prop :=
  ∃ r fb g, w.heap.size ≤ r ∧ w.heap.size ≤ fb ∧ w.heap.size ≤ g ∧ e = .returned (.pointer (some ⟨r, 0, none⟩)) ∧ RamAt w' r fb g (List.range n) L ∧ Keep [] w w'

end Go.Proofs.Ytpinoejckagjbaa
