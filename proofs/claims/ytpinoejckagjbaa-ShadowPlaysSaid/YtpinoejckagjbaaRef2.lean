/- The document's memory: words and bytes laid, frames. -/
import Derived.Test.YtpinoejckagjbaaRef1
import Derived.StillTailTactics
namespace Go.Proofs.Ytpinoejckagjbaa
open Go.RowKit Go.Mum

theorem le4_take {s : Nat} (hs : s < 4294967296) : ∀ k, k < 4 → (le4 s).take (k + 1) = (le4 s).take k ++ [((s / 256 ^ k % 256 : Nat) : Int)]
  | 0, _ => by simp [le4]
  | 1, _ => by simp [le4]
  | 2, _ => by simp [le4]
  | 3, _ => by simp [le4]; omega
  | k + 4, h => by omega

theorem splice_snoc (L : List Int) (p : Nat) (M : List Int) (x : Int) (h : p + M.length < L.length) : (splice L p M).set (p + M.length) x = splice L p (M ++ [x]) := by
  unfold splice
  rw [List.set_append_right _ _ (by rw [List.length_take]; omega), List.length_take, Nat.min_eq_left (by omega), Nat.add_sub_cancel_left, List.set_append_right _ _ (Nat.le_refl _), Nat.sub_self,
    List.drop_eq_getElem_cons h, List.set_cons_zero, List.length_append, List.append_assoc]
  rfl

theorem splice_len (L : List Int) (p : Nat) (M : List Int) (h : p + M.length ≤ L.length) : (splice L p M).length = L.length := length_splice L p M h

theorem refAt_put {w x : World} {q : Nat} {L L' : List Int} (h : RefAt w (some ⟨q, 0, none⟩) L) (hq : x.heap[q]? = some (.cells (u8s L').toArray 5 (0, 0))) (hb : IsBytes L') (hl : L'.length = L.length) : RefAt x (some ⟨q, 0, none⟩) L' :=
  ⟨.inr ⟨q, rfl, hq⟩, hb, by rw [hl]; exact h.2.2⟩

theorem take_snoc {M : List Int} {j : Nat} (h : j < M.length) : M.take (j + 1) = M.take j ++ [M.getD j 0] := by
  rw [List.take_add_one, List.getElem?_eq_getElem h]
  simp [List.getD, List.getElem?_eq_getElem h]

end Go.Proofs.Ytpinoejckagjbaa
