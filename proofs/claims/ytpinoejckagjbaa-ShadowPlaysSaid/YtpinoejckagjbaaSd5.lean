/- Both shadows at the start; a frame's bytes. -/
import Derived.Test.YtpinoejckagjbaaSd4
import Derived.Test.YtpinoejckagjbaaShadowLast
import Derived.Outline
namespace Go.Proofs.Ytpinoejckagjbaa
open Go.RowKit Go.Mum
set_option linter.unusedVariables false
set_option linter.unusedSimpArgs false
set_option maxRecDepth 100000

theorem SAt.ltAll {x : World} {s r fb g p pm most : Nat} {T : Nat → Tab} {L : List Int} {c : Nat} (h : SAt x s r fb g p pm most T L c) : s < x.heap.size ∧ r < x.heap.size ∧ fb < x.heap.size ∧ g < x.heap.size ∧ p < x.heap.size ∧ pm < x.heap.size := by
  obtain ⟨cap, hh, _⟩ := h.ram.head
  obtain ⟨cs, hr, _⟩ := h.ram.rows
  obtain ⟨lent, tk, sh, hp, _⟩ := h.pool
  obtain ⟨h1, es, cl, h2, _⟩ := hp
  exact ⟨ArrAt.lt h.sh, lt_of_heap hh, lt_of_heap hr, lt_of_heap h.ram.data, lt_of_heap h1, lt_of_heap h2⟩

theorem two_start {x : World} {B s r fb g p pm most : Nat} {L : List Int} (h : SAt x s r fb g p pm most (fun _ => tab0) L 0) (hB : B ≤ s ∧ B ≤ g ∧ B ≤ p ∧ B ≤ pm) :
    Two (x.alloc (.cells #[.int .i64 40, .slice none 0 0, .slice none 0 0, .int .i64 most] 46)) B s r fb g p pm x.heap.size most (fun _ => tab0) L [] [] 0 := by
  refine ⟨h.keep0 ((Keep.refl [] x).alloc _), ⟨.slice none 0 0, .slice none 0 0, heap_alloc_same x _, World.ownsRow_nil _ _ _ _, World.ownsRow_nil _ _ _ _⟩, ⟨hB, h.ltAll⟩, by simp, by simp⟩

theorem rest_frame {most : Nat} {T : Nat → Tab} {L : List Int} (h : ShInv most T L) {k : Nat} (hk : k < 40) (h8 : k ≠ 8) (h9 : k ≠ 9) (h20 : ¬ (20 ≤ k ∧ k < 20 + most)) : frameOf (List.range 40) L k = List.replicate 64 165 := by
  have hl := h.len
  have hg : (List.range 40).getD k 0 = k := by
    rw [List.getD_eq_getElem?_getD, List.getElem?_range hk]; rfl
  unfold frameOf
  rw [hg]
  apply List.ext_getElem
  · rw [List.length_take, List.length_drop, List.length_replicate]; omega
  · intro i h1 h2
    rw [List.length_replicate] at h2
    rw [List.getElem_take, List.getElem_drop, List.getElem_replicate]
    have := h.rest (64 * k + i) (by omega) (by omega) (by omega) (by omega)
    rw [List.getD_eq_getElem?_getD, List.getElem?_eq_getElem (by omega)] at this
    exact this
end Go.Proofs.Ytpinoejckagjbaa
