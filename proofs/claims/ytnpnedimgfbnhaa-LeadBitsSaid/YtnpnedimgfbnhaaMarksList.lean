/- The call List of the package marks: the frames that bear a mark, rising. -/
import Derived.Test.YtnpnedimgfbnhaaMarks1
import Derived.Test.YtnpnedimgfbnhaaArr
import Derived.RangeFuncBox
import Derived.RangeFuncLeaves
import Derived.Shelf.Abstract
import Derived.OwnWalkIn
import Derived.TacticsInMore
import Derived.LoopNIn
import Derived.LoopIn
import Derived.Maps.AppendAt
namespace Go.Proofs.Ytnpnedimgfbnhaa
open Go.RowKit Go.Mum Go.Shelf
set_option maxRecDepth 100000

attribute [local go_sem] Oper.semAt_some

/-- Those of the first n frames that are in s. -/
def kept (n : Nat) (s : List Int) : List Int := ((List.range n).map fun j : Nat => (j : Int)).filter (· ∈ s)

theorem kept_succ_in {n : Nat} {s : List Int} (h : (n : Int) ∈ s) : kept (n + 1) s = kept n s ++ [(n : Int)] := by
  simp [kept, List.range_succ, List.filter_append, h]
theorem kept_succ_out {n : Nat} {s : List Int} (h : ¬ (n : Int) ∈ s) : kept (n + 1) s = kept n s := by
  simp [kept, List.range_succ, List.filter_append, h]
theorem kept_le (n : Nat) (s : List Int) : (kept n s).length ≤ n := by
  have := List.length_filter_le (fun x => decide (x ∈ s)) ((List.range n).map fun j : Nat => (j : Int))
  simpa [kept] using this
theorem kept_nil (n : Nat) : kept n [] = [] := by simp [kept]
theorem kept_prefix {k n : Nat} (s : List Int) (h : k ≤ n) : kept k s <+: kept n s := by
  induction n with
  | zero => obtain rfl : k = 0 := by omega
            exact List.prefix_refl _
  | succ n ih =>
    by_cases e : k = n + 1
    · subst e; exact List.prefix_refl _
    · have := ih (by omega)
      by_cases hi : (n : Int) ∈ s
      · rw [kept_succ_in hi]; exact this.trans (List.prefix_append _ _)
      · rw [kept_succ_out hi]; exact this

theorem Holds.below {n₀ : Nat} {w x : World} {v : Option Nat} {s : List Int} (h : Holds w v s) (hv : ∀ m, v = some m → m < n₀) (hb : Below n₀ w x) : Holds x v s := by
  rcases h with h | ⟨m, rfl, h⟩
  · exact .inl h
  · exact .inr ⟨m, rfl, h.same (hb.block m (hv m rfl))⟩

/-- Who may be asked for a list: what the sets hold, and of how many frames. -/
structure Listed (w : World) (v : Value) (k : Int) (N : Nat) (s : List Int) : Prop where
  bound : N ≤ 64
  ex : ∃ v1 v2, Sets w v v1 v2 ∧ Holds w (selM k v1 v2) s ∧ (∀ m, selM k v1 v2 = some m → m < w.heap.size) ∧ (∀ m, selM k v1 v2 = some m → ∃ b, v = .pointer (some ⟨b, 0, none⟩) ∧ w.cell? ⟨b, 0, none⟩ = some (.int .i64 N))

theorem Listed.ptr {w : World} {v : Value} {k : Int} {N : Nat} {s : List Int} (h : Listed w v k N s) : v = .pointer none ∨ ∃ b, v = .pointer (some ⟨b, 0, none⟩) := by
  obtain ⟨v1, v2, h, _⟩ := h.ex
  rcases h with ⟨h, _⟩ | ⟨b, h, _⟩
  · exact .inl h
  · exact .inr ⟨b, h⟩

theorem info_int : (Try.prog.info? 3).map (fun i => (i.zero, i.size, i.bytes)) = some (some (.int .i64 0), 1, 8) := by kernel_rfl

def ListPost (l : List Int) (w : World) (e : Ending) (w' : World) : Prop :=
  ∃ v, e = .returned v ∧ w'.ownsRow w.heap.size 3 1 v l.length (l.map (Value.int .i64)) ∧ Below w.heap.size w w'

end Go.Proofs.Ytnpnedimgfbnhaa
