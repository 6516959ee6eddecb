/- The document's marks: New and List; two rows held against each other. -/
import Derived.Test.YtnpnedimgfbnhaaMarks2
namespace Go.Proofs.Ytnpnedimgfbnhaa
open Go.RowKit Go.Mum
set_option maxRecDepth 100000

def RNew (n : Nat) (w : World) (e : Ending) (w' : World) : Prop :=
  ∃ c t, w.heap.size ≤ c ∧ w.heap.size ≤ t ∧ e = .returned (rval c t n) ∧ RMarks w' c t n [] [] ∧ Keep [] w w'

set_option maxHeartbeats 1000000 in
theorem rnew_at (n : Nat) (hn : n ≤ 64) (w : World) : Calls Try.prog 26 #[.int .i64 n] w (RNew n w) := by
  have hmk := fun w => run_make_row' (P := Try.prog) 51 4 (.bool false) 1 Try.underlying51 (by kernel_rfl) rfl .i64 .i64 n (by omega) (by omega) w
  go_enter Try.func26, Try.ntmps26
  go_wp2_with fail
  go_region
  all_goals go_wp2
  · refine bodyPost_ret (v := rval (w.heap.size + 1) (w.heap.size + 1 + 1) n) (by simp [results, rval, Try.results26, go_sem]) rfl ⟨_, _, by omega, by omega, rfl, ⟨?_, ?_, by omega, hn⟩, ((((Keep.refl _ _).alloc _).alloc _).alloc _).drew⟩
    · exact (((arrAt_new _ _ _ _ (by simp)).keep ((Keep.refl [] _).alloc _) (by simp)).keep ((Keep.refl [] _).drew) (by simp)).ext (by simp)
    · exact ((arrAt_new _ _ _ _ (by simp)).keep ((Keep.refl [] _).drew) (by simp)).ext (by simp)
  · refine bodyPost_ret (v := rval (w.heap.size + 1 + 1) (w.heap.size + 1) n) (by simp [results, rval, Try.results26, go_sem]) rfl ⟨_, _, by omega, by omega, rfl, ⟨?_, ?_, by omega, hn⟩, ((((Keep.refl _ _).alloc _).alloc _).alloc _).drew⟩
    · exact ((arrAt_new _ _ _ _ (by simp)).keep ((Keep.refl [] _).drew) (by simp)).ext (by simp)
    · exact (((arrAt_new _ _ _ _ (by simp)).keep ((Keep.refl [] _).alloc _) (by simp)).keep ((Keep.refl [] _).drew) (by simp)).ext (by simp)

/-- The cells of a list of numbers. -/
def Reads (w : World) (a : Option Addr) (l : List Int) : Prop := l = [] ∨ ∃ g, a = some ⟨g, 0, none⟩ ∧ ∀ j (hj : j < l.length), w.cell? ⟨g, j, none⟩ = some (.int .i64 l[j])

theorem ListAt.reads {B : Nat} {w : World} {a : Option Addr} {l : List Int} (h : ListAt B w a l) : Reads w a l := by
  rcases h with h | ⟨g, h1, _, _, h2⟩
  · exact .inl h
  · exact .inr ⟨g, h1, h2⟩

theorem Reads.keep {w x : World} {a : Option Addr} {l : List Int} (h : Reads w a l) (hk : Keep [] w x) : Reads x a l := by
  rcases h with h | ⟨g, h1, h2⟩
  · exact .inl h
  · exact .inr ⟨g, h1, fun j hj => hk.cell (h2 j hj) (by simp)⟩

end Go.Proofs.Ytnpnedimgfbnhaa
