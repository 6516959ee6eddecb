/- Where tables lead, as the document says. -/
import Derived.Test.YtnpnedimgfbnhaaWalk1
import Derived.Deep.DeepCutAuto
import Derived.Outline
namespace Go.Proofs.Ytnpnedimgfbnhaa
open Go.RowKit Go.Mum
set_option linter.unusedVariables false

/-- Is a bit there? -/
def hasB (x b : Nat) : Bool := decide (x / b % 2 = 1)

set_option maxHeartbeats 400000 in
theorem has_at (x b : Nat) (hx : x < 4294967296) (hb : 0 < b) (hb2 : b < 4294967296) (w : World) :
    Calls Try.prog 34 #[.int .u32 x, .int .u32 b] w fun e w' => e = .returned (.bool (hasB x b)) ∧ w = w' := by
  have hne : ¬ ((b : Int) = 0) := by omega
  have hq : ((x : Int).tdiv (b : Int)) = ((x / b : Nat) : Int) := by rw [Int.tdiv_eq_ediv_of_nonneg (by omega)]; simp
  have hl : x / b < 4294967296 := Nat.lt_of_le_of_lt (Nat.div_le_self _ _) hx
  unfold hasB
  generalize x / b = y at *
  have hw : IntKind.u32.wrap (y : Int) = (y : Int) := by rw [IntKind.wrap_u32]; omega
  have he : ((y : Int) % 2 == 1) = decide (y % 2 = 1) := by
    rw [Bool.eq_iff_iff]; simp; omega
  go_enter Try.func34, Try.ntmps34
  go_wp2
  go_ret
  exact ⟨rfl, rfl⟩
end Go.Proofs.Ytnpnedimgfbnhaa
