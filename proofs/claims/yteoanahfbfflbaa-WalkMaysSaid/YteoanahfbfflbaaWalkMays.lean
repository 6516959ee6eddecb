/- The law WalkMays, walked. -/
import Derived.Test.YteoanahfbfflbaaWalk9
import Derived.Test.YteoanahfbfflbaaWalk5
namespace Go.Proofs.Yteoanahfbfflbaa
open Go.RowKit Go.Mum
set_option linter.unusedVariables false

set_option maxRecDepth 100000 in
set_option maxHeartbeats 4000000 in
theorem WalkMays_walk (a0 : Int) (a1 : Int) (a2 : Bool) (w : World) (w0 : (Lit.int .u32 a0).wf = true) (w1 : (Lit.int .i64 a1).wf = true) :
    Calls Try.prog 13 #[.int .u32 a0, .int .i64 a1, .bool a2] w fun e w' => e = .returned (.bool true) ∧ Below w.heap.size w w' := by
  have b0 := wf_u32 w0
  have b1 := wf_i64 w1
  obtain ⟨b, rfl⟩ : ∃ b : Nat, a0 = b := ⟨a0.toNat, by omega⟩
  have H1 := may_at b (by omega) a1 a2 b1.1 b1.2 w
  have H2 := rmay_at b (by omega) a1 a2 b1.1 b1.2 w
  generalize mayB b a1 a2 = ok at H1 H2
  have H1 := Lib.hid H1
  have H2 := Lib.hid H2
  have HW := Lib.hid (works_at w)
  clear w0 w1 b0 b1
  go_enter Try.func13, Try.ntmps13
  go_wp2_with fail
  refine H1.out.mono ?_
  rintro e y ⟨rfl, rfl⟩
  go_wp2_with fail
  refine H2.out.mono ?_
  rintro e y ⟨rfl, rfl⟩
  go_wp2_with fail
  refine HW.out.mono ?_
  rintro e y ⟨rfl, hK⟩
  have hF := Lib.hid (Keep.below hK (Nat.le_refl _) (by simp))
  clear hK
  go_wp2_with fail
  go_ret
  exact ⟨rfl, hF.out⟩
end Go.Proofs.Yteoanahfbfflbaa
