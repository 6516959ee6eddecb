/- The law WalkLess, walked. -/
import Derived.Test.YteoanahfbfflbaaWalk9
import Derived.Test.YteoanahfbfflbaaWalk5
namespace Go.Proofs.Yteoanahfbfflbaa
open Go.RowKit Go.Mum
set_option linter.unusedVariables false

theorem may_user (b : Nat) (k : Int) (h : mayB b k true = true) : mayB b k false = true := by
  unfold mayB at *
  cases h1 : (b % 2 == 0) <;> cases h2 : (b / 4 % 2 == 0) <;> simp_all
theorem may_read (b : Nat) (h : mayB b 3 false = true) : mayB b 2 false = true := by
  unfold mayB at *
  cases h1 : (b % 2 == 0) <;> cases h2 : (b / 8 % 2 == 0) <;> cases h3 : (b / 2 % 2 == 1) <;> simp_all
theorem may_fetch (b : Nat) (h : mayB b 2 true = true) : mayB b 1 true = true := by
  unfold mayB at *
  cases h1 : (b % 2 == 0) <;> cases h2 : (b / 8 % 2 == 0) <;> cases h3 : (b / 4 % 2 == 0) <;> simp_all

set_option maxRecDepth 100000 in
set_option maxHeartbeats 4000000 in
theorem WalkLess_walk (a0 : Int) (a1 : Int) (w : World) (w0 : (Lit.int .u32 a0).wf = true) (w1 : (Lit.int .i64 a1).wf = true) :
    Calls Try.prog 14 #[.int .u32 a0, .int .i64 a1] w fun e w' => e = .returned (.bool true) ∧ Below w.heap.size w w' := by
  have b0 := wf_u32 w0
  have b1 := wf_i64 w1
  obtain ⟨b, rfl⟩ : ∃ b : Nat, a0 = b := ⟨a0.toNat, by omega⟩
  have H := fun k u h1 h2 => may_at b (by omega) k u h1 h2 w
  have p1 := may_user b a1
  have p2 := may_read b
  have p3 := may_fetch b
  have A1 := H a1 true b1.1 b1.2
  have A2 := H a1 false b1.1 b1.2
  have A3 := H 3 false (by decide) (by decide)
  have A4 := H 2 false (by decide) (by decide)
  have A5 := H 2 true (by decide) (by decide)
  have A6 := H 1 true (by decide) (by decide)
  generalize mayB b a1 true = m1 at p1 A1
  generalize mayB b a1 false = m2 at p1 A2
  generalize mayB b 3 false = m3 at p2 A3
  generalize mayB b 2 false = m4 at p2 A4
  generalize mayB b 2 true = m5 at p3 A5
  generalize mayB b 1 true = m6 at p3 A6
  have HW := Lib.hid (works_at w)
  have A1 := Lib.hid A1
  have A2 := Lib.hid A2
  have A3 := Lib.hid A3
  have A4 := Lib.hid A4
  have A5 := Lib.hid A5
  have A6 := Lib.hid A6
  clear w0 w1 b0 b1 H
  cases m1 with
  | true =>
    obtain rfl := p1 rfl
    clear p1
    cases m3 with
    | true =>
      obtain rfl := p2 rfl
      clear p2
      cases m5 with
      | true =>
        obtain rfl := p3 rfl
        clear p3
        go_enter Try.func14, Try.ntmps14
        go_wp2_with fail
        refine A1.out.mono ?_
        rintro e y ⟨rfl, rfl⟩
        go_wp2_with fail
        refine A2.out.mono ?_
        rintro e y ⟨rfl, rfl⟩
        go_wp2_with fail
        refine A3.out.mono ?_
        rintro e y ⟨rfl, rfl⟩
        go_wp2_with fail
        refine A4.out.mono ?_
        rintro e y ⟨rfl, rfl⟩
        go_wp2_with fail
        refine A5.out.mono ?_
        rintro e y ⟨rfl, rfl⟩
        go_wp2_with fail
        refine A6.out.mono ?_
        rintro e y ⟨rfl, rfl⟩
        go_wp2_with fail
        refine HW.out.mono ?_
        rintro e y ⟨rfl, hK⟩
        have hF := Lib.hid (Keep.below hK (Nat.le_refl _) (by simp))
        clear hK
        go_wp2_with fail
        go_ret
        exact ⟨rfl, hF.out⟩
      | false =>
        clear p3
        go_enter Try.func14, Try.ntmps14
        go_wp2_with fail
        refine A1.out.mono ?_
        rintro e y ⟨rfl, rfl⟩
        go_wp2_with fail
        refine A2.out.mono ?_
        rintro e y ⟨rfl, rfl⟩
        go_wp2_with fail
        refine A3.out.mono ?_
        rintro e y ⟨rfl, rfl⟩
        go_wp2_with fail
        refine A4.out.mono ?_
        rintro e y ⟨rfl, rfl⟩
        go_wp2_with fail
        refine A5.out.mono ?_
        rintro e y ⟨rfl, rfl⟩
        go_wp2_with fail
        refine HW.out.mono ?_
        rintro e y ⟨rfl, hK⟩
        have hF := Lib.hid (Keep.below hK (Nat.le_refl _) (by simp))
        clear hK
        go_wp2_with fail
        go_ret
        exact ⟨rfl, hF.out⟩
    | false =>
      clear p2
      cases m5 with
      | true =>
        obtain rfl := p3 rfl
        clear p3
        go_enter Try.func14, Try.ntmps14
        go_wp2_with fail
        refine A1.out.mono ?_
        rintro e y ⟨rfl, rfl⟩
        go_wp2_with fail
        refine A2.out.mono ?_
        rintro e y ⟨rfl, rfl⟩
        go_wp2_with fail
        refine A3.out.mono ?_
        rintro e y ⟨rfl, rfl⟩
        go_wp2_with fail
        refine A5.out.mono ?_
        rintro e y ⟨rfl, rfl⟩
        go_wp2_with fail
        refine A6.out.mono ?_
        rintro e y ⟨rfl, rfl⟩
        go_wp2_with fail
        refine HW.out.mono ?_
        rintro e y ⟨rfl, hK⟩
        have hF := Lib.hid (Keep.below hK (Nat.le_refl _) (by simp))
        clear hK
        go_wp2_with fail
        go_ret
        exact ⟨rfl, hF.out⟩
      | false =>
        clear p3
        go_enter Try.func14, Try.ntmps14
        go_wp2_with fail
        refine A1.out.mono ?_
        rintro e y ⟨rfl, rfl⟩
        go_wp2_with fail
        refine A2.out.mono ?_
        rintro e y ⟨rfl, rfl⟩
        go_wp2_with fail
        refine A3.out.mono ?_
        rintro e y ⟨rfl, rfl⟩
        go_wp2_with fail
        refine A5.out.mono ?_
        rintro e y ⟨rfl, rfl⟩
        go_wp2_with fail
        refine HW.out.mono ?_
        rintro e y ⟨rfl, hK⟩
        have hF := Lib.hid (Keep.below hK (Nat.le_refl _) (by simp))
        clear hK
        go_wp2_with fail
        go_ret
        exact ⟨rfl, hF.out⟩
  | false =>
    clear p1
    cases m3 with
    | true =>
      obtain rfl := p2 rfl
      clear p2
      cases m5 with
      | true =>
        obtain rfl := p3 rfl
        clear p3
        go_enter Try.func14, Try.ntmps14
        go_wp2_with fail
        refine A1.out.mono ?_
        rintro e y ⟨rfl, rfl⟩
        go_wp2_with fail
        refine A3.out.mono ?_
        rintro e y ⟨rfl, rfl⟩
        go_wp2_with fail
        refine A4.out.mono ?_
        rintro e y ⟨rfl, rfl⟩
        go_wp2_with fail
        refine A5.out.mono ?_
        rintro e y ⟨rfl, rfl⟩
        go_wp2_with fail
        refine A6.out.mono ?_
        rintro e y ⟨rfl, rfl⟩
        go_wp2_with fail
        refine HW.out.mono ?_
        rintro e y ⟨rfl, hK⟩
        have hF := Lib.hid (Keep.below hK (Nat.le_refl _) (by simp))
        clear hK
        go_wp2_with fail
        go_ret
        exact ⟨rfl, hF.out⟩
      | false =>
        clear p3
        go_enter Try.func14, Try.ntmps14
        go_wp2_with fail
        refine A1.out.mono ?_
        rintro e y ⟨rfl, rfl⟩
        go_wp2_with fail
        refine A3.out.mono ?_
        rintro e y ⟨rfl, rfl⟩
        go_wp2_with fail
        refine A4.out.mono ?_
        rintro e y ⟨rfl, rfl⟩
        go_wp2_with fail
        refine A5.out.mono ?_
        rintro e y ⟨rfl, rfl⟩
        go_wp2_with fail
        refine HW.out.mono ?_
        rintro e y ⟨rfl, hK⟩
        have hF := Lib.hid (Keep.below hK (Nat.le_refl _) (by simp))
        clear hK
        go_wp2_with fail
        go_ret
        exact ⟨rfl, hF.out⟩
    | false =>
      clear p2
      cases m5 with
      | true =>
        obtain rfl := p3 rfl
        clear p3
        go_enter Try.func14, Try.ntmps14
        go_wp2_with fail
        refine A1.out.mono ?_
        rintro e y ⟨rfl, rfl⟩
        go_wp2_with fail
        refine A3.out.mono ?_
        rintro e y ⟨rfl, rfl⟩
        go_wp2_with fail
        refine A5.out.mono ?_
        rintro e y ⟨rfl, rfl⟩
        go_wp2_with fail
        refine A6.out.mono ?_
        rintro e y ⟨rfl, rfl⟩
        go_wp2_with fail
        refine HW.out.mono ?_
        rintro e y ⟨rfl, hK⟩
        have hF := Lib.hid (Keep.below hK (Nat.le_refl _) (by simp))
        clear hK
        go_wp2_with fail
        go_ret
        exact ⟨rfl, hF.out⟩
      | false =>
        clear p3
        go_enter Try.func14, Try.ntmps14
        go_wp2_with fail
        refine A1.out.mono ?_
        rintro e y ⟨rfl, rfl⟩
        go_wp2_with fail
        refine A3.out.mono ?_
        rintro e y ⟨rfl, rfl⟩
        go_wp2_with fail
        refine A5.out.mono ?_
        rintro e y ⟨rfl, rfl⟩
        go_wp2_with fail
        refine HW.out.mono ?_
        rintro e y ⟨rfl, hK⟩
        have hF := Lib.hid (Keep.below hK (Nat.le_refl _) (by simp))
        clear hK
        go_wp2_with fail
        go_ret
        exact ⟨rfl, hF.out⟩
end Go.Proofs.Yteoanahfbfflbaa
