/- Contracts of the functions that the law reaches, walked, and the plain laws on them (several texts in one). -/
import Derived.Outline
import Derived.Test.YtnpnedimgfbnhaaM05
import Derived.Test.YtnpnedimgfbnhaaM07

/- May an access be? walked. -/
namespace Go.Proofs.Ytnpnedimgfbnhaa
open Go.RowKit Go.Mum
set_option linter.unusedVariables false

/-- Do bits let an access? -/
def mayB (b : Nat) (k : Int) (u : Bool) : Bool :=
  !(b % 2 == 0 || u && b / 4 % 2 == 0) && (if k = 3 then b / 2 % 2 == 1 && b / 8 % 2 == 0 else if k = 2 then b / 8 % 2 == 0 else k == 1)

theorem and_bit (b i : Nat) (hb : b < 4294967296) (hi : 2 ^ i < 4294967296) : bits .and .u32 (b : Int) ((2 ^ i : Nat) : Int) = ((b / 2 ^ i % 2 * 2 ^ i : Nat) : Int) := by
  rw [and_u32 b _ hb hi, and_pow]

theorem bit0 {b i : Nat} {m : Int} (hb : b < 4294967296) (hm : ((2 ^ i : Nat) : Int) = m) (hi : 2 ^ i < 4294967296) (h : b / 2 ^ i % 2 = 0) : bits .and .u32 (b : Int) m = 0 := by
  rw [← hm, and_bit b i hb hi, h]; simp
theorem bit1 {b i : Nat} {m : Int} (hb : b < 4294967296) (hm : ((2 ^ i : Nat) : Int) = m) (hi : 2 ^ i < 4294967296) (h : ¬ b / 2 ^ i % 2 = 0) : bits .and .u32 (b : Int) m = m := by
  rw [← hm, and_bit b i hb hi, show b / 2 ^ i % 2 = 1 by omega]; simp

theorem has0 {x b : Nat} (h : x / b % 2 = 0) : hasB x b = false := by unfold hasB; rw [decide_eq_false]; omega
theorem has1 {x b : Nat} (h : ¬ x / b % 2 = 0) : hasB x b = true := by unfold hasB; rw [decide_eq_true]; omega

set_option maxRecDepth 100000 in
set_option maxHeartbeats 4000000 in
theorem may_at (b : Nat) (hb : b < 4294967296) (k : Int) (u : Bool) (hk1 : -9223372036854775808 ≤ k) (hk2 : k ≤ 9223372036854775807) (w : World) :
    Calls Try.prog 17 #[.int .u32 b, .int .i64 k, .bool u] w fun e w' => e = .returned (.bool (mayB b k u)) ∧ w = w' := by
  by_cases h1 : b / 1 % 2 = 0
  · have m1 : bits .and .u32 (b : Int) 1 = 0 := bit0 (i := 0) hb rfl (by decide) h1
    have h1v : b % 2 = 0 := by omega
    have HV : Hid (mayB b k u = false) := Lib.hid (by unfold mayB; simp [h1v])
    rw [HV.out]
    clear HV h1 h1v
    go_enter Try.func17, Try.ntmps17
    go_wp2_with fail
    go_ret
    exact ⟨rfl, rfl⟩
  · have m1 : bits .and .u32 (b : Int) 1 = 1 := bit1 (i := 0) hb rfl (by decide) h1
    have h1v : b % 2 = 1 := by omega
    cases u
    · by_cases k3 : k = 3
      · subst k3
        by_cases h2 : b / 2 % 2 = 0
        · have m2 : bits .and .u32 (b : Int) 2 = 0 := bit0 (i := 1) hb rfl (by decide) h2
          have h2v : b / 2 % 2 = 0 := by omega
          have HV : Hid (mayB b 3 false = false) := Lib.hid (by unfold mayB; simp [h1v, h2v])
          rw [HV.out]
          clear HV h1 h1v h2 h2v
          go_enter Try.func17, Try.ntmps17
          go_wp2_with fail
          go_ret
          exact ⟨rfl, rfl⟩
        · have m2 : bits .and .u32 (b : Int) 2 = 2 := bit1 (i := 1) hb rfl (by decide) h2
          have h2v : b / 2 % 2 = 1 := by omega
          by_cases h8 : b / 8 % 2 = 0
          · have m8 : bits .and .u32 (b : Int) 8 = 0 := bit0 (i := 3) hb rfl (by decide) h8
            have h8v : b / 8 % 2 = 0 := by omega
            have HV : Hid (mayB b 3 false = true) := Lib.hid (by unfold mayB; simp [h1v, h2v, h8v])
            rw [HV.out]
            clear HV h1 h1v h2 h2v h8 h8v
            go_enter Try.func17, Try.ntmps17
            go_wp2_with fail
            go_ret
            exact ⟨rfl, rfl⟩
          · have m8 : bits .and .u32 (b : Int) 8 = 8 := bit1 (i := 3) hb rfl (by decide) h8
            have h8v : b / 8 % 2 = 1 := by omega
            have HV : Hid (mayB b 3 false = false) := Lib.hid (by unfold mayB; simp [h1v, h2v, h8v])
            rw [HV.out]
            clear HV h1 h1v h2 h2v h8 h8v
            go_enter Try.func17, Try.ntmps17
            go_wp2_with fail
            go_ret
            exact ⟨rfl, rfl⟩
      · by_cases k2 : k = 2
        · subst k2
          by_cases h8 : b / 8 % 2 = 0
          · have m8 : bits .and .u32 (b : Int) 8 = 0 := bit0 (i := 3) hb rfl (by decide) h8
            have h8v : b / 8 % 2 = 0 := by omega
            have HV : Hid (mayB b 2 false = true) := Lib.hid (by unfold mayB; simp [h1v, h8v])
            rw [HV.out]
            clear HV h1 h1v k3 h8 h8v
            go_enter Try.func17, Try.ntmps17
            go_wp2_with fail
            go_ret
            exact ⟨rfl, rfl⟩
          · have m8 : bits .and .u32 (b : Int) 8 = 8 := bit1 (i := 3) hb rfl (by decide) h8
            have h8v : b / 8 % 2 = 1 := by omega
            have HV : Hid (mayB b 2 false = false) := Lib.hid (by unfold mayB; simp [h1v, h8v])
            rw [HV.out]
            clear HV h1 h1v k3 h8 h8v
            go_enter Try.func17, Try.ntmps17
            go_wp2_with fail
            go_ret
            exact ⟨rfl, rfl⟩
        · by_cases k1 : k = 1
          · subst k1
            have HV : Hid (mayB b 1 false = true) := Lib.hid (by unfold mayB; simp [h1v])
            rw [HV.out]
            clear HV h1 h1v k3 k2
            go_enter Try.func17, Try.ntmps17
            go_wp2_with fail
            go_ret
            exact ⟨rfl, rfl⟩
          · have q3 : (k == 3) = false := beq_eq_false_iff_ne.2 k3
            have q2 : (k == 2) = false := beq_eq_false_iff_ne.2 k2
            have q1 : (k == 1) = false := beq_eq_false_iff_ne.2 k1
            have HV : Hid (mayB b k false = false) := Lib.hid (by unfold mayB; simp [h1v, k1, k2, k3])
            rw [HV.out]
            clear HV h1 h1v k3 k2 k1
            go_enter Try.func17, Try.ntmps17
            go_wp2_with fail
            go_ret
            exact ⟨rfl, rfl⟩
    · by_cases h4 : b / 4 % 2 = 0
      · have m4 : bits .and .u32 (b : Int) 4 = 0 := bit0 (i := 2) hb rfl (by decide) h4
        have h4v : b / 4 % 2 = 0 := by omega
        have HV : Hid (mayB b k true = false) := Lib.hid (by unfold mayB; simp [h1v, h4v])
        rw [HV.out]
        clear HV h1 h1v h4 h4v
        go_enter Try.func17, Try.ntmps17
        go_wp2_with fail
        go_ret
        exact ⟨rfl, rfl⟩
      · have m4 : bits .and .u32 (b : Int) 4 = 4 := bit1 (i := 2) hb rfl (by decide) h4
        have h4v : b / 4 % 2 = 1 := by omega
        by_cases k3 : k = 3
        · subst k3
          by_cases h2 : b / 2 % 2 = 0
          · have m2 : bits .and .u32 (b : Int) 2 = 0 := bit0 (i := 1) hb rfl (by decide) h2
            have h2v : b / 2 % 2 = 0 := by omega
            have HV : Hid (mayB b 3 true = false) := Lib.hid (by unfold mayB; simp [h1v, h4v, h2v])
            rw [HV.out]
            clear HV h1 h1v h4 h4v h2 h2v
            go_enter Try.func17, Try.ntmps17
            go_wp2_with fail
            go_ret
            exact ⟨rfl, rfl⟩
          · have m2 : bits .and .u32 (b : Int) 2 = 2 := bit1 (i := 1) hb rfl (by decide) h2
            have h2v : b / 2 % 2 = 1 := by omega
            by_cases h8 : b / 8 % 2 = 0
            · have m8 : bits .and .u32 (b : Int) 8 = 0 := bit0 (i := 3) hb rfl (by decide) h8
              have h8v : b / 8 % 2 = 0 := by omega
              have HV : Hid (mayB b 3 true = true) := Lib.hid (by unfold mayB; simp [h1v, h4v, h2v, h8v])
              rw [HV.out]
              clear HV h1 h1v h4 h4v h2 h2v h8 h8v
              go_enter Try.func17, Try.ntmps17
              go_wp2_with fail
              go_ret
              exact ⟨rfl, rfl⟩
            · have m8 : bits .and .u32 (b : Int) 8 = 8 := bit1 (i := 3) hb rfl (by decide) h8
              have h8v : b / 8 % 2 = 1 := by omega
              have HV : Hid (mayB b 3 true = false) := Lib.hid (by unfold mayB; simp [h1v, h4v, h2v, h8v])
              rw [HV.out]
              clear HV h1 h1v h4 h4v h2 h2v h8 h8v
              go_enter Try.func17, Try.ntmps17
              go_wp2_with fail
              go_ret
              exact ⟨rfl, rfl⟩
        · by_cases k2 : k = 2
          · subst k2
            by_cases h8 : b / 8 % 2 = 0
            · have m8 : bits .and .u32 (b : Int) 8 = 0 := bit0 (i := 3) hb rfl (by decide) h8
              have h8v : b / 8 % 2 = 0 := by omega
              have HV : Hid (mayB b 2 true = true) := Lib.hid (by unfold mayB; simp [h1v, h4v, h8v])
              rw [HV.out]
              clear HV h1 h1v h4 h4v k3 h8 h8v
              go_enter Try.func17, Try.ntmps17
              go_wp2_with fail
              go_ret
              exact ⟨rfl, rfl⟩
            · have m8 : bits .and .u32 (b : Int) 8 = 8 := bit1 (i := 3) hb rfl (by decide) h8
              have h8v : b / 8 % 2 = 1 := by omega
              have HV : Hid (mayB b 2 true = false) := Lib.hid (by unfold mayB; simp [h1v, h4v, h8v])
              rw [HV.out]
              clear HV h1 h1v h4 h4v k3 h8 h8v
              go_enter Try.func17, Try.ntmps17
              go_wp2_with fail
              go_ret
              exact ⟨rfl, rfl⟩
          · by_cases k1 : k = 1
            · subst k1
              have HV : Hid (mayB b 1 true = true) := Lib.hid (by unfold mayB; simp [h1v, h4v])
              rw [HV.out]
              clear HV h1 h1v h4 h4v k3 k2
              go_enter Try.func17, Try.ntmps17
              go_wp2_with fail
              go_ret
              exact ⟨rfl, rfl⟩
            · have q3 : (k == 3) = false := beq_eq_false_iff_ne.2 k3
              have q2 : (k == 2) = false := beq_eq_false_iff_ne.2 k2
              have q1 : (k == 1) = false := beq_eq_false_iff_ne.2 k1
              have HV : Hid (mayB b k true = false) := Lib.hid (by unfold mayB; simp [h1v, h4v, k1, k2, k3])
              rw [HV.out]
              clear HV h1 h1v h4 h4v k3 k2 k1
              go_enter Try.func17, Try.ntmps17
              go_wp2_with fail
              go_ret
              exact ⟨rfl, rfl⟩

set_option maxRecDepth 100000 in
set_option maxHeartbeats 4000000 in
theorem rmay_at (b : Nat) (hb : b < 4294967296) (k : Int) (u : Bool) (hk1 : -9223372036854775808 ≤ k) (hk2 : k ≤ 9223372036854775807) (w : World) :
    Calls Try.prog 51 #[.int .u32 b, .int .i64 k, .bool u] w fun e w' => e = .returned (.bool (mayB b k u)) ∧ w = w' := by
  by_cases hk : k < 1 ∨ 3 < k
  · have hm : mayB b k u = false := by
      unfold mayB
      have n3 : ¬ k = 3 := by omega
      have n2 : ¬ k = 2 := by omega
      have n1 : ¬ k = 1 := by omega
      simp [n1, n2, n3]
    rw [hm]
    clear hm
    rcases hk with hk | hk
    · go_enter Try.func51, Try.ntmps51
      go_wp2_with fail
      go_ret
      exact ⟨rfl, rfl⟩
    · have hk3 : ¬ (k < 1) := by omega
      go_enter Try.func51, Try.ntmps51
      go_wp2_with fail
      go_ret
      exact ⟨rfl, rfl⟩
  · have hk3 : ¬ (k < 1) := by omega
    have hk4 : ¬ (3 < k) := by omega
    clear hk
    by_cases h1 : b / 1 % 2 = 0
    · have H1 := has_at b 1 hb (by omega) (by omega) w
      rw [has0 h1] at H1
      have H1 := Lib.hid H1
      have h1v : b % 2 = 0 := by omega
      have HV : Hid (mayB b k u = false) := Lib.hid (by unfold mayB; simp [h1v])
      rw [HV.out]
      clear HV h1 h1v
      go_enter Try.func51, Try.ntmps51
      go_wp2_with fail
      refine H1.out.mono ?_
      rintro e z ⟨rfl, rfl⟩
      go_wp2_with fail
      go_ret
      exact ⟨rfl, rfl⟩
    · have H1 := has_at b 1 hb (by omega) (by omega) w
      rw [has1 h1] at H1
      have H1 := Lib.hid H1
      have h1v : b % 2 = 1 := by omega
      cases u
      · by_cases k3 : k = 3
        · subst k3
          by_cases h8 : b / 8 % 2 = 0
          · have H8 := has_at b 8 hb (by omega) (by omega) w
            rw [has0 h8] at H8
            have H8 := Lib.hid H8
            have h8v : b / 8 % 2 = 0 := by omega
            by_cases h2 : b / 2 % 2 = 0
            · have H2 := has_at b 2 hb (by omega) (by omega) w
              rw [has0 h2] at H2
              have H2 := Lib.hid H2
              have h2v : b / 2 % 2 = 0 := by omega
              have HV : Hid (mayB b 3 false = false) := Lib.hid (by unfold mayB; simp [h1v, h8v, h2v])
              rw [HV.out]
              clear HV h1 h1v h8 h8v h2 h2v
              go_enter Try.func51, Try.ntmps51
              go_wp2_with fail
              refine H1.out.mono ?_
              rintro e z ⟨rfl, rfl⟩
              go_wp2_with fail
              refine H8.out.mono ?_
              rintro e z ⟨rfl, rfl⟩
              go_wp2_with fail
              refine H2.out.mono ?_
              rintro e z ⟨rfl, rfl⟩
              go_wp2_with fail
              go_ret
              exact ⟨rfl, rfl⟩
            · have H2 := has_at b 2 hb (by omega) (by omega) w
              rw [has1 h2] at H2
              have H2 := Lib.hid H2
              have h2v : b / 2 % 2 = 1 := by omega
              have HV : Hid (mayB b 3 false = true) := Lib.hid (by unfold mayB; simp [h1v, h8v, h2v])
              rw [HV.out]
              clear HV h1 h1v h8 h8v h2 h2v
              go_enter Try.func51, Try.ntmps51
              go_wp2_with fail
              refine H1.out.mono ?_
              rintro e z ⟨rfl, rfl⟩
              go_wp2_with fail
              refine H8.out.mono ?_
              rintro e z ⟨rfl, rfl⟩
              go_wp2_with fail
              refine H2.out.mono ?_
              rintro e z ⟨rfl, rfl⟩
              go_wp2_with fail
              go_ret
              exact ⟨rfl, rfl⟩
          · have H8 := has_at b 8 hb (by omega) (by omega) w
            rw [has1 h8] at H8
            have H8 := Lib.hid H8
            have h8v : b / 8 % 2 = 1 := by omega
            have HV : Hid (mayB b 3 false = false) := Lib.hid (by unfold mayB; simp [h1v, h8v])
            rw [HV.out]
            clear HV h1 h1v h8 h8v
            go_enter Try.func51, Try.ntmps51
            go_wp2_with fail
            refine H1.out.mono ?_
            rintro e z ⟨rfl, rfl⟩
            go_wp2_with fail
            refine H8.out.mono ?_
            rintro e z ⟨rfl, rfl⟩
            go_wp2_with fail
            go_ret
            exact ⟨rfl, rfl⟩
        · by_cases k2 : k = 2
          · subst k2
            by_cases h8 : b / 8 % 2 = 0
            · have H8 := has_at b 8 hb (by omega) (by omega) w
              rw [has0 h8] at H8
              have H8 := Lib.hid H8
              have h8v : b / 8 % 2 = 0 := by omega
              have HV : Hid (mayB b 2 false = true) := Lib.hid (by unfold mayB; simp [h1v, h8v])
              rw [HV.out]
              clear HV h1 h1v k3 h8 h8v
              go_enter Try.func51, Try.ntmps51
              go_wp2_with fail
              refine H1.out.mono ?_
              rintro e z ⟨rfl, rfl⟩
              go_wp2_with fail
              refine H8.out.mono ?_
              rintro e z ⟨rfl, rfl⟩
              go_wp2_with fail
              go_ret
              exact ⟨rfl, rfl⟩
            · have H8 := has_at b 8 hb (by omega) (by omega) w
              rw [has1 h8] at H8
              have H8 := Lib.hid H8
              have h8v : b / 8 % 2 = 1 := by omega
              have HV : Hid (mayB b 2 false = false) := Lib.hid (by unfold mayB; simp [h1v, h8v])
              rw [HV.out]
              clear HV h1 h1v k3 h8 h8v
              go_enter Try.func51, Try.ntmps51
              go_wp2_with fail
              refine H1.out.mono ?_
              rintro e z ⟨rfl, rfl⟩
              go_wp2_with fail
              refine H8.out.mono ?_
              rintro e z ⟨rfl, rfl⟩
              go_wp2_with fail
              go_ret
              exact ⟨rfl, rfl⟩
          · by_cases k1 : k = 1
            · subst k1
              have HV : Hid (mayB b 1 false = true) := Lib.hid (by unfold mayB; simp [h1v])
              rw [HV.out]
              clear HV h1 h1v k3 k2
              go_enter Try.func51, Try.ntmps51
              go_wp2_with fail
              refine H1.out.mono ?_
              rintro e z ⟨rfl, rfl⟩
              go_wp2_with fail
              go_ret
              exact ⟨rfl, rfl⟩
            · exfalso; omega
      · by_cases h4 : b / 4 % 2 = 0
        · have H4 := has_at b 4 hb (by omega) (by omega) w
          rw [has0 h4] at H4
          have H4 := Lib.hid H4
          have h4v : b / 4 % 2 = 0 := by omega
          have HV : Hid (mayB b k true = false) := Lib.hid (by unfold mayB; simp [h1v, h4v])
          rw [HV.out]
          clear HV h1 h1v h4 h4v
          go_enter Try.func51, Try.ntmps51
          go_wp2_with fail
          refine H1.out.mono ?_
          rintro e z ⟨rfl, rfl⟩
          go_wp2_with fail
          refine H4.out.mono ?_
          rintro e z ⟨rfl, rfl⟩
          go_wp2_with fail
          go_ret
          exact ⟨rfl, rfl⟩
        · have H4 := has_at b 4 hb (by omega) (by omega) w
          rw [has1 h4] at H4
          have H4 := Lib.hid H4
          have h4v : b / 4 % 2 = 1 := by omega
          by_cases k3 : k = 3
          · subst k3
            by_cases h8 : b / 8 % 2 = 0
            · have H8 := has_at b 8 hb (by omega) (by omega) w
              rw [has0 h8] at H8
              have H8 := Lib.hid H8
              have h8v : b / 8 % 2 = 0 := by omega
              by_cases h2 : b / 2 % 2 = 0
              · have H2 := has_at b 2 hb (by omega) (by omega) w
                rw [has0 h2] at H2
                have H2 := Lib.hid H2
                have h2v : b / 2 % 2 = 0 := by omega
                have HV : Hid (mayB b 3 true = false) := Lib.hid (by unfold mayB; simp [h1v, h4v, h8v, h2v])
                rw [HV.out]
                clear HV h1 h1v h4 h4v h8 h8v h2 h2v
                go_enter Try.func51, Try.ntmps51
                go_wp2_with fail
                refine H1.out.mono ?_
                rintro e z ⟨rfl, rfl⟩
                go_wp2_with fail
                refine H4.out.mono ?_
                rintro e z ⟨rfl, rfl⟩
                go_wp2_with fail
                refine H8.out.mono ?_
                rintro e z ⟨rfl, rfl⟩
                go_wp2_with fail
                refine H2.out.mono ?_
                rintro e z ⟨rfl, rfl⟩
                go_wp2_with fail
                go_ret
                exact ⟨rfl, rfl⟩
              · have H2 := has_at b 2 hb (by omega) (by omega) w
                rw [has1 h2] at H2
                have H2 := Lib.hid H2
                have h2v : b / 2 % 2 = 1 := by omega
                have HV : Hid (mayB b 3 true = true) := Lib.hid (by unfold mayB; simp [h1v, h4v, h8v, h2v])
                rw [HV.out]
                clear HV h1 h1v h4 h4v h8 h8v h2 h2v
                go_enter Try.func51, Try.ntmps51
                go_wp2_with fail
                refine H1.out.mono ?_
                rintro e z ⟨rfl, rfl⟩
                go_wp2_with fail
                refine H4.out.mono ?_
                rintro e z ⟨rfl, rfl⟩
                go_wp2_with fail
                refine H8.out.mono ?_
                rintro e z ⟨rfl, rfl⟩
                go_wp2_with fail
                refine H2.out.mono ?_
                rintro e z ⟨rfl, rfl⟩
                go_wp2_with fail
                go_ret
                exact ⟨rfl, rfl⟩
            · have H8 := has_at b 8 hb (by omega) (by omega) w
              rw [has1 h8] at H8
              have H8 := Lib.hid H8
              have h8v : b / 8 % 2 = 1 := by omega
              have HV : Hid (mayB b 3 true = false) := Lib.hid (by unfold mayB; simp [h1v, h4v, h8v])
              rw [HV.out]
              clear HV h1 h1v h4 h4v h8 h8v
              go_enter Try.func51, Try.ntmps51
              go_wp2_with fail
              refine H1.out.mono ?_
              rintro e z ⟨rfl, rfl⟩
              go_wp2_with fail
              refine H4.out.mono ?_
              rintro e z ⟨rfl, rfl⟩
              go_wp2_with fail
              refine H8.out.mono ?_
              rintro e z ⟨rfl, rfl⟩
              go_wp2_with fail
              go_ret
              exact ⟨rfl, rfl⟩
          · by_cases k2 : k = 2
            · subst k2
              by_cases h8 : b / 8 % 2 = 0
              · have H8 := has_at b 8 hb (by omega) (by omega) w
                rw [has0 h8] at H8
                have H8 := Lib.hid H8
                have h8v : b / 8 % 2 = 0 := by omega
                have HV : Hid (mayB b 2 true = true) := Lib.hid (by unfold mayB; simp [h1v, h4v, h8v])
                rw [HV.out]
                clear HV h1 h1v h4 h4v k3 h8 h8v
                go_enter Try.func51, Try.ntmps51
                go_wp2_with fail
                refine H1.out.mono ?_
                rintro e z ⟨rfl, rfl⟩
                go_wp2_with fail
                refine H4.out.mono ?_
                rintro e z ⟨rfl, rfl⟩
                go_wp2_with fail
                refine H8.out.mono ?_
                rintro e z ⟨rfl, rfl⟩
                go_wp2_with fail
                go_ret
                exact ⟨rfl, rfl⟩
              · have H8 := has_at b 8 hb (by omega) (by omega) w
                rw [has1 h8] at H8
                have H8 := Lib.hid H8
                have h8v : b / 8 % 2 = 1 := by omega
                have HV : Hid (mayB b 2 true = false) := Lib.hid (by unfold mayB; simp [h1v, h4v, h8v])
                rw [HV.out]
                clear HV h1 h1v h4 h4v k3 h8 h8v
                go_enter Try.func51, Try.ntmps51
                go_wp2_with fail
                refine H1.out.mono ?_
                rintro e z ⟨rfl, rfl⟩
                go_wp2_with fail
                refine H4.out.mono ?_
                rintro e z ⟨rfl, rfl⟩
                go_wp2_with fail
                refine H8.out.mono ?_
                rintro e z ⟨rfl, rfl⟩
                go_wp2_with fail
                go_ret
                exact ⟨rfl, rfl⟩
            · by_cases k1 : k = 1
              · subst k1
                have HV : Hid (mayB b 1 true = true) := Lib.hid (by unfold mayB; simp [h1v, h4v])
                rw [HV.out]
                clear HV h1 h1v h4 h4v k3 k2
                go_enter Try.func51, Try.ntmps51
                go_wp2_with fail
                refine H1.out.mono ?_
                rintro e z ⟨rfl, rfl⟩
                go_wp2_with fail
                refine H4.out.mono ?_
                rintro e z ⟨rfl, rfl⟩
                go_wp2_with fail
                go_ret
                exact ⟨rfl, rfl⟩
              · exfalso; omega
end Go.Proofs.Ytnpnedimgfbnhaa

/- Where accesses lead; entries soiled. -/
namespace Go.Proofs.Ytnpnedimgfbnhaa
open Go.RowKit Go.Mum
set_option linter.unusedVariables false

/-- Where an access leads. -/
def toF (rd : Nat → Option Nat) (n root dirs ps va : Nat) (kind : Int) : Nat × Bool :=
  if ps / 4 % 2 = 0 then if 64 * n ≤ va ∨ kind < 1 ∨ 3 < kind then (0, false) else (va, true)
  else match lookF rd n root dirs va with
    | none => (0, false)
    | some (b, a, _, _, _, _) => if mayB b kind (ps % 2 == 1) = true then (a, true) else (0, false)

def ToPost (q : Nat × Bool) (w : World) (e : Ending) (w' : World) : Prop := e = .returned (.tuple #[.int .u32 q.1, .bool q.2]) ∧ Keep [] w w'

theorem lookF_lt {rd : Nat → Option Nat} {n root dirs va : Nat} {b a e d t p : Nat} (hlt : ∀ a z, rd a = some z → z < 4294967296) (h : lookF rd n root dirs va = some (b, a, e, d, t, p)) : b < 32 ∧ a < 4294967296 ∧ e < 4294967296 := by
  unfold lookF at h
  split at h
  · cases h
  · split at h
    · cases h
    · rename_i x hx
      split at h
      · cases h
      · split at h
        · cases h
        · rename_i y hy
          split at h
          · cases h
          · split at h
            · cases h
            · simp only [Option.some.injEq, Prod.mk.injEq] at h
              obtain ⟨rfl, rfl, rfl, -⟩ := h
              have h1 := hlt _ _ hx
              have h2 := hlt _ _ hy
              refine ⟨refBits_lt _ _, ?_, ?_⟩
              · unfold endAt; omega
              · unfold tabAt; omega

set_option maxRecDepth 100000 in
set_option maxHeartbeats 4000000 in
theorem to_at {w : World} {v : Value} {n : Nat} {rd : Nat → Option Nat} (h : Mem w v n rd) (root dirs ps va : Nat) (kind : Int) (hr : root < 4294967296) (hd : dirs ≤ 64) (hp : ps < 4294967296) (hv : va < 4294967296) (hk1 : -9223372036854775808 ≤ kind) (hk2 : kind ≤ 9223372036854775807) :
    Calls Try.prog 16 #[v, .int .u32 root, .int .i64 dirs, .int .u32 ps, .int .u32 va, .int .i64 kind] w (ToPost (toF rd n root dirs ps va kind) w) := by
  have HM := Lib.hid h
  have hn := h.n512
  clear h
  generalize hq : toF rd n root dirs ps va kind = q
  unfold toF at hq
  by_cases h4 : ps / 4 % 2 = 0
  · rw [if_pos h4] at hq
    have m4 : bits .and .u32 (ps : Int) 4 = 0 := bit0 (i := 2) hp rfl (by decide) h4
    have C := Lib.hid (HM.out.size w (Keep.refl _ _))
    clear h4
    by_cases hbig : 64 * n ≤ va
    · rw [if_pos (.inl hbig)] at hq
      subst hq
      have hb' : 64 * (n : Int) ≤ (va : Int) := by omega
      clear hbig
      go_enter Try.func16, Try.ntmps16
      go_wp2_with fail
      refine C.out.mono ?_
      rintro e z ⟨rfl, rfl⟩
      go_wp2_with fail
      go_ret2
      exact ⟨rfl, Keep.refl _ _⟩
    · have hb' : ¬ (64 * (n : Int) ≤ (va : Int)) := by omega
      by_cases hk : kind < 1
      · rw [if_pos (.inr (.inl hk))] at hq
        subst hq
        clear hbig
        go_enter Try.func16, Try.ntmps16
        go_wp2_with fail
        refine C.out.mono ?_
        rintro e z ⟨rfl, rfl⟩
        go_wp2_with fail
        go_ret2
        exact ⟨rfl, Keep.refl _ _⟩
      · by_cases hk3 : 3 < kind
        · rw [if_pos (.inr (.inr hk3))] at hq
          subst hq
          clear hbig
          go_enter Try.func16, Try.ntmps16
          go_wp2_with fail
          refine C.out.mono ?_
          rintro e z ⟨rfl, rfl⟩
          go_wp2_with fail
          go_ret2
          exact ⟨rfl, Keep.refl _ _⟩
        · rw [if_neg (by omega)] at hq
          subst hq
          clear hbig
          go_enter Try.func16, Try.ntmps16
          go_wp2_with fail
          refine C.out.mono ?_
          rintro e z ⟨rfl, rfl⟩
          go_wp2_with fail
          go_ret2
          exact ⟨rfl, Keep.refl _ _⟩
  · rw [if_neg h4] at hq
    have m4 : bits .and .u32 (ps : Int) 4 = 4 := bit1 (i := 2) hp rfl (by decide) h4
    have C := Lib.hid (look_at HM.out root dirs va hr hd hv)
    have hlt := HM.out.lt
    have HL := Lib.hid (fun b a e d t p (h : lookF rd n root dirs va = some (b, a, e, d, t, p)) => lookF_lt hlt h)
    clear h4 hlt
    generalize lookF rd n root dirs va = l at hq C HL
    cases l with
    | none =>
      simp only at hq
      subst hq
      go_enter Try.func16, Try.ntmps16
      go_wp2_with fail
      refine C.out.mono ?_
      rintro e z ⟨rfl, hK⟩
      have HK := Lib.hid (hK.alloc (.cells #[.int .u32 0, .int .u32 0, .int .u32 0, .int .i64 0, .int .i64 0, .int .i64 0] 34))
      simp only [wayV, Option.isSome_none]
      clear hK
      go_wp2_with fail
      go_ret2
      exact ⟨rfl, HK.out⟩
    | some l =>
      obtain ⟨b, a, e, d, t, p⟩ := l
      obtain ⟨hb, ha, -⟩ := HL.out b a e d t p rfl
      simp only at hq
      have hps : bits .and .u32 (ps : Int) 1 = ((ps % 2 : Nat) : Int) := mask_u32 ps 1 (by decide) 1 rfl hp
      have hu : (((ps % 2 : Nat) : Int) != 0) = (ps % 2 == 1) := by
        rw [Bool.eq_iff_iff]; simp; omega
      have M := Lib.hid (fun (z : World) => may_at b (by omega) kind (ps % 2 == 1) hk1 hk2 z)
      generalize (ps % 2 == 1) = u at hu M hq
      generalize ps % 2 = p2 at hps hu
      generalize mayB b kind u = ok at M hq
      have hqo : q = (if ok = true then (a, true) else (0, false)) := hq.symm
      clear hq HL
      cases ok with
      | true =>
        simp only [if_true] at hqo
        subst hqo
        go_enter Try.func16, Try.ntmps16
        go_wp2_with fail
        refine C.out.mono ?_
        rintro e z ⟨rfl, hK⟩
        have HK := Lib.hid (hK.alloc (.cells #[.int .u32 b, .int .u32 a, .int .u32 e, .int .i64 d, .int .i64 t, .int .i64 p] 34))
        simp only [wayV, Option.isSome_some]
        clear hK
        go_wp2_with fail
        refine (M.out _).mono ?_
        rintro e z2 ⟨rfl, rfl⟩
        go_wp2_with fail
        go_ret2
        exact ⟨rfl, HK.out⟩
      | false =>
        simp only [Bool.false_eq_true, if_false] at hqo
        subst hqo
        go_enter Try.func16, Try.ntmps16
        go_wp2_with fail
        refine C.out.mono ?_
        rintro e z ⟨rfl, hK⟩
        have HK := Lib.hid (hK.alloc (.cells #[.int .u32 b, .int .u32 a, .int .u32 e, .int .i64 d, .int .i64 t, .int .i64 p] 34))
        simp only [wayV, Option.isSome_some]
        clear hK
        go_wp2_with fail
        refine (M.out _).mono ?_
        rintro e z2 ⟨rfl, rfl⟩
        go_wp2_with fail
        go_ret2
        exact ⟨rfl, HK.out⟩
end Go.Proofs.Ytnpnedimgfbnhaa
