/- The law WireOnce, walked. -/
import Derived.Test.YtffpccijmgjofaaWireGets
import Derived.Test.YtffpccijmgjofaaHeld
namespace Go.Proofs.Ytffpccijmgjofaa
open Go.RowKit Go.Mum

/-- What was read stands at the head. -/
theorem getL_spec : ∀ (L : List Int) (j acc : Nat), IsBytes L → j ≤ 9 → acc < 128 ^ j →
    ((getL j acc L).2.2 ≠ 0 → (getL j acc L).1 = 0 ∧ (getL j acc L).2.1 = 0) ∧
    ((getL j acc L).2.2 = 0 → j < (getL j acc L).2.1 ∧ (getL j acc L).2.1 ≤ j + L.length ∧ (getL j acc L).2.1 ≤ 10 ∧ (getL j acc L).1 < 2 ^ 64 ∧
      ∃ m, (getL j acc L).1 = acc + 128 ^ j * m ∧ (0 < j → 0 < m) ∧ number m = L.take ((getL j acc L).2.1 - j))
  | [], j, acc, _, _, _ => by simp [getL]
  | x :: r, j, acc, hB, hj, hacc => by
    have hx : 0 ≤ x ∧ x < 256 := hB x (by simp)
    have hr : IsBytes r := fun y hy => hB y (by simp [hy])
    rw [getL]
    by_cases c1 : j = 9 ∧ 1 < x
    · rw [if_pos c1]; simp
    · rw [if_neg c1]
      have hJ := join7 acc j x hx hacc (by omega)
      by_cases c2 : 128 ≤ x
      · rw [if_pos c2]
        obtain ⟨h1, h2⟩ := getL_spec r (j + 1) (acc + x.toNat % 128 * 128 ^ j) hr (by omega) hJ.2
        refine ⟨h1, fun h0 => ?_⟩
        obtain ⟨q1, q2, q3, q4, m, q5, q6, q7⟩ := h2 h0
        have hm := q6 (by omega)
        refine ⟨by omega, by rw [List.length_cons]; omega, q3, q4, x.toNat % 128 + 128 * m, ?_, fun _ => by omega, ?_⟩
        · rw [q5, Nat.pow_succ, Nat.mul_add, Nat.mul_comm (x.toNat % 128), Nat.mul_assoc]; omega
        · rw [number_big (by omega), show (x.toNat % 128 + 128 * m) / 128 = m by omega, q7]
          obtain ⟨d, hd⟩ : ∃ d, (getL (j + 1) (acc + x.toNat % 128 * 128 ^ j) r).2.1 - j = d + 1 := ⟨_, (Nat.succ_pred (by omega)).symm⟩
          rw [hd, List.take_succ_cons, show (getL (j + 1) (acc + x.toNat % 128 * 128 ^ j) r).2.1 - (j + 1) = d by omega]
          congr 1
          omega
      · rw [if_neg c2]
        by_cases c3 : x = 0 ∧ 0 < j
        · rw [if_pos c3]; simp
        · rw [if_neg c3]
          refine ⟨by simp, fun _ => ⟨by simp, by simp, by simp; omega, ?_, x.toNat, ?_, by omega, ?_⟩⟩
          · have h9 : 128 ^ j ≤ 128 ^ 9 := Nat.pow_le_pow_right (by decide) hj
            have : (128 : Nat) ^ 9 = 9223372036854775808 := by decide
            by_cases e9 : j = 9
            · subst e9
              have : x.toNat % 128 * 128 ^ 9 ≤ 1 * 128 ^ 9 := Nat.mul_le_mul_right _ (by omega)
              simp only
              omega
            · have h8 : 128 ^ (j + 1) ≤ 128 ^ 9 := Nat.pow_le_pow_right (by decide) (by omega)
              simp only
              omega
          · simp only
            rw [Nat.mod_eq_of_lt (by omega), Nat.mul_comm]
          · simp only
            rw [number_small (by omega), show j + 1 - j = 1 by omega]
            simp
            omega

set_option maxRecDepth 100000 in
set_option maxHeartbeats 4000000 in
theorem WireOnce_walk (s0 : Option Addr) (len0 cap0 n0 : Nat) (w : World) (w0 : Fits Try.prog w maxLen n0 22 [.slice s0 len0 cap0]) :
    Calls Try.prog 5 #[.slice s0 len0 cap0] w fun e w' => e = .returned (.bool true) ∧ Below w.heap.size w w' := by
  obtain ⟨L, rfl, hR, -⟩ := row_of_fits w0
  clear w0
  have hm : L.length ≤ 9223372036854775807 := by have := hR.cap; unfold maxLen at this; omega
  have hS := getL_spec L 0 0 hR.bytes (by omega) (by decide)
  have HR := Lib.hid hR
  have HC : Hid (∀ (x : World) (a : Option Addr) (c : Nat) (M : List Int) (k : Nat), Row x a c M → k = M.length → (convert 22 9 (.slice a k c)).run Try.prog x = .ok (.string (strOfNums M)) x) := Lib.hid fun x a c M k h hk => run_string (P := Try.prog) Try.underlying22 Try.underlying5 h k hk _ Try.underlying9
  clear hR
  generalize hg : getL 0 0 L = q at hS
  obtain ⟨n, k, er⟩ := q
  have C1 := Lib.hid (get_at HR.out)
  rw [hg] at C1
  unfold getV at C1
  clear hg
  simp only at hS
  by_cases h0 : er = 0
  · obtain ⟨q1, q2, q3, q4, m, q5, -, q7⟩ := hS.2 h0
    obtain rfl : n = m := by simpa using q5
    clear hS q5
    subst h0
    simp only [Nat.sub_zero] at q7
    have d1 : (1 : Int) ≤ (k : Int) := by omega
    have d2 : (k : Int) ≤ (L.length : Int) := by omega
    have d3 : (k : Int) ≤ 10 := by omega
    have Hn := Lib.hid (And.intro q4 q7)
    obtain ⟨b, off, rfl⟩ := HR.out.some_of (by omega)
    have d4 : (k : Int) ≤ (cap0 : Int) := by have := HR.out.cap; omega
    have HS : Hid (∀ x : World, Keep [] w x → Keep [] w x ∧ (convert 22 9 (.slice (some ⟨b, off, none⟩) k cap0)).run Try.prog x = .ok (.string (strOfNums (L.take k))) x) := Lib.hid fun x hx => ⟨hx, HC.out x _ _ _ _ ((HR.out.take k).keep0 hx) (by rw [List.length_take]; omega)⟩
    clear q4 q7
    go_enter Try.func5, Try.ntmps5
    go_wp2_with fail
    refine C1.out.mono ?_
    rintro e w' ⟨rfl, rfl⟩
    go_wp2_with fail
    refine wp_region_held_drew (S := fun x => Keep [] w x ∧ (convert 22 9 (.slice (some ⟨b, off, none⟩) k cap0)).run Try.prog x = .ok (.string (strOfNums (L.take k))) x) (by kernel_rfl) (HS.out _ (Keep.refl [] w).drew) (fun hHeld => ?_)
    skip
    refine wpAnyH_take (i := 0) (oi := { dst := some 23, op := Op.move (Operand.tmp 4), type := 3, pos := "law.go:73", after := #[], guard := none }) (v := ?_) rfl (by kernel_rfl) (by kernel_rfl) (by kernel_rfl) (fun _ _ _ h => h) (Or.inl ⟨by rfl, ?_⟩) (by assumption) ?_
    rotate_left
    focus (intro w hSw; (try dsimp only at hSw); go_simp <;> with_reducible rfl)
    try simp only [Act.put, List.setIfInBounds_toArray, List.set_cons_zero, List.set_cons_succ]
    refine wpAnyH_take (i := 1) (oi := { dst := some 24, op := Op.binOp BinOp.geq 3 (Operand.tmp 23) (Operand.const (Value.int IntKind.i64 1)) 3, type := 4, pos := "law.go:73", after := #[{ on := 0, ground := Ground.data }], guard := none }) (v := ?_) rfl (by kernel_rfl) (by kernel_rfl) (by kernel_rfl) (fun _ _ _ h => h) (Or.inl ⟨by rfl, ?_⟩) (by assumption) ?_
    rotate_left
    focus (intro w hSw; (try dsimp only at hSw); go_simp <;> with_reducible rfl)
    try simp only [Act.put, List.setIfInBounds_toArray, List.set_cons_zero, List.set_cons_succ]
    refine wpAnyH_take (i := 2) (oi := { dst := some 25, op := Op.move (Operand.tmp 24), type := 4, pos := "law.go:73", after := #[{ on := 1, ground := Ground.data }], guard := none }) (v := ?_) rfl (by kernel_rfl) (by kernel_rfl) (by kernel_rfl) (fun _ _ _ h => h) (Or.inl ⟨by rfl, ?_⟩) (by assumption) ?_
    rotate_left
    focus (intro w hSw; (try dsimp only at hSw); go_simp <;> with_reducible rfl)
    try simp only [Act.put, List.setIfInBounds_toArray, List.set_cons_zero, List.set_cons_succ]
    refine wpAnyH_take (i := 3) (oi := { dst := some 26, op := Op.move (Operand.tmp 4), type := 3, pos := "law.go:73", after := #[{ on := 2, ground := Ground.guard }], guard := some (2, true) }) (v := ?_) rfl (by kernel_rfl) (by kernel_rfl) (by kernel_rfl) (fun _ _ _ h => h) (Or.inl ⟨by rfl, ?_⟩) (by assumption) ?_
    rotate_left
    focus (intro w hSw; (try dsimp only at hSw); go_simp <;> with_reducible rfl)
    try simp only [Act.put, List.setIfInBounds_toArray, List.set_cons_zero, List.set_cons_succ]
    refine wpAnyH_take (i := 4) (oi := { dst := some 27, op := Op.move (Operand.tmp 0), type := 22, pos := "law.go:73", after := #[{ on := 2, ground := Ground.guard }], guard := some (2, true) }) (v := ?_) rfl (by kernel_rfl) (by kernel_rfl) (by kernel_rfl) (fun _ _ _ h => h) (Or.inl ⟨by rfl, ?_⟩) (by assumption) ?_
    rotate_left
    focus (intro w hSw; (try dsimp only at hSw); go_simp <;> with_reducible rfl)
    try simp only [Act.put, List.setIfInBounds_toArray, List.set_cons_zero, List.set_cons_succ]
    refine wpAnyH_take (i := 5) (oi := { dst := some 28, op := Op.call { callee := Callee.builtin Builtin.len, args := #[Operand.tmp 27], argTypes := #[22] }, type := 3, pos := "law.go:73", after := #[{ on := 4, ground := Ground.data }, { on := 2, ground := Ground.guard }], guard := some (2, true) }) (v := ?_) rfl (by kernel_rfl) (by kernel_rfl) (by kernel_rfl) (fun _ _ _ h => h) (Or.inl ⟨by rfl, ?_⟩) (by assumption) ?_
    rotate_left
    focus (intro w hSw; (try dsimp only at hSw); go_simp <;> with_reducible rfl)
    try simp only [Act.put, List.setIfInBounds_toArray, List.set_cons_zero, List.set_cons_succ]
    refine wpAnyH_take (i := 6) (oi := { dst := some 29, op := Op.binOp BinOp.leq 3 (Operand.tmp 26) (Operand.tmp 28) 3, type := 4, pos := "law.go:73", after := #[{ on := 3, ground := Ground.data }, { on := 5, ground := Ground.data }, { on := 2, ground := Ground.guard }], guard := some (2, true) }) (v := ?_) rfl (by kernel_rfl) (by kernel_rfl) (by kernel_rfl) (fun _ _ _ h => h) (Or.inl ⟨by rfl, ?_⟩) (by assumption) ?_
    rotate_left
    focus (intro w hSw; (try dsimp only at hSw); go_simp <;> with_reducible rfl)
    try simp only [Act.put, List.setIfInBounds_toArray, List.set_cons_zero, List.set_cons_succ]
    refine wpAnyH_take (i := 7) (oi := { dst := some 30, op := Op.pick (Operand.tmp 25) (Operand.tmp 29) (Operand.const (Value.bool false)), type := 4, pos := "law.go:73", after := #[{ on := 2, ground := Ground.data }, { on := 6, ground := Ground.data }], guard := none }) (v := ?_) rfl (by kernel_rfl) (by kernel_rfl) (by kernel_rfl) (fun _ _ _ h => h) (Or.inl ⟨by rfl, ?_⟩) (by assumption) ?_
    rotate_left
    focus (intro w hSw; (try dsimp only at hSw); go_simp <;> with_reducible rfl)
    try simp only [Act.put, List.setIfInBounds_toArray, List.set_cons_zero, List.set_cons_succ]
    refine wpAnyH_take (i := 8) (oi := { dst := some 31, op := Op.move (Operand.tmp 30), type := 4, pos := "law.go:73", after := #[{ on := 7, ground := Ground.data }, { on := 2, ground := Ground.chain }], guard := none }) (v := ?_) rfl (by kernel_rfl) (by kernel_rfl) (by kernel_rfl) (fun _ _ _ h => h) (Or.inl ⟨by rfl, ?_⟩) (by assumption) ?_
    rotate_left
    focus (intro w hSw; (try dsimp only at hSw); go_simp <;> with_reducible rfl)
    try simp only [Act.put, List.setIfInBounds_toArray, List.set_cons_zero, List.set_cons_succ]
    refine wpAnyH_take (i := 9) (oi := { dst := some 32, op := Op.move (Operand.tmp 4), type := 3, pos := "law.go:73", after := #[{ on := 8, ground := Ground.guard }], guard := some (8, true) }) (v := ?_) rfl (by kernel_rfl) (by kernel_rfl) (by kernel_rfl) (fun _ _ _ h => h) (Or.inl ⟨by rfl, ?_⟩) (by assumption) ?_
    rotate_left
    focus (intro w hSw; (try dsimp only at hSw); go_simp <;> with_reducible rfl)
    try simp only [Act.put, List.setIfInBounds_toArray, List.set_cons_zero, List.set_cons_succ]
    refine wpAnyH_take (i := 10) (oi := { dst := some 33, op := Op.binOp BinOp.leq 3 (Operand.tmp 32) (Operand.const (Value.int IntKind.i64 10)) 3, type := 4, pos := "law.go:73", after := #[{ on := 9, ground := Ground.data }, { on := 8, ground := Ground.guard }], guard := some (8, true) }) (v := ?_) rfl (by kernel_rfl) (by kernel_rfl) (by kernel_rfl) (fun _ _ _ h => h) (Or.inl ⟨by rfl, ?_⟩) (by assumption) ?_
    rotate_left
    focus (intro w hSw; (try dsimp only at hSw); go_simp <;> with_reducible rfl)
    try simp only [Act.put, List.setIfInBounds_toArray, List.set_cons_zero, List.set_cons_succ]
    refine wpAnyH_take (i := 11) (oi := { dst := some 34, op := Op.pick (Operand.tmp 31) (Operand.tmp 33) (Operand.const (Value.bool false)), type := 4, pos := "law.go:73", after := #[{ on := 8, ground := Ground.data }, { on := 10, ground := Ground.data }], guard := none }) (v := ?_) rfl (by kernel_rfl) (by kernel_rfl) (by kernel_rfl) (fun _ _ _ h => h) (Or.inl ⟨by rfl, ?_⟩) (by assumption) ?_
    rotate_left
    focus (intro w hSw; (try dsimp only at hSw); go_simp <;> with_reducible rfl)
    try simp only [Act.put, List.setIfInBounds_toArray, List.set_cons_zero, List.set_cons_succ]
    refine wpAnyH_take (i := 12) (oi := { dst := some 35, op := Op.move (Operand.tmp 34), type := 4, pos := "law.go:73", after := #[{ on := 11, ground := Ground.data }, { on := 8, ground := Ground.chain }], guard := none }) (v := ?_) rfl (by kernel_rfl) (by kernel_rfl) (by kernel_rfl) (fun _ _ _ h => h) (Or.inl ⟨by rfl, ?_⟩) (by assumption) ?_
    rotate_left
    focus (intro w hSw; (try dsimp only at hSw); go_simp <;> with_reducible rfl)
    try simp only [Act.put, List.setIfInBounds_toArray, List.set_cons_zero, List.set_cons_succ]
    refine wpAnyH_take (i := 13) (oi := { dst := some 36, op := Op.move (Operand.tmp 3), type := 23, pos := "law.go:73", after := #[{ on := 12, ground := Ground.guard }], guard := some (12, true) }) (v := ?_) rfl (by kernel_rfl) (by kernel_rfl) (by kernel_rfl) (fun _ _ _ h => h) (Or.inl ⟨by rfl, ?_⟩) (by assumption) ?_
    rotate_left
    focus (intro w hSw; (try dsimp only at hSw); go_simp <;> with_reducible rfl)
    try simp only [Act.put, List.setIfInBounds_toArray, List.set_cons_zero, List.set_cons_succ]
    refine wpAnyH_take (i := 16) (oi := { dst := some 39, op := Op.move (Operand.tmp 0), type := 22, pos := "law.go:73", after := #[{ on := 12, ground := Ground.guard }], guard := some (12, true) }) (v := ?_) rfl (by kernel_rfl) (by kernel_rfl) (by kernel_rfl) (fun _ _ _ h => h) (Or.inl ⟨by rfl, ?_⟩) (by assumption) ?_
    rotate_left
    focus (intro w hSw; (try dsimp only at hSw); go_simp <;> with_reducible rfl)
    try simp only [Act.put, List.setIfInBounds_toArray, List.set_cons_zero, List.set_cons_succ]
    refine wpAnyH_take (i := 17) (oi := { dst := some 40, op := Op.move (Operand.tmp 4), type := 3, pos := "law.go:73", after := #[{ on := 12, ground := Ground.guard }], guard := some (12, true) }) (v := ?_) rfl (by kernel_rfl) (by kernel_rfl) (by kernel_rfl) (fun _ _ _ h => h) (Or.inl ⟨by rfl, ?_⟩) (by assumption) ?_
    rotate_left
    focus (intro w hSw; (try dsimp only at hSw); go_simp <;> with_reducible rfl)
    try simp only [Act.put, List.setIfInBounds_toArray, List.set_cons_zero, List.set_cons_succ]
    refine wpAnyH_take (i := 18) (oi := { dst := some 41, op := Op.slice 22 (Operand.tmp 39) none (some (Operand.tmp 40)) none, type := 22, pos := "law.go:73", after := #[{ on := 16, ground := Ground.data }, { on := 17, ground := Ground.data }, { on := 12, ground := Ground.guard }], guard := some (12, true) }) (v := ?_) rfl (by kernel_rfl) (by kernel_rfl) (by kernel_rfl) (fun _ _ _ h => h) (Or.inl ⟨by rfl, ?_⟩) (by assumption) ?_
    rotate_left
    focus (intro w hSw; (try dsimp only at hSw); go_simp <;> with_reducible rfl)
    try simp only [Act.put, List.setIfInBounds_toArray, List.set_cons_zero, List.set_cons_succ]
    refine wpAnyH_take (i := 19) (oi := { dst := some 42, op := Op.convert 22 9 (Operand.tmp 41), type := 9, pos := "law.go:73", after := #[{ on := 18, ground := Ground.data }, { on := 12, ground := Ground.guard }], guard := some (12, true) }) (v := ?_) rfl (by kernel_rfl) (by kernel_rfl) (by kernel_rfl) (fun _ _ _ h => h) (Or.inl ⟨by rfl, ?_⟩) (by assumption) ?_
    rotate_left
    focus (intro w hSw; (try dsimp only at hSw); go_simp <;> with_reducible rfl)
    try simp only [Act.put, List.setIfInBounds_toArray, List.set_cons_zero, List.set_cons_succ]
    refine wpAnyH_ready (rs := [14]) (by kernel_rfl) (by simp) ?_
    refine AllReadyH.cons (o := { dst := some 37, op := Op.call { callee := Callee.value (Operand.func 11), args := #[Operand.const (Value.slice none 0 0), Operand.tmp 36], argTypes := #[22, 23] }, type := 22, pos := "law.go:73", after := #[{ on := 13, ground := Ground.data }, { on := 12, ground := Ground.chain }, { on := 12, ground := Ground.guard }], guard := some (12, true) }) rfl (fun K hK => ?_) AllReadyH.nil
    go_simp
    refine (put_at n Hn.out.1 (Row.nil _) (by simp)).mono ?_
    rintro e y1 ⟨v1, rfl, hO1, hK1⟩
    rw [List.nil_append] at hO1
    obtain ⟨b1, c1, rfl, hR1⟩ := hO1.shape
    go_wp2_with fail
    have hq := Lib.hid (And.intro hR1 (hHeld.1.trans hK1))
    clear hO1 hHeld hR1
    refine shut_grow (fun x => Keep [] w x ∧ (convert 22 9 (.slice (some ⟨b, off, none⟩) k cap0)).run Try.prog x = .ok (.string (strOfNums (L.take k))) x ∧ (convert 22 9 (.slice b1 (number n).length c1)).run Try.prog x = .ok (.string (strOfNums (number n))) x) hK (fun _ h => ⟨h.1, h.2.1⟩) ⟨hq.out.2, (HS.out _ hq.out.2).2, HC.out _ _ _ _ _ hq.out.1 rfl⟩ (fun hHeld => ?_)
    clear hK K
    have hnk := congrArg strOfNums Hn.out.2
    refine wpAnyH_take (i := 15) (oi := { dst := some 38, op := Op.convert 22 9 (Operand.tmp 37), type := 9, pos := "law.go:73", after := #[{ on := 14, ground := Ground.data }, { on := 12, ground := Ground.guard }], guard := some (12, true) }) (v := ?_) rfl (by kernel_rfl) (by kernel_rfl) (by kernel_rfl) (fun _ _ _ h => h) (Or.inl ⟨by rfl, ?_⟩) (by assumption) ?_
    rotate_left
    focus (intro w hSw; (try dsimp only at hSw); go_simp <;> with_reducible rfl)
    try simp only [Act.put, List.setIfInBounds_toArray, List.set_cons_zero, List.set_cons_succ]
    refine wpAnyH_take (i := 20) (oi := { dst := some 43, op := Op.binOp BinOp.eql 9 (Operand.tmp 38) (Operand.tmp 42) 9, type := 4, pos := "law.go:73", after := #[{ on := 15, ground := Ground.data }, { on := 19, ground := Ground.data }, { on := 12, ground := Ground.guard }], guard := some (12, true) }) (v := ?_) rfl (by kernel_rfl) (by kernel_rfl) (by kernel_rfl) (fun _ _ _ h => h) (Or.inl ⟨by rfl, ?_⟩) (by assumption) ?_
    rotate_left
    focus (intro w hSw; (try dsimp only at hSw); go_simp <;> with_reducible rfl)
    try simp only [Act.put, List.setIfInBounds_toArray, List.set_cons_zero, List.set_cons_succ]
    refine wpAnyH_take (i := 21) (oi := { dst := some 44, op := Op.pick (Operand.tmp 35) (Operand.tmp 43) (Operand.const (Value.bool false)), type := 4, pos := "law.go:73", after := #[{ on := 12, ground := Ground.data }, { on := 20, ground := Ground.data }], guard := none }) (v := ?_) rfl (by kernel_rfl) (by kernel_rfl) (by kernel_rfl) (fun _ _ _ h => h) (Or.inl ⟨by rfl, ?_⟩) (by assumption) ?_
    rotate_left
    focus (intro w hSw; (try dsimp only at hSw); go_simp <;> with_reducible rfl)
    try simp only [Act.put, List.setIfInBounds_toArray, List.set_cons_zero, List.set_cons_succ]
    refine wpAnyH_take (i := 22) (oi := { dst := some 45, op := Op.move (Operand.tmp 44), type := 4, pos := "law.go:73", after := #[{ on := 21, ground := Ground.data }, { on := 14, ground := Ground.chain }], guard := none }) (v := ?_) rfl (by kernel_rfl) (by kernel_rfl) (by kernel_rfl) (fun _ _ _ h => h) (Or.inl ⟨by rfl, ?_⟩) (by assumption) ?_
    rotate_left
    focus (intro w hSw; (try dsimp only at hSw); go_simp <;> with_reducible rfl)
    try simp only [Act.put, List.setIfInBounds_toArray, List.set_cons_zero, List.set_cons_succ]
    refine wpAnyH_ready (rs := [23]) (by kernel_rfl) (by simp) ?_
    refine AllReadyH.cons (o := { dst := some 46, op := Op.call { callee := Callee.value (Operand.func 13), args := #[], argTypes := #[] }, type := 4, pos := "law.go:73", after := #[{ on := 22, ground := Ground.chain }, { on := 22, ground := Ground.guard }], guard := some (22, true) }) rfl (fun K hK => ?_) AllReadyH.nil
    go_simp
    refine (works_at _).mono ?_
    rintro e y3 ⟨rfl, hK3⟩
    go_wp2_with fail
    have hF := Lib.hid (Keep.below (hHeld.1.trans hK3) (Nat.le_refl _) (by simp))
    refine shut_grow (fun x => x = y3) hK (fun _ h => h ▸ ⟨hHeld.1.trans hK3, (HS.out _ (hHeld.1.trans hK3)).2, HC.out _ _ _ _ _ (hq.out.1.keep0 hK3) rfl⟩) rfl (fun hHeld => ?_)
    clear hK K
    refine wpAnyH_take (i := 24) (oi := { dst := some 47, op := Op.pick (Operand.tmp 45) (Operand.tmp 46) (Operand.const (Value.bool false)), type := 4, pos := "law.go:73", after := #[{ on := 22, ground := Ground.data }, { on := 23, ground := Ground.data }], guard := none }) (v := ?_) rfl (by kernel_rfl) (by kernel_rfl) (by kernel_rfl) (fun _ _ _ h => h) (Or.inl ⟨by rfl, ?_⟩) (by assumption) ?_
    rotate_left
    focus (intro w hSw; (try dsimp only at hSw); go_simp <;> with_reducible rfl)
    try simp only [Act.put, List.setIfInBounds_toArray, List.set_cons_zero, List.set_cons_succ]
    refine wpAnyH_take (i := 25) (oi := { dst := some 2, op := Op.assign (Operand.tmp 47), type := 4, pos := "law.go:73", after := #[{ on := 24, ground := Ground.data }, { on := 23, ground := Ground.chain }, { on := 0, ground := Ground.phase }, { on := 1, ground := Ground.phase }, { on := 2, ground := Ground.phase }, { on := 3, ground := Ground.phase }, { on := 4, ground := Ground.phase }, { on := 5, ground := Ground.phase }, { on := 6, ground := Ground.phase }, { on := 7, ground := Ground.phase }, { on := 8, ground := Ground.phase }, { on := 9, ground := Ground.phase }, { on := 10, ground := Ground.phase }, { on := 11, ground := Ground.phase }, { on := 12, ground := Ground.phase }, { on := 13, ground := Ground.phase }, { on := 14, ground := Ground.phase }, { on := 15, ground := Ground.phase }, { on := 16, ground := Ground.phase }, { on := 17, ground := Ground.phase }, { on := 18, ground := Ground.phase }, { on := 19, ground := Ground.phase }, { on := 20, ground := Ground.phase }, { on := 21, ground := Ground.phase }, { on := 22, ground := Ground.phase }, { on := 23, ground := Ground.phase }, { on := 24, ground := Ground.phase }], guard := none }) (v := ?_) rfl (by kernel_rfl) (by kernel_rfl) (by kernel_rfl) (fun _ _ _ h => h) (Or.inl ⟨by rfl, ?_⟩) (by assumption) ?_
    rotate_left
    focus (intro w hSw; (try dsimp only at hSw); go_simp <;> with_reducible rfl)
    try simp only [Act.put, List.setIfInBounds_toArray, List.set_cons_zero, List.set_cons_succ]
    refine wpAnyH_done (by kernel_rfl) ?_ _
    go_wp2
    go_ret
    exact ⟨rfl, hF.out⟩
  · obtain ⟨rfl, rfl⟩ := hS.1 h0
    clear hS
    go_enter Try.func5, Try.ntmps5
    go_wp2_with fail
    refine C1.out.mono ?_
    rintro e w' ⟨rfl, rfl⟩
    go_wp2_with fail
    refine (works_at _).mono ?_
    rintro e w3 ⟨rfl, hK⟩
    have hF := Lib.hid (Keep.below hK (Nat.le_refl _) (by simp))
    clear hK
    go_wp2_with fail
    go_ret
    exact ⟨rfl, hF.out⟩
end Go.Proofs.Ytffpccijmgjofaa
