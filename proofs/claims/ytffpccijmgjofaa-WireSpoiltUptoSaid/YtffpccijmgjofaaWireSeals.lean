/- The law WireSeals, walked. -/
import Derived.Test.YtffpccijmgjofaaCrc
import Derived.Test.YtffpccijmgjofaaWireRows
import Derived.Test.YtffpccijmgjofaaStr
namespace Go.Proofs.Ytffpccijmgjofaa
open Go.RowKit Go.Mum

/-- What stands as three strings in each later world. -/
def Three (y : World) (s0 b1 b2 : Option Addr) (cap0 c1 c2 : Nat) (L : List Int) : Prop :=
  ∀ x, Keep [] y x → (convert 22 9 (.slice b1 (sealL L).length c1)).run Try.prog x = .ok (.string (strOfNums (sealL L))) x ∧ (convert 22 9 (.slice b2 L.length c2)).run Try.prog x = .ok (.string (strOfNums L)) x ∧ (convert 22 9 (.slice s0 L.length cap0)).run Try.prog x = .ok (.string (strOfNums L)) x

set_option maxRecDepth 100000 in
set_option maxHeartbeats 4000000 in
theorem WireSeals_walk (s0 : Option Addr) (len0 cap0 n0 : Nat) (w : World) (w0 : Fits Try.prog w 1048576 n0 22 [.slice s0 len0 cap0]) :
    Calls Try.prog 9 #[.slice s0 len0 cap0] w fun e w' => e = .returned (.bool true) ∧ Below w.heap.size w w' := by
  obtain ⟨L, rfl, hR, hl⟩ := row_of_fits w0
  have hl' : L.length ≤ 1048576 := by omega
  have HL := Lib.hid (And.intro hR (open_seal hR.bytes))
  clear w0 hR hl
  go_enter Try.func9, Try.ntmps9
  go_wp2_with fail
  refine (seal_at HL.out.1 (by omega)).mono ?_
  rintro e y0 ⟨v0, rfl, hO0, hK0⟩
  obtain ⟨b1, c1, rfl, hR1⟩ := hO0.shape
  have H1 := Lib.hid (And.intro hR1 hK0)
  clear hO0 hR1 hK0
  go_wp2_with fail
  refine (open_at H1.out.1 (by rw [sealL_length]; omega)).mono ?_
  rw [HL.out.2]
  rintro e y1 ⟨b2, c2, rfl, hR2, hK1⟩
  have HX : Hid (Keep [] y1 y1 ∧ Three y1 s0 b1 b2 cap0 c1 c2 L ∧ Keep [] w y1) := Lib.hid ⟨Keep.refl _ _, fun x hx => ⟨str_of (H1.out.1.keep0 (hK1.trans hx)) rfl, str_of (hR2.keep0 hx) rfl, str_of (HL.out.1.keep0 ((H1.out.2.trans hK1).trans hx)) rfl⟩, H1.out.2.trans hK1⟩
  clear hR2 hK1
  have C := Lib.hid (fun (x : World) (hx : Keep [] w x) => open_at (HL.out.1.keep0 hx) (by omega))
  have S := Lib.hid (fun (x : World) (hx : Keep [] w x) => sealed_at (HL.out.1.keep0 hx) (by omega))
  clear H1
  go_wp2_with fail
  skip
  refine wp_region_held_drew (S := fun x => Keep [] y1 x ∧ (convert 22 9 (.slice b1 (sealL L).length c1)).run Try.prog x = .ok (.string (strOfNums (sealL L))) x ∧ (convert 22 9 (.slice b2 L.length c2)).run Try.prog x = .ok (.string (strOfNums L)) x ∧ (convert 22 9 (.slice s0 L.length cap0)).run Try.prog x = .ok (.string (strOfNums L)) x) (by kernel_rfl) ⟨HX.out.1.drew, HX.out.2.1 _ HX.out.1.drew⟩ (fun hHeld => ?_)
  refine wpAnyH_take (i := 0) (oi := { dst := some 15, op := Op.move (Operand.tmp 3), type := 22, pos := "law.go:45", after := #[], guard := none }) (v := ?_) rfl (by kernel_rfl) (by kernel_rfl) (by kernel_rfl) (fun _ _ _ h => h) (Or.inl ⟨by rfl, ?_⟩) (by assumption) ?_
  rotate_left
  focus (intro w hSw; (try dsimp only at hSw); go_simp <;> with_reducible rfl)
  try simp only [Act.put, List.setIfInBounds_toArray, List.set_cons_zero, List.set_cons_succ]
  refine wpAnyH_take (i := 1) (oi := { dst := some 16, op := Op.convert 22 9 (Operand.tmp 15), type := 9, pos := "law.go:45", after := #[{ on := 0, ground := Ground.data }], guard := none }) (v := ?_) rfl (by kernel_rfl) (by kernel_rfl) (by kernel_rfl) (fun _ _ _ h => h) (Or.inl ⟨by rfl, ?_⟩) (by assumption) ?_
  rotate_left
  focus (intro w hSw; (try dsimp only at hSw); go_simp <;> with_reducible rfl)
  try simp only [Act.put, List.setIfInBounds_toArray, List.set_cons_zero, List.set_cons_succ]
  refine wpAnyH_take (i := 2) (oi := { dst := some 17, op := Op.move (Operand.tmp 0), type := 22, pos := "law.go:45", after := #[], guard := none }) (v := ?_) rfl (by kernel_rfl) (by kernel_rfl) (by kernel_rfl) (fun _ _ _ h => h) (Or.inl ⟨by rfl, ?_⟩) (by assumption) ?_
  rotate_left
  focus (intro w hSw; (try dsimp only at hSw); go_simp <;> with_reducible rfl)
  try simp only [Act.put, List.setIfInBounds_toArray, List.set_cons_zero, List.set_cons_succ]
  refine wpAnyH_ready (rs := [3]) (by kernel_rfl) (by simp) ?_
  refine AllReadyH.cons (o := { dst := some 18, op := Op.call { callee := Callee.value (Operand.func 23), args := #[Operand.tmp 17], argTypes := #[22] }, type := 22, pos := "law.go:45", after := #[{ on := 2, ground := Ground.data }], guard := none }) rfl (fun K hK => ?_) AllReadyH.nil
  go_simp
  refine (S.out _ (HX.out.2.2.trans hHeld.1)).mono ?_
  rintro e y2 ⟨v2, rfl, hO2, hK2⟩
  obtain ⟨b3, c3, rfl, hR3⟩ := hO2.shape
  go_wp2_with fail
  have hq := Lib.hid (And.intro (hHeld.1.trans hK2) (And.intro (str_of hR3 rfl) (HX.out.2.2.trans (hHeld.1.trans hK2))))
  clear hO2 hR3
  unfold Str at hq
  refine shut_grow (fun x => x = y2 ∧ (convert 22 9 (.slice b3 (sealL L).length c3)).run Try.prog x = .ok (.string (strOfNums (sealL L))) x ∧ (convert 22 9 (.slice b1 (sealL L).length c1)).run Try.prog x = .ok (.string (strOfNums (sealL L))) x ∧ (convert 22 9 (.slice b2 L.length c2)).run Try.prog x = .ok (.string (strOfNums L)) x ∧ (convert 22 9 (.slice s0 L.length cap0)).run Try.prog x = .ok (.string (strOfNums L)) x) hK (fun x h => ⟨by rw [h.1]; exact hq.out.1, h.2.2⟩) ⟨rfl, hq.out.2.1, HX.out.2.1 _ hq.out.1⟩ (fun hHeld => ?_)
  clear hK K
  refine wpAnyH_take (i := 4) (oi := { dst := some 19, op := Op.convert 22 9 (Operand.tmp 18), type := 9, pos := "law.go:45", after := #[{ on := 3, ground := Ground.data }], guard := none }) (v := ?_) rfl (by kernel_rfl) (by kernel_rfl) (by kernel_rfl) (fun _ _ _ h => h) (Or.inl ⟨by rfl, ?_⟩) (by assumption) ?_
  rotate_left
  focus (intro w hSw; (try dsimp only at hSw); go_simp <;> with_reducible rfl)
  try simp only [Act.put, List.setIfInBounds_toArray, List.set_cons_zero, List.set_cons_succ]
  refine wpAnyH_take (i := 5) (oi := { dst := some 20, op := Op.binOp BinOp.neq 9 (Operand.tmp 16) (Operand.tmp 19) 9, type := 4, pos := "law.go:45", after := #[{ on := 1, ground := Ground.data }, { on := 4, ground := Ground.data }], guard := none }) (v := ?_) rfl (by kernel_rfl) (by kernel_rfl) (by kernel_rfl) (fun _ _ _ h => h) (Or.inl ⟨by rfl, ?_⟩) (by assumption) ?_
  rotate_left
  focus (intro w hSw; (try dsimp only at hSw); go_simp <;> with_reducible rfl)
  try simp only [Act.put, List.setIfInBounds_toArray, List.set_cons_zero, List.set_cons_succ]
  refine wpAnyH_take (i := 6) (oi := { dst := some 21, op := Op.move (Operand.tmp 20), type := 4, pos := "law.go:45", after := #[{ on := 5, ground := Ground.data }, { on := 3, ground := Ground.chain }], guard := none }) (v := ?_) rfl (by kernel_rfl) (by kernel_rfl) (by kernel_rfl) (fun _ _ _ h => h) (Or.inl ⟨by rfl, ?_⟩) (by assumption) ?_
  rotate_left
  focus (intro w hSw; (try dsimp only at hSw); go_simp <;> with_reducible rfl)
  try simp only [Act.put, List.setIfInBounds_toArray, List.set_cons_zero, List.set_cons_succ]
  refine wpAnyH_take (i := 7) (oi := { dst := some 22, op := Op.move (Operand.tmp 5), type := 28, pos := "law.go:45", after := #[{ on := 6, ground := Ground.guard }], guard := some (6, false) }) (v := ?_) rfl (by kernel_rfl) (by kernel_rfl) (by kernel_rfl) (fun _ _ _ h => h) (Or.inl ⟨by rfl, ?_⟩) (by assumption) ?_
  rotate_left
  focus (intro w hSw; (try dsimp only at hSw); go_simp <;> with_reducible rfl)
  try simp only [Act.put, List.setIfInBounds_toArray, List.set_cons_zero, List.set_cons_succ]
  refine wpAnyH_take (i := 8) (oi := { dst := some 23, op := Op.binOp BinOp.neq 28 (Operand.tmp 22) (Operand.const (Value.int IntKind.i64 0)) 28, type := 4, pos := "law.go:45", after := #[{ on := 7, ground := Ground.data }, { on := 6, ground := Ground.guard }], guard := some (6, false) }) (v := ?_) rfl (by kernel_rfl) (by kernel_rfl) (by kernel_rfl) (fun _ _ _ h => h) (Or.inl ⟨by rfl, ?_⟩) (by assumption) ?_
  rotate_left
  focus (intro w hSw; (try dsimp only at hSw); go_simp <;> with_reducible rfl)
  try simp only [Act.put, List.setIfInBounds_toArray, List.set_cons_zero, List.set_cons_succ]
  refine wpAnyH_take (i := 9) (oi := { dst := some 24, op := Op.pick (Operand.tmp 21) (Operand.const (Value.bool true)) (Operand.tmp 23), type := 4, pos := "law.go:45", after := #[{ on := 6, ground := Ground.data }, { on := 8, ground := Ground.data }], guard := none }) (v := ?_) rfl (by kernel_rfl) (by kernel_rfl) (by kernel_rfl) (fun _ _ _ h => h) (Or.inl ⟨by rfl, ?_⟩) (by assumption) ?_
  rotate_left
  focus (intro w hSw; (try dsimp only at hSw); go_simp <;> with_reducible rfl)
  try simp only [Act.put, List.setIfInBounds_toArray, List.set_cons_zero, List.set_cons_succ]
  refine wpAnyH_take (i := 10) (oi := { dst := some 25, op := Op.move (Operand.tmp 24), type := 4, pos := "law.go:45", after := #[{ on := 9, ground := Ground.data }, { on := 6, ground := Ground.chain }], guard := none }) (v := ?_) rfl (by kernel_rfl) (by kernel_rfl) (by kernel_rfl) (fun _ _ _ h => h) (Or.inl ⟨by rfl, ?_⟩) (by assumption) ?_
  rotate_left
  focus (intro w hSw; (try dsimp only at hSw); go_simp <;> with_reducible rfl)
  try simp only [Act.put, List.setIfInBounds_toArray, List.set_cons_zero, List.set_cons_succ]
  refine wpAnyH_take (i := 11) (oi := { dst := some 26, op := Op.move (Operand.tmp 4), type := 22, pos := "law.go:45", after := #[{ on := 10, ground := Ground.guard }], guard := some (10, false) }) (v := ?_) rfl (by kernel_rfl) (by kernel_rfl) (by kernel_rfl) (fun _ _ _ h => h) (Or.inl ⟨by rfl, ?_⟩) (by assumption) ?_
  rotate_left
  focus (intro w hSw; (try dsimp only at hSw); go_simp <;> with_reducible rfl)
  try simp only [Act.put, List.setIfInBounds_toArray, List.set_cons_zero, List.set_cons_succ]
  refine wpAnyH_take (i := 12) (oi := { dst := some 27, op := Op.convert 22 9 (Operand.tmp 26), type := 9, pos := "law.go:45", after := #[{ on := 11, ground := Ground.data }, { on := 10, ground := Ground.guard }], guard := some (10, false) }) (v := ?_) rfl (by kernel_rfl) (by kernel_rfl) (by kernel_rfl) (fun _ _ _ h => h) (Or.inl ⟨by rfl, ?_⟩) (by assumption) ?_
  rotate_left
  focus (intro w hSw; (try dsimp only at hSw); go_simp <;> with_reducible rfl)
  try simp only [Act.put, List.setIfInBounds_toArray, List.set_cons_zero, List.set_cons_succ]
  refine wpAnyH_take (i := 13) (oi := { dst := some 28, op := Op.move (Operand.tmp 0), type := 22, pos := "law.go:45", after := #[{ on := 10, ground := Ground.guard }], guard := some (10, false) }) (v := ?_) rfl (by kernel_rfl) (by kernel_rfl) (by kernel_rfl) (fun _ _ _ h => h) (Or.inl ⟨by rfl, ?_⟩) (by assumption) ?_
  rotate_left
  focus (intro w hSw; (try dsimp only at hSw); go_simp <;> with_reducible rfl)
  try simp only [Act.put, List.setIfInBounds_toArray, List.set_cons_zero, List.set_cons_succ]
  refine wpAnyH_take (i := 14) (oi := { dst := some 29, op := Op.convert 22 9 (Operand.tmp 28), type := 9, pos := "law.go:45", after := #[{ on := 13, ground := Ground.data }, { on := 10, ground := Ground.guard }], guard := some (10, false) }) (v := ?_) rfl (by kernel_rfl) (by kernel_rfl) (by kernel_rfl) (fun _ _ _ h => h) (Or.inl ⟨by rfl, ?_⟩) (by assumption) ?_
  rotate_left
  focus (intro w hSw; (try dsimp only at hSw); go_simp <;> with_reducible rfl)
  try simp only [Act.put, List.setIfInBounds_toArray, List.set_cons_zero, List.set_cons_succ]
  refine wpAnyH_take (i := 15) (oi := { dst := some 30, op := Op.binOp BinOp.neq 9 (Operand.tmp 27) (Operand.tmp 29) 9, type := 4, pos := "law.go:45", after := #[{ on := 12, ground := Ground.data }, { on := 14, ground := Ground.data }, { on := 10, ground := Ground.guard }], guard := some (10, false) }) (v := ?_) rfl (by kernel_rfl) (by kernel_rfl) (by kernel_rfl) (fun _ _ _ h => h) (Or.inl ⟨by rfl, ?_⟩) (by assumption) ?_
  rotate_left
  focus (intro w hSw; (try dsimp only at hSw); go_simp <;> with_reducible rfl)
  try simp only [Act.put, List.setIfInBounds_toArray, List.set_cons_zero, List.set_cons_succ]
  refine wpAnyH_take (i := 16) (oi := { dst := some 31, op := Op.pick (Operand.tmp 25) (Operand.const (Value.bool true)) (Operand.tmp 30), type := 4, pos := "law.go:45", after := #[{ on := 10, ground := Ground.data }, { on := 15, ground := Ground.data }], guard := none }) (v := ?_) rfl (by kernel_rfl) (by kernel_rfl) (by kernel_rfl) (fun _ _ _ h => h) (Or.inl ⟨by rfl, ?_⟩) (by assumption) ?_
  rotate_left
  focus (intro w hSw; (try dsimp only at hSw); go_simp <;> with_reducible rfl)
  try simp only [Act.put, List.setIfInBounds_toArray, List.set_cons_zero, List.set_cons_succ]
  refine wpAnyH_done (by kernel_rfl) ?_ _
  have hk2 := Lib.hid hq.out.2.2
  clear hHeld hq HX hK2
  by_cases h4 : L.length < 4
  · have ho : openL L = ([], 290) := by unfold openL; rw [if_pos h4]
    rw [ho] at C
    have h4' : (L.length : Int) < 4 := by omega
    go_wp2_with fail
    refine (C.out _ hk2.out).mono ?_
    rintro e y3 ⟨a3, c3, rfl, hR3, hK3⟩
    have hK := Lib.hid (hk2.out.trans hK3)
    clear C S hR3 hK3 h4
    go_wp2_with fail
    refine (works_at _).mono ?_
    rintro e y4 ⟨rfl, hK4⟩
    have hF := Lib.hid (Keep.below (hK.out.trans hK4) (Nat.le_refl _) (by simp))
    clear hK4
    go_wp2_with fail
    go_ret
    exact ⟨rfl, hF.out⟩
  · have ho := open_other HL.out.1.bytes (by omega)
    obtain ⟨b, off, rfl⟩ := HL.out.1.some_of (by omega)
    have HM : Hid (Row w (some ⟨b, off, none⟩) cap0 (L.take (L.length - 4))) := Lib.hid (HL.out.1.take _)
    have hml : Hid ((L.take (L.length - 4)).length = L.length - 4) := Lib.hid (by rw [List.length_take]; omega)
    have hsb : Hid (IsBytes (sealL (L.take (L.length - 4)))) := Lib.hid (sealL_bytes HM.out.bytes)
    generalize hM : L.take (L.length - 4) = M at ho HM hml hsb
    have h4' : ¬ ((L.length : Int) < 4) := by omega
    have hw : IntKind.i64.wrap ((L.length : Int) - 4) = (M.length : Int) := by rw [IntWalk.i64_in _ (by omega), hml.out]; omega
    have hn : (M.length : Int) ≤ (cap0 : Int) := by have := HM.out.cap; omega
    clear hM h4
    have S8 : Hid (∀ x, Keep [] w x → Calls Try.prog 23 #[.slice (some ⟨b, off, none⟩) M.length cap0] x (PutPost (sealL M) x)) := Lib.hid fun x hx => sealed_at (HM.out.keep0 hx) (by rw [hml.out]; omega)
    clear S
    by_cases hs : sealL M = L
    · rw [if_pos hs] at ho
      rw [ho] at C
      have HE := Lib.hid (congrArg strOfNums hs)
      clear hs ho
      go_wp2_with fail
      refine (C.out _ hk2.out).mono ?_
      rintro e y3 ⟨a3, c3, rfl, hR3, hK3⟩
      have HX : Hid (Keep [] w y3 ∧ Row y3 a3 c3 M) := Lib.hid ⟨hk2.out.trans hK3, hR3⟩
      clear hR3 hK3 C hk2
      go_wp2_with fail
      skip
      refine wp_region_held_drew (S := fun x => Keep [] y3 x ∧ (convert 22 9 (.slice (some ⟨b, off, none⟩) L.length cap0)).run Try.prog x = .ok (.string (strOfNums L)) x) (by kernel_rfl) ⟨(Keep.refl _ _).drew, str_of (HL.out.1.keep0 (HX.out.1.drew)) rfl⟩ (fun hHeld => ?_)
      refine wpAnyH_take (i := 0) (oi := { dst := some 50, op := Op.move (Operand.tmp 0), type := 22, pos := "law.go:52", after := #[], guard := none }) (v := ?_) rfl (by kernel_rfl) (by kernel_rfl) (by kernel_rfl) (fun _ _ _ h => h) (Or.inl ⟨by rfl, ?_⟩) (by assumption) ?_
      rotate_left
      focus (intro w hSw; (try dsimp only at hSw); go_simp <;> with_reducible rfl)
      try simp only [Act.put, List.setIfInBounds_toArray, List.set_cons_zero, List.set_cons_succ]
      refine wpAnyH_take (i := 1) (oi := { dst := some 51, op := Op.move (Operand.tmp 0), type := 22, pos := "law.go:52", after := #[], guard := none }) (v := ?_) rfl (by kernel_rfl) (by kernel_rfl) (by kernel_rfl) (fun _ _ _ h => h) (Or.inl ⟨by rfl, ?_⟩) (by assumption) ?_
      rotate_left
      focus (intro w hSw; (try dsimp only at hSw); go_simp <;> with_reducible rfl)
      try simp only [Act.put, List.setIfInBounds_toArray, List.set_cons_zero, List.set_cons_succ]
      refine wpAnyH_take (i := 2) (oi := { dst := some 52, op := Op.call { callee := Callee.builtin Builtin.len, args := #[Operand.tmp 51], argTypes := #[22] }, type := 3, pos := "law.go:52", after := #[{ on := 1, ground := Ground.data }], guard := none }) (v := ?_) rfl (by kernel_rfl) (by kernel_rfl) (by kernel_rfl) (fun _ _ _ h => h) (Or.inl ⟨by rfl, ?_⟩) (by assumption) ?_
      rotate_left
      focus (intro w hSw; (try dsimp only at hSw); go_simp <;> with_reducible rfl)
      try simp only [Act.put, List.setIfInBounds_toArray, List.set_cons_zero, List.set_cons_succ]
      refine wpAnyH_take (i := 3) (oi := { dst := some 53, op := Op.binOp BinOp.sub 3 (Operand.tmp 52) (Operand.const (Value.int IntKind.i64 4)) 3, type := 3, pos := "law.go:52", after := #[{ on := 2, ground := Ground.data }], guard := none }) (v := ?_) rfl (by kernel_rfl) (by kernel_rfl) (by kernel_rfl) (fun _ _ _ h => h) (Or.inl ⟨by rfl, ?_⟩) (by assumption) ?_
      rotate_left
      focus (intro w hSw; (try dsimp only at hSw); go_simp <;> with_reducible rfl)
      try simp only [Act.put, List.setIfInBounds_toArray, List.set_cons_zero, List.set_cons_succ]
      refine wpAnyH_take (i := 4) (oi := { dst := some 54, op := Op.slice 22 (Operand.tmp 50) none (some (Operand.tmp 53)) none, type := 22, pos := "law.go:52", after := #[{ on := 0, ground := Ground.data }, { on := 3, ground := Ground.data }], guard := none }) (v := ?_) rfl (by kernel_rfl) (by kernel_rfl) (by kernel_rfl) (fun _ _ _ h => h) (Or.inl ⟨by rfl, ?_⟩) (by assumption) ?_
      rotate_left
      focus (intro w hSw; (try dsimp only at hSw); go_simp <;> with_reducible rfl)
      try simp only [Act.put, List.setIfInBounds_toArray, List.set_cons_zero, List.set_cons_succ]
      refine wpAnyH_take (i := 7) (oi := { dst := some 57, op := Op.move (Operand.tmp 0), type := 22, pos := "law.go:52", after := #[], guard := none }) (v := ?_) rfl (by kernel_rfl) (by kernel_rfl) (by kernel_rfl) (fun _ _ _ h => h) (Or.inl ⟨by rfl, ?_⟩) (by assumption) ?_
      rotate_left
      focus (intro w hSw; (try dsimp only at hSw); go_simp <;> with_reducible rfl)
      try simp only [Act.put, List.setIfInBounds_toArray, List.set_cons_zero, List.set_cons_succ]
      refine wpAnyH_take (i := 8) (oi := { dst := some 58, op := Op.convert 22 9 (Operand.tmp 57), type := 9, pos := "law.go:52", after := #[{ on := 7, ground := Ground.data }], guard := none }) (v := ?_) rfl (by kernel_rfl) (by kernel_rfl) (by kernel_rfl) (fun _ _ _ h => h) (Or.inl ⟨by rfl, ?_⟩) (by assumption) ?_
      rotate_left
      focus (intro w hSw; (try dsimp only at hSw); go_simp <;> with_reducible rfl)
      try simp only [Act.put, List.setIfInBounds_toArray, List.set_cons_zero, List.set_cons_succ]
      refine wpAnyH_ready (rs := [5]) (by kernel_rfl) (by simp) ?_
      refine AllReadyH.cons (o := { dst := some 55, op := Op.call { callee := Callee.value (Operand.func 23), args := #[Operand.tmp 54], argTypes := #[22] }, type := 22, pos := "law.go:52", after := #[{ on := 4, ground := Ground.data }], guard := none }) rfl (fun K hK => ?_) AllReadyH.nil
      go_simp
      refine (S8.out _ (HX.out.1.trans hHeld.1)).mono ?_
      rintro e y4 ⟨v4, rfl, hO4, hK4⟩
      obtain ⟨b4, c4, rfl, hR4⟩ := hO4.shape
      go_wp2_with fail
      have hq := Lib.hid (And.intro (hHeld.1.trans hK4) (str_of hR4 rfl))
      clear hO4 hR4
      unfold Str at hq
      have hE := HE.out
      refine shut_grow (fun x => x = y4 ∧ (convert 22 9 (.slice b4 (sealL M).length c4)).run Try.prog x = .ok (.string (strOfNums (sealL M))) x ∧ (convert 22 9 (.slice (some ⟨b, off, none⟩) L.length cap0)).run Try.prog x = .ok (.string (strOfNums L)) x) hK (fun x h => ⟨by rw [h.1]; exact hq.out.1, h.2.2⟩) ⟨rfl, hq.out.2, str_of (HL.out.1.keep0 (HX.out.1.trans hq.out.1)) rfl⟩ (fun hHeld => ?_)
      clear hK K
      refine wpAnyH_take (i := 6) (oi := { dst := some 56, op := Op.convert 22 9 (Operand.tmp 55), type := 9, pos := "law.go:52", after := #[{ on := 5, ground := Ground.data }], guard := none }) (v := ?_) rfl (by kernel_rfl) (by kernel_rfl) (by kernel_rfl) (fun _ _ _ h => h) (Or.inl ⟨by rfl, ?_⟩) (by assumption) ?_
      rotate_left
      focus (intro w hSw; (try dsimp only at hSw); go_simp <;> with_reducible rfl)
      try simp only [Act.put, List.setIfInBounds_toArray, List.set_cons_zero, List.set_cons_succ]
      refine wpAnyH_take (i := 9) (oi := { dst := some 59, op := Op.binOp BinOp.eql 9 (Operand.tmp 56) (Operand.tmp 58) 9, type := 4, pos := "law.go:52", after := #[{ on := 6, ground := Ground.data }, { on := 8, ground := Ground.data }], guard := none }) (v := ?_) rfl (by kernel_rfl) (by kernel_rfl) (by kernel_rfl) (fun _ _ _ h => h) (Or.inl ⟨by rfl, ?_⟩) (by assumption) ?_
      rotate_left
      focus (intro w hSw; (try dsimp only at hSw); go_simp <;> with_reducible rfl)
      try simp only [Act.put, List.setIfInBounds_toArray, List.set_cons_zero, List.set_cons_succ]
      refine wpAnyH_done (by kernel_rfl) ?_ _
      have HY : Hid (Keep [] w y4 ∧ Row y4 a3 c3 M) := Lib.hid ⟨HX.out.1.trans hq.out.1, HX.out.2.keep0 hq.out.1⟩
      clear hHeld hq HX hK4
      go_wp2_with fail
      skip
      refine wp_region_held_drew (S := fun x => Keep [] w x ∧ (convert 22 9 (.slice a3 M.length c3)).run Try.prog x = .ok (.string (strOfNums M)) x ∧ (convert 22 9 (.slice (some ⟨b, off, none⟩) M.length cap0)).run Try.prog x = .ok (.string (strOfNums M)) x) (by kernel_rfl) ⟨HY.out.1.drew, str_of (HY.out.2.keep0 (Keep.refl [] y4).drew) rfl, str_of (HM.out.keep0 HY.out.1.drew) rfl⟩ (fun hHeld => ?_)
      refine wpAnyH_take (i := 0) (oi := { dst := some 60, op := Op.move (Operand.tmp 7), type := 28, pos := "law.go:53", after := #[], guard := none }) (v := ?_) rfl (by kernel_rfl) (by kernel_rfl) (by kernel_rfl) (fun _ _ _ h => h) (Or.inl ⟨by rfl, ?_⟩) (by assumption) ?_
      rotate_left
      focus (intro w hSw; (try dsimp only at hSw); go_simp <;> with_reducible rfl)
      try simp only [Act.put, List.setIfInBounds_toArray, List.set_cons_zero, List.set_cons_succ]
      refine wpAnyH_take (i := 1) (oi := { dst := some 61, op := Op.binOp BinOp.eql 28 (Operand.tmp 60) (Operand.const (Value.int IntKind.i64 0)) 28, type := 4, pos := "law.go:53", after := #[{ on := 0, ground := Ground.data }], guard := none }) (v := ?_) rfl (by kernel_rfl) (by kernel_rfl) (by kernel_rfl) (fun _ _ _ h => h) (Or.inl ⟨by rfl, ?_⟩) (by assumption) ?_
      rotate_left
      focus (intro w hSw; (try dsimp only at hSw); go_simp <;> with_reducible rfl)
      try simp only [Act.put, List.setIfInBounds_toArray, List.set_cons_zero, List.set_cons_succ]
      refine wpAnyH_take (i := 2) (oi := { dst := some 62, op := Op.move (Operand.tmp 61), type := 4, pos := "law.go:53", after := #[{ on := 1, ground := Ground.data }], guard := none }) (v := ?_) rfl (by kernel_rfl) (by kernel_rfl) (by kernel_rfl) (fun _ _ _ h => h) (Or.inl ⟨by rfl, ?_⟩) (by assumption) ?_
      rotate_left
      focus (intro w hSw; (try dsimp only at hSw); go_simp <;> with_reducible rfl)
      try simp only [Act.put, List.setIfInBounds_toArray, List.set_cons_zero, List.set_cons_succ]
      refine wpAnyH_take (i := 3) (oi := { dst := some 63, op := Op.move (Operand.tmp 6), type := 22, pos := "law.go:53", after := #[{ on := 2, ground := Ground.guard }], guard := some (2, true) }) (v := ?_) rfl (by kernel_rfl) (by kernel_rfl) (by kernel_rfl) (fun _ _ _ h => h) (Or.inl ⟨by rfl, ?_⟩) (by assumption) ?_
      rotate_left
      focus (intro w hSw; (try dsimp only at hSw); go_simp <;> with_reducible rfl)
      try simp only [Act.put, List.setIfInBounds_toArray, List.set_cons_zero, List.set_cons_succ]
      refine wpAnyH_take (i := 4) (oi := { dst := some 64, op := Op.convert 22 9 (Operand.tmp 63), type := 9, pos := "law.go:53", after := #[{ on := 3, ground := Ground.data }, { on := 2, ground := Ground.guard }], guard := some (2, true) }) (v := ?_) rfl (by kernel_rfl) (by kernel_rfl) (by kernel_rfl) (fun _ _ _ h => h) (Or.inl ⟨by rfl, ?_⟩) (by assumption) ?_
      rotate_left
      focus (intro w hSw; (try dsimp only at hSw); go_simp <;> with_reducible rfl)
      try simp only [Act.put, List.setIfInBounds_toArray, List.set_cons_zero, List.set_cons_succ]
      refine wpAnyH_take (i := 5) (oi := { dst := some 65, op := Op.move (Operand.tmp 0), type := 22, pos := "law.go:53", after := #[{ on := 2, ground := Ground.guard }], guard := some (2, true) }) (v := ?_) rfl (by kernel_rfl) (by kernel_rfl) (by kernel_rfl) (fun _ _ _ h => h) (Or.inl ⟨by rfl, ?_⟩) (by assumption) ?_
      rotate_left
      focus (intro w hSw; (try dsimp only at hSw); go_simp <;> with_reducible rfl)
      try simp only [Act.put, List.setIfInBounds_toArray, List.set_cons_zero, List.set_cons_succ]
      refine wpAnyH_take (i := 6) (oi := { dst := some 66, op := Op.move (Operand.tmp 0), type := 22, pos := "law.go:53", after := #[{ on := 2, ground := Ground.guard }], guard := some (2, true) }) (v := ?_) rfl (by kernel_rfl) (by kernel_rfl) (by kernel_rfl) (fun _ _ _ h => h) (Or.inl ⟨by rfl, ?_⟩) (by assumption) ?_
      rotate_left
      focus (intro w hSw; (try dsimp only at hSw); go_simp <;> with_reducible rfl)
      try simp only [Act.put, List.setIfInBounds_toArray, List.set_cons_zero, List.set_cons_succ]
      refine wpAnyH_take (i := 7) (oi := { dst := some 67, op := Op.call { callee := Callee.builtin Builtin.len, args := #[Operand.tmp 66], argTypes := #[22] }, type := 3, pos := "law.go:53", after := #[{ on := 6, ground := Ground.data }, { on := 2, ground := Ground.guard }], guard := some (2, true) }) (v := ?_) rfl (by kernel_rfl) (by kernel_rfl) (by kernel_rfl) (fun _ _ _ h => h) (Or.inl ⟨by rfl, ?_⟩) (by assumption) ?_
      rotate_left
      focus (intro w hSw; (try dsimp only at hSw); go_simp <;> with_reducible rfl)
      try simp only [Act.put, List.setIfInBounds_toArray, List.set_cons_zero, List.set_cons_succ]
      refine wpAnyH_take (i := 8) (oi := { dst := some 68, op := Op.binOp BinOp.sub 3 (Operand.tmp 67) (Operand.const (Value.int IntKind.i64 4)) 3, type := 3, pos := "law.go:53", after := #[{ on := 7, ground := Ground.data }, { on := 2, ground := Ground.guard }], guard := some (2, true) }) (v := ?_) rfl (by kernel_rfl) (by kernel_rfl) (by kernel_rfl) (fun _ _ _ h => h) (Or.inl ⟨by rfl, ?_⟩) (by assumption) ?_
      rotate_left
      focus (intro w hSw; (try dsimp only at hSw); go_simp <;> with_reducible rfl)
      try simp only [Act.put, List.setIfInBounds_toArray, List.set_cons_zero, List.set_cons_succ]
      refine wpAnyH_take (i := 9) (oi := { dst := some 69, op := Op.slice 22 (Operand.tmp 65) none (some (Operand.tmp 68)) none, type := 22, pos := "law.go:53", after := #[{ on := 5, ground := Ground.data }, { on := 8, ground := Ground.data }, { on := 2, ground := Ground.guard }], guard := some (2, true) }) (v := ?_) rfl (by kernel_rfl) (by kernel_rfl) (by kernel_rfl) (fun _ _ _ h => h) (Or.inl ⟨by rfl, ?_⟩) (by assumption) ?_
      rotate_left
      focus (intro w hSw; (try dsimp only at hSw); go_simp <;> with_reducible rfl)
      try simp only [Act.put, List.setIfInBounds_toArray, List.set_cons_zero, List.set_cons_succ]
      refine wpAnyH_take (i := 10) (oi := { dst := some 70, op := Op.convert 22 9 (Operand.tmp 69), type := 9, pos := "law.go:53", after := #[{ on := 9, ground := Ground.data }, { on := 2, ground := Ground.guard }], guard := some (2, true) }) (v := ?_) rfl (by kernel_rfl) (by kernel_rfl) (by kernel_rfl) (fun _ _ _ h => h) (Or.inl ⟨by rfl, ?_⟩) (by assumption) ?_
      rotate_left
      focus (intro w hSw; (try dsimp only at hSw); go_simp <;> with_reducible rfl)
      try simp only [Act.put, List.setIfInBounds_toArray, List.set_cons_zero, List.set_cons_succ]
      refine wpAnyH_take (i := 11) (oi := { dst := some 71, op := Op.binOp BinOp.eql 9 (Operand.tmp 64) (Operand.tmp 70) 9, type := 4, pos := "law.go:53", after := #[{ on := 4, ground := Ground.data }, { on := 10, ground := Ground.data }, { on := 2, ground := Ground.guard }], guard := some (2, true) }) (v := ?_) rfl (by kernel_rfl) (by kernel_rfl) (by kernel_rfl) (fun _ _ _ h => h) (Or.inl ⟨by rfl, ?_⟩) (by assumption) ?_
      rotate_left
      focus (intro w hSw; (try dsimp only at hSw); go_simp <;> with_reducible rfl)
      try simp only [Act.put, List.setIfInBounds_toArray, List.set_cons_zero, List.set_cons_succ]
      refine wpAnyH_take (i := 12) (oi := { dst := some 72, op := Op.pick (Operand.tmp 62) (Operand.tmp 71) (Operand.const (Value.bool false)), type := 4, pos := "law.go:53", after := #[{ on := 2, ground := Ground.data }, { on := 11, ground := Ground.data }], guard := none }) (v := ?_) rfl (by kernel_rfl) (by kernel_rfl) (by kernel_rfl) (fun _ _ _ h => h) (Or.inl ⟨by rfl, ?_⟩) (by assumption) ?_
      rotate_left
      focus (intro w hSw; (try dsimp only at hSw); go_simp <;> with_reducible rfl)
      try simp only [Act.put, List.setIfInBounds_toArray, List.set_cons_zero, List.set_cons_succ]
      refine wpAnyH_take (i := 13) (oi := { dst := some 73, op := Op.move (Operand.tmp 72), type := 4, pos := "law.go:53", after := #[{ on := 12, ground := Ground.data }, { on := 2, ground := Ground.chain }], guard := none }) (v := ?_) rfl (by kernel_rfl) (by kernel_rfl) (by kernel_rfl) (fun _ _ _ h => h) (Or.inl ⟨by rfl, ?_⟩) (by assumption) ?_
      rotate_left
      focus (intro w hSw; (try dsimp only at hSw); go_simp <;> with_reducible rfl)
      try simp only [Act.put, List.setIfInBounds_toArray, List.set_cons_zero, List.set_cons_succ]
      refine wpAnyH_ready (rs := [14]) (by kernel_rfl) (by simp) ?_
      refine AllReadyH.cons (o := { dst := some 74, op := Op.call { callee := Callee.value (Operand.func 13), args := #[], argTypes := #[] }, type := 4, pos := "law.go:53", after := #[{ on := 13, ground := Ground.chain }, { on := 13, ground := Ground.guard }], guard := some (13, true) }) rfl (fun K hK => ?_) AllReadyH.nil
      go_simp
      refine (works_at _).mono ?_
      rintro e y5 ⟨rfl, hK5⟩
      go_wp2_with fail
      have hF := Lib.hid (Keep.below (hHeld.1.trans hK5) (Nat.le_refl _) (by simp))
      have hz := Lib.hid (hHeld.1.trans hK5)
      refine shut_grow (fun x => x = y5) hK (fun _ h => by rw [h]; exact ⟨hz.out, str_of (HY.out.2.keep0 (((Keep.refl [] y4).drew).trans hK5)) rfl, str_of (HM.out.keep0 hz.out) rfl⟩) rfl (fun hHeld => ?_)
      clear hK K
      refine wpAnyH_take (i := 15) (oi := { dst := some 75, op := Op.pick (Operand.tmp 73) (Operand.tmp 74) (Operand.const (Value.bool false)), type := 4, pos := "law.go:53", after := #[{ on := 13, ground := Ground.data }, { on := 14, ground := Ground.data }], guard := none }) (v := ?_) rfl (by kernel_rfl) (by kernel_rfl) (by kernel_rfl) (fun _ _ _ h => h) (Or.inl ⟨by rfl, ?_⟩) (by assumption) ?_
      rotate_left
      focus (intro w hSw; (try dsimp only at hSw); go_simp <;> with_reducible rfl)
      try simp only [Act.put, List.setIfInBounds_toArray, List.set_cons_zero, List.set_cons_succ]
      refine wpAnyH_take (i := 16) (oi := { dst := some 2, op := Op.assign (Operand.tmp 75), type := 4, pos := "law.go:53", after := #[{ on := 15, ground := Ground.data }, { on := 14, ground := Ground.chain }, { on := 0, ground := Ground.phase }, { on := 1, ground := Ground.phase }, { on := 2, ground := Ground.phase }, { on := 3, ground := Ground.phase }, { on := 4, ground := Ground.phase }, { on := 5, ground := Ground.phase }, { on := 6, ground := Ground.phase }, { on := 7, ground := Ground.phase }, { on := 8, ground := Ground.phase }, { on := 9, ground := Ground.phase }, { on := 10, ground := Ground.phase }, { on := 11, ground := Ground.phase }, { on := 12, ground := Ground.phase }, { on := 13, ground := Ground.phase }, { on := 14, ground := Ground.phase }, { on := 15, ground := Ground.phase }], guard := none }) (v := ?_) rfl (by kernel_rfl) (by kernel_rfl) (by kernel_rfl) (fun _ _ _ h => h) (Or.inl ⟨by rfl, ?_⟩) (by assumption) ?_
      rotate_left
      focus (intro w hSw; (try dsimp only at hSw); go_simp <;> with_reducible rfl)
      try simp only [Act.put, List.setIfInBounds_toArray, List.set_cons_zero, List.set_cons_succ]
      refine wpAnyH_done (by kernel_rfl) ?_ _
      go_wp2_with fail
      go_ret
      exact ⟨rfl, hF.out⟩
    · rw [if_neg hs] at ho
      rw [ho] at C
      have HE := Lib.hid (strs_differ hsb.out HL.out.1.bytes hs)
      clear hs ho
      go_wp2_with fail
      refine (C.out _ hk2.out).mono ?_
      rintro e y3 ⟨a3, c3, rfl, hR3, hK3⟩
      have HX : Hid (Keep [] w y3 ∧ Row y3 a3 c3 []) := Lib.hid ⟨hk2.out.trans hK3, hR3⟩
      clear hR3 hK3 C hk2
      go_wp2_with fail
      skip
      refine wp_region_held_drew (S := fun x => Keep [] y3 x ∧ (convert 22 9 (.slice (some ⟨b, off, none⟩) L.length cap0)).run Try.prog x = .ok (.string (strOfNums L)) x) (by kernel_rfl) ⟨(Keep.refl _ _).drew, str_of (HL.out.1.keep0 (HX.out.1.drew)) rfl⟩ (fun hHeld => ?_)
      refine wpAnyH_take (i := 0) (oi := { dst := some 50, op := Op.move (Operand.tmp 0), type := 22, pos := "law.go:52", after := #[], guard := none }) (v := ?_) rfl (by kernel_rfl) (by kernel_rfl) (by kernel_rfl) (fun _ _ _ h => h) (Or.inl ⟨by rfl, ?_⟩) (by assumption) ?_
      rotate_left
      focus (intro w hSw; (try dsimp only at hSw); go_simp <;> with_reducible rfl)
      try simp only [Act.put, List.setIfInBounds_toArray, List.set_cons_zero, List.set_cons_succ]
      refine wpAnyH_take (i := 1) (oi := { dst := some 51, op := Op.move (Operand.tmp 0), type := 22, pos := "law.go:52", after := #[], guard := none }) (v := ?_) rfl (by kernel_rfl) (by kernel_rfl) (by kernel_rfl) (fun _ _ _ h => h) (Or.inl ⟨by rfl, ?_⟩) (by assumption) ?_
      rotate_left
      focus (intro w hSw; (try dsimp only at hSw); go_simp <;> with_reducible rfl)
      try simp only [Act.put, List.setIfInBounds_toArray, List.set_cons_zero, List.set_cons_succ]
      refine wpAnyH_take (i := 2) (oi := { dst := some 52, op := Op.call { callee := Callee.builtin Builtin.len, args := #[Operand.tmp 51], argTypes := #[22] }, type := 3, pos := "law.go:52", after := #[{ on := 1, ground := Ground.data }], guard := none }) (v := ?_) rfl (by kernel_rfl) (by kernel_rfl) (by kernel_rfl) (fun _ _ _ h => h) (Or.inl ⟨by rfl, ?_⟩) (by assumption) ?_
      rotate_left
      focus (intro w hSw; (try dsimp only at hSw); go_simp <;> with_reducible rfl)
      try simp only [Act.put, List.setIfInBounds_toArray, List.set_cons_zero, List.set_cons_succ]
      refine wpAnyH_take (i := 3) (oi := { dst := some 53, op := Op.binOp BinOp.sub 3 (Operand.tmp 52) (Operand.const (Value.int IntKind.i64 4)) 3, type := 3, pos := "law.go:52", after := #[{ on := 2, ground := Ground.data }], guard := none }) (v := ?_) rfl (by kernel_rfl) (by kernel_rfl) (by kernel_rfl) (fun _ _ _ h => h) (Or.inl ⟨by rfl, ?_⟩) (by assumption) ?_
      rotate_left
      focus (intro w hSw; (try dsimp only at hSw); go_simp <;> with_reducible rfl)
      try simp only [Act.put, List.setIfInBounds_toArray, List.set_cons_zero, List.set_cons_succ]
      refine wpAnyH_take (i := 4) (oi := { dst := some 54, op := Op.slice 22 (Operand.tmp 50) none (some (Operand.tmp 53)) none, type := 22, pos := "law.go:52", after := #[{ on := 0, ground := Ground.data }, { on := 3, ground := Ground.data }], guard := none }) (v := ?_) rfl (by kernel_rfl) (by kernel_rfl) (by kernel_rfl) (fun _ _ _ h => h) (Or.inl ⟨by rfl, ?_⟩) (by assumption) ?_
      rotate_left
      focus (intro w hSw; (try dsimp only at hSw); go_simp <;> with_reducible rfl)
      try simp only [Act.put, List.setIfInBounds_toArray, List.set_cons_zero, List.set_cons_succ]
      refine wpAnyH_take (i := 7) (oi := { dst := some 57, op := Op.move (Operand.tmp 0), type := 22, pos := "law.go:52", after := #[], guard := none }) (v := ?_) rfl (by kernel_rfl) (by kernel_rfl) (by kernel_rfl) (fun _ _ _ h => h) (Or.inl ⟨by rfl, ?_⟩) (by assumption) ?_
      rotate_left
      focus (intro w hSw; (try dsimp only at hSw); go_simp <;> with_reducible rfl)
      try simp only [Act.put, List.setIfInBounds_toArray, List.set_cons_zero, List.set_cons_succ]
      refine wpAnyH_take (i := 8) (oi := { dst := some 58, op := Op.convert 22 9 (Operand.tmp 57), type := 9, pos := "law.go:52", after := #[{ on := 7, ground := Ground.data }], guard := none }) (v := ?_) rfl (by kernel_rfl) (by kernel_rfl) (by kernel_rfl) (fun _ _ _ h => h) (Or.inl ⟨by rfl, ?_⟩) (by assumption) ?_
      rotate_left
      focus (intro w hSw; (try dsimp only at hSw); go_simp <;> with_reducible rfl)
      try simp only [Act.put, List.setIfInBounds_toArray, List.set_cons_zero, List.set_cons_succ]
      refine wpAnyH_ready (rs := [5]) (by kernel_rfl) (by simp) ?_
      refine AllReadyH.cons (o := { dst := some 55, op := Op.call { callee := Callee.value (Operand.func 23), args := #[Operand.tmp 54], argTypes := #[22] }, type := 22, pos := "law.go:52", after := #[{ on := 4, ground := Ground.data }], guard := none }) rfl (fun K hK => ?_) AllReadyH.nil
      go_simp
      refine (S8.out _ (HX.out.1.trans hHeld.1)).mono ?_
      rintro e y4 ⟨v4, rfl, hO4, hK4⟩
      obtain ⟨b4, c4, rfl, hR4⟩ := hO4.shape
      go_wp2_with fail
      have hq := Lib.hid (And.intro (hHeld.1.trans hK4) (str_of hR4 rfl))
      clear hO4 hR4
      unfold Str at hq
      have hE := HE.out
      refine shut_grow (fun x => x = y4 ∧ (convert 22 9 (.slice b4 (sealL M).length c4)).run Try.prog x = .ok (.string (strOfNums (sealL M))) x ∧ (convert 22 9 (.slice (some ⟨b, off, none⟩) L.length cap0)).run Try.prog x = .ok (.string (strOfNums L)) x) hK (fun x h => ⟨by rw [h.1]; exact hq.out.1, h.2.2⟩) ⟨rfl, hq.out.2, str_of (HL.out.1.keep0 (HX.out.1.trans hq.out.1)) rfl⟩ (fun hHeld => ?_)
      clear hK K
      refine wpAnyH_take (i := 6) (oi := { dst := some 56, op := Op.convert 22 9 (Operand.tmp 55), type := 9, pos := "law.go:52", after := #[{ on := 5, ground := Ground.data }], guard := none }) (v := ?_) rfl (by kernel_rfl) (by kernel_rfl) (by kernel_rfl) (fun _ _ _ h => h) (Or.inl ⟨by rfl, ?_⟩) (by assumption) ?_
      rotate_left
      focus (intro w hSw; (try dsimp only at hSw); go_simp <;> with_reducible rfl)
      try simp only [Act.put, List.setIfInBounds_toArray, List.set_cons_zero, List.set_cons_succ]
      refine wpAnyH_take (i := 9) (oi := { dst := some 59, op := Op.binOp BinOp.eql 9 (Operand.tmp 56) (Operand.tmp 58) 9, type := 4, pos := "law.go:52", after := #[{ on := 6, ground := Ground.data }, { on := 8, ground := Ground.data }], guard := none }) (v := ?_) rfl (by kernel_rfl) (by kernel_rfl) (by kernel_rfl) (fun _ _ _ h => h) (Or.inl ⟨by rfl, ?_⟩) (by assumption) ?_
      rotate_left
      focus (intro w hSw; (try dsimp only at hSw); go_simp <;> with_reducible rfl)
      try simp only [Act.put, List.setIfInBounds_toArray, List.set_cons_zero, List.set_cons_succ]
      refine wpAnyH_done (by kernel_rfl) ?_ _
      have HY : Hid (Keep [] w y4 ∧ Row y4 a3 c3 []) := Lib.hid ⟨HX.out.1.trans hq.out.1, HX.out.2.keep0 hq.out.1⟩
      clear hHeld hq HX hK4
      go_wp2_with fail
      refine (works_at _).mono ?_
      rintro e y5 ⟨rfl, hK5⟩
      have hF := Lib.hid (Keep.below (HY.out.1.trans hK5) (Nat.le_refl _) (by simp))
      clear hK5
      go_wp2_with fail
      go_ret
      exact ⟨rfl, hF.out⟩
end Go.Proofs.Ytffpccijmgjofaa
