/- The law SpacesNone, walked. -/
import Derived.BigQuiet
import Derived.Outline
import Derived.Test.YtpinoejckagjbaaM49
namespace Go.Proofs.Ytpinoejckagjbaa
open Go.RowKit Go.Mum
set_option linter.unusedVariables false
set_option linter.unusedSimpArgs false
set_option maxRecDepth 100000

/-- Spaces that no call made. -/
def spArr0 : Array Value := #[.bool false, .pointer none, .pointer none, .pointer none, .bool false, .bool false, .int .u32 0, .int .u32 0, .pointer none, .bool false, .bool false, .int .u32 0, .int .u32 0, .pointer none, .bool false, .bool false, .int .u32 0, .int .u32 0, .pointer none, .bool false, .bool false, .int .u32 0, .int .u32 0, .pointer none, .bool false, .bool false, .int .u32 0, .int .u32 0, .pointer none, .bool false, .bool false, .int .u32 0, .int .u32 0, .pointer none, .bool false, .bool false, .int .u32 0, .int .u32 0, .pointer none, .bool false, .bool false, .int .u32 0, .int .u32 0, .slice none 0 0, .bool false, .slice none 0 0, .int .i64 0, .int .i64 0]

theorem build_sp0 (w : World) : (Instr.build 102 #[]).run Try.prog w = .ok (.agg spArr0) w := by kernel_rfl

/-- A step's block. -/
def StB (x : World) (b : Nat) (kd : Int) (kp kr : Nat) (u : Bool) (va : Nat) (fr : Int) (bb : Nat) : Prop := x.heap[b]? = some (.cells (stC kd kp kr u va fr bb).toArray 72 (0, 0))

theorem StB.cells {x : World} {b : Nat} {kd : Int} {kp kr : Nat} {u : Bool} {va : Nat} {fr : Int} {bb : Nat} (h : StB x b kd kp kr u va fr bb) : x.cell? ⟨b, 0, none⟩ = some (.int .i64 kd) ∧ x.cell? ⟨b, 1, none⟩ = some (.int .u32 (kp : Nat)) ∧ x.cell? ⟨b, 2, none⟩ = some (.int .u32 (kr : Nat)) ∧ x.cell? ⟨b, 3, none⟩ = some (.bool u) ∧ x.cell? ⟨b, 4, none⟩ = some (.int .u32 (va : Nat)) ∧ x.cell? ⟨b, 5, none⟩ = some (.int .i64 fr) ∧ x.cell? ⟨b, 6, none⟩ = some (.int .u32 (bb : Nat)) :=
  ⟨cell_of h 0 rfl, cell_of h 1 rfl, cell_of h 2 rfl, cell_of h 3 rfl, cell_of h 4 rfl, cell_of h 5 rfl, cell_of h 6 rfl⟩

set_option maxHeartbeats 8000000 in
theorem SpacesNone_walk (c0 : Array Value) (n0 : Nat) (w : World) (w0 : Fits Try.prog w maxLen n0 72 c0.toList) :
    Calls Try.prog 10 #[.agg c0] w fun e w' => e = .returned (.bool true) ∧ Below w.heap.size w w' := by
  obtain ⟨kd, kp, kr, u, va, fr, bb, hc, hok⟩ := step_of_cells w0
  obtain rfl : c0 = (stC kd kp kr u va fr bb).toArray := by rw [← hc]
  clear hc w0
  go_enter Try.func10, Try.ntmps10
  go_wp2_with (refine wpList_build rfl 102 #[] rfl (.agg spArr0) (by exact build_sp0 _) ?_)
  obtain ⟨bs, hbs⟩ : ∃ b, b = w.heap.size := ⟨_, rfl⟩
  rw [← hbs]
  generalize hy : World.alloc (World.alloc (World.alloc w _) _) _ = y2
  have H2 : Hid (StB y2 bs kd kp kr u va fr bb ∧ y2.cell? ⟨bs + 1, 0, none⟩ = some (.bool false) ∧ y2.cell? ⟨bs + 1 + 1, 0, none⟩ = some (.pointer none) ∧ y2.cell? ⟨bs + 1 + 1, 1, none⟩ = some (.pointer (some ⟨bs + 1, 0, none⟩)) ∧ Keep [] w y2 ∧ bs = w.heap.size) := Lib.hid (by
    subst hy
    have k1 : Keep [] (w.alloc (.cells (stC kd kp kr u va fr bb).toArray 72)) ((w.alloc (.cells (stC kd kp kr u va fr bb).toArray 72)).alloc (.cells spArr0 102)) := (Keep.refl _ _).alloc _
    have h3 : (((w.alloc (.cells (stC kd kp kr u va fr bb).toArray 72)).alloc (.cells spArr0 102)).alloc (.cells #[.pointer none, .pointer (some ⟨bs + 1, 0, none⟩)] 75)).heap[bs + 1 + 1]? = some (.cells #[.pointer none, .pointer (some ⟨bs + 1, 0, none⟩)] 75 (0, 0)) := heap_alloc_at _ (by simp; omega)
    have h2 : ((w.alloc (.cells (stC kd kp kr u va fr bb).toArray 72)).alloc (.cells spArr0 102)).heap[bs + 1]? = some (.cells spArr0 102 (0, 0)) := heap_alloc_at _ (by simp; omega)
    exact ⟨(((Keep.refl [] _).alloc _).alloc _).heap (heap_alloc_at _ hbs) (by simp), ((Keep.refl [] _).alloc _).cell (cell_of h2 0 rfl) (by simp), cell_of h3 0 rfl, cell_of h3 1 rfl, ((Keep.refl [] w).alloc _ |>.alloc _ |>.alloc _), hbs⟩)
  clear hy hbs
  go_loopw [5, 6, 7] (fun kv av bv wr => ∃ (k : Nat) (a b : Value), kv = .int .i64 k ∧ av = a ∧ bv = b ∧ k ≤ 2 ∧ Hid (Keep [] y2 wr)) (fun kv _ _ _ => 2 - (intOf kv).toNat)
  case atStart => exact ⟨0, _, _, rfl, rfl, rfl, by omega, Lib.hid (Keep.refl _ _)⟩
  case round =>
    obtain ⟨k, a, b, rfl, rfl, rfl, hk, HK⟩ := hrel
    rename World => wo
    by_cases hk2 : k < 2
    · obtain ⟨v, hv, hN⟩ : ∃ v, y2.cell? ⟨bs + 1 + 1, k, none⟩ = some v ∧ NoSp y2 v := by
        rcases (by omega : k = 0 ∨ k = 1) with rfl | rfl
        · exact ⟨_, H2.out.2.2.1, .inl rfl⟩
        · exact ⟨_, H2.out.2.2.2.1, .inr ⟨_, rfl, H2.out.2.1⟩⟩
      have hvw := HK.out.cell hv (by simp)
      have HN := Lib.hid (fun z (hz : Keep [] y2 z) => hN.keep hz)
      have hk0 : (0 : Int) ≤ (k : Int) := by omega
      have hk3 : (k : Int) < 2 := by omega
      have HL := Lib.hid hk2
      clear hk hk2 hN
      go_wp2_with fail
      refine (clear_no (HN.out _ HK.out)).mono ?_
      rintro e z ⟨⟨u0, rfl⟩, rfl⟩
      go_wp2_with fail
      refine (counts_no (HN.out _ HK.out)).mono ?_
      rintro e z ⟨rfl, rfl⟩
      obtain ⟨-, s1, s2, s3, s4, s5, s6⟩ := H2.out.1.cells
      have t1 := HK.out.cell s1 (by simp)
      have t2 := HK.out.cell s2 (by simp)
      have t3 := HK.out.cell s3 (by simp)
      have t4 := HK.out.cell s4 (by simp)
      have t5 := HK.out.cell s5 (by simp)
      have t6 := HK.out.cell s6 (by simp)
      go_wp2_with fail
      refine wp_region_held_drew (S := fun z => (z.cell? ⟨bs + 1 + 1, k, none⟩ = some v ∧ z.cell? ⟨bs, 1, none⟩ = some (.int .u32 (kp : Nat)) ∧ z.cell? ⟨bs, 2, none⟩ = some (.int .u32 (kr : Nat)) ∧ z.cell? ⟨bs, 3, none⟩ = some (.bool u) ∧ z.cell? ⟨bs, 4, none⟩ = some (.int .u32 (va : Nat)) ∧ z.cell? ⟨bs, 5, none⟩ = some (.int .i64 fr) ∧ z.cell? ⟨bs, 6, none⟩ = some (.int .u32 (bb : Nat))) ∧ Keep [] y2 z) (by kernel_rfl) ⟨⟨hvw, t1, t2, t3, t4, t5, t6⟩, HK.out.drew⟩ (fun hHeld => ?_)
      skip
      generalize World.drew wo = wd at hHeld ⊢
      clear t1 t2 t3 t4 t5 t6 hvw HK
      refine wpAnyH_take (i := 0) (oi := { dst := some 39, op := Op.move (Operand.tmp 4), type := 103, pos := "law.go:224", after := #[], guard := none }) (v := ?_) rfl (by kernel_rfl) (by kernel_rfl) (by kernel_rfl) (fun _ _ _ h => h) (Or.inl ⟨by rfl, ?_⟩) (by assumption) ?_
      rotate_left
      focus (intro w hSw; (try dsimp only at hSw); go_simp <;> with_reducible rfl)
      try simp only [Act.put, List.setIfInBounds_toArray, List.set_cons_zero, List.set_cons_succ]
      refine wpAnyH_take (i := 1) (oi := { dst := some 40, op := Op.move (Operand.tmp 5), type := 3, pos := "law.go:224", after := #[], guard := none }) (v := ?_) rfl (by kernel_rfl) (by kernel_rfl) (by kernel_rfl) (fun _ _ _ h => h) (Or.inl ⟨by rfl, ?_⟩) (by assumption) ?_
      rotate_left
      focus (intro w hSw; (try dsimp only at hSw); go_simp <;> with_reducible rfl)
      try simp only [Act.put, List.setIfInBounds_toArray, List.set_cons_zero, List.set_cons_succ]
      refine wpAnyH_take (i := 2) (oi := { dst := some 41, op := Op.indexAddr 103 (Operand.tmp 39) (Operand.tmp 40), type := 0, pos := "law.go:224", after := #[{ on := 0, ground := Ground.data }, { on := 1, ground := Ground.data }], guard := none }) (v := ?_) rfl (by kernel_rfl) (by kernel_rfl) (by kernel_rfl) (fun _ _ _ h => h) (Or.inl ⟨by rfl, ?_⟩) (by assumption) ?_
      rotate_left
      focus (intro w hSw; (try dsimp only at hSw); go_simp <;> with_reducible rfl)
      try simp only [Act.put, List.setIfInBounds_toArray, List.set_cons_zero, List.set_cons_succ]
      refine wpAnyH_take (i := 3) (oi := { dst := some 42, op := Op.load 75 (Operand.tmp 41), type := 75, pos := "law.go:224", after := #[{ on := 2, ground := Ground.data }], guard := none }) (v := ?_) rfl (by kernel_rfl) (by kernel_rfl) (by kernel_rfl) (fun _ _ _ h => h) (Or.inl ⟨by rfl, ?_⟩) (by assumption) ?_
      rotate_left
      focus (intro w hSw; (try dsimp only at hSw); go_simp <;> with_reducible rfl)
      try simp only [Act.put, List.setIfInBounds_toArray, List.set_cons_zero, List.set_cons_succ]
      refine wpAnyH_take (i := 4) (oi := { dst := some 43, op := Op.fieldAddr 72 (Operand.tmp 1) 1, type := 0, pos := "law.go:224", after := #[], guard := none }) (v := ?_) rfl (by kernel_rfl) (by kernel_rfl) (by kernel_rfl) (fun _ _ _ h => h) (Or.inl ⟨by rfl, ?_⟩) (by assumption) ?_
      rotate_left
      focus (intro w hSw; (try dsimp only at hSw); go_simp <;> with_reducible rfl)
      try simp only [Act.put, List.setIfInBounds_toArray, List.set_cons_zero, List.set_cons_succ]
      refine wpAnyH_take (i := 5) (oi := { dst := some 44, op := Op.load 70 (Operand.tmp 43), type := 70, pos := "law.go:224", after := #[{ on := 4, ground := Ground.data }], guard := none }) (v := ?_) rfl (by kernel_rfl) (by kernel_rfl) (by kernel_rfl) (fun _ _ _ h => h) (Or.inl ⟨by rfl, ?_⟩) (by assumption) ?_
      rotate_left
      focus (intro w hSw; (try dsimp only at hSw); go_simp <;> with_reducible rfl)
      try simp only [Act.put, List.setIfInBounds_toArray, List.set_cons_zero, List.set_cons_succ]
      refine wpAnyH_take (i := 6) (oi := { dst := some 45, op := Op.fieldAddr 72 (Operand.tmp 1) 2, type := 0, pos := "law.go:224", after := #[], guard := none }) (v := ?_) rfl (by kernel_rfl) (by kernel_rfl) (by kernel_rfl) (fun _ _ _ h => h) (Or.inl ⟨by rfl, ?_⟩) (by assumption) ?_
      rotate_left
      focus (intro w hSw; (try dsimp only at hSw); go_simp <;> with_reducible rfl)
      try simp only [Act.put, List.setIfInBounds_toArray, List.set_cons_zero, List.set_cons_succ]
      refine wpAnyH_take (i := 7) (oi := { dst := some 46, op := Op.load 4 (Operand.tmp 45), type := 4, pos := "law.go:224", after := #[{ on := 6, ground := Ground.data }], guard := none }) (v := ?_) rfl (by kernel_rfl) (by kernel_rfl) (by kernel_rfl) (fun _ _ _ h => h) (Or.inl ⟨by rfl, ?_⟩) (by assumption) ?_
      rotate_left
      focus (intro w hSw; (try dsimp only at hSw); go_simp <;> with_reducible rfl)
      try simp only [Act.put, List.setIfInBounds_toArray, List.set_cons_zero, List.set_cons_succ]
      refine wpAnyH_ready (rs := [8]) (by kernel_rfl) (by simp) ?_
      refine AllReadyH.cons (o := { dst := some 47, op := Op.call { callee := Callee.value (Operand.func 31), args := #[Operand.tmp 42, Operand.tmp 44, Operand.tmp 46], argTypes := #[75, 70, 4] }, type := 4, pos := "law.go:224", after := #[{ on := 3, ground := Ground.data }, { on := 5, ground := Ground.data }, { on := 7, ground := Ground.data }], guard := none }) rfl (fun K hK => ?_) AllReadyH.nil
      go_simp
      refine (select_no (HN.out _ hHeld.2) kp kr u).mono ?_
      rintro e z ⟨rfl, hz⟩
      have hkz : Keep [] y2 z := hHeld.2.trans hz
      clear hz
      go_wp2_with fail
      refine shut_grow (fun z => (z.cell? ⟨bs + 1 + 1, k, none⟩ = some v ∧ z.cell? ⟨bs, 1, none⟩ = some (.int .u32 (kp : Nat)) ∧ z.cell? ⟨bs, 2, none⟩ = some (.int .u32 (kr : Nat)) ∧ z.cell? ⟨bs, 3, none⟩ = some (.bool u) ∧ z.cell? ⟨bs, 4, none⟩ = some (.int .u32 (va : Nat)) ∧ z.cell? ⟨bs, 5, none⟩ = some (.int .i64 fr) ∧ z.cell? ⟨bs, 6, none⟩ = some (.int .u32 (bb : Nat))) ∧ Keep [] y2 z) hK (fun _ h => h) ⟨⟨hkz.cell hv (by simp), hkz.cell s1 (by simp), hkz.cell s2 (by simp), hkz.cell s3 (by simp), hkz.cell s4 (by simp), hkz.cell s5 (by simp), hkz.cell s6 (by simp)⟩, hkz⟩ (fun hHeld => ?_)
      clear hK K hkz
      refine wpAnyH_take (i := 9) (oi := { dst := some 48, op := Op.move (Operand.tmp 47), type := 4, pos := "law.go:224", after := #[{ on := 8, ground := Ground.data }, { on := 8, ground := Ground.chain }], guard := none }) (v := ?_) rfl (by kernel_rfl) (by kernel_rfl) (by kernel_rfl) (fun _ _ _ h => h) (Or.inl ⟨by rfl, ?_⟩) (by assumption) ?_
      rotate_left
      focus (intro w hSw; (try dsimp only at hSw); go_simp <;> with_reducible rfl)
      try simp only [Act.put, List.setIfInBounds_toArray, List.set_cons_zero, List.set_cons_succ]
      refine wpAnyH_take (i := 10) (oi := { dst := some 49, op := Op.move (Operand.tmp 4), type := 103, pos := "law.go:224", after := #[{ on := 9, ground := Ground.guard }], guard := some (9, false) }) (v := ?_) rfl (by kernel_rfl) (by kernel_rfl) (by kernel_rfl) (fun _ _ _ h => h) (Or.inl ⟨by rfl, ?_⟩) (by assumption) ?_
      rotate_left
      focus (intro w hSw; (try dsimp only at hSw); go_simp <;> with_reducible rfl)
      try simp only [Act.put, List.setIfInBounds_toArray, List.set_cons_zero, List.set_cons_succ]
      refine wpAnyH_take (i := 11) (oi := { dst := some 50, op := Op.move (Operand.tmp 5), type := 3, pos := "law.go:224", after := #[{ on := 9, ground := Ground.guard }], guard := some (9, false) }) (v := ?_) rfl (by kernel_rfl) (by kernel_rfl) (by kernel_rfl) (fun _ _ _ h => h) (Or.inl ⟨by rfl, ?_⟩) (by assumption) ?_
      rotate_left
      focus (intro w hSw; (try dsimp only at hSw); go_simp <;> with_reducible rfl)
      try simp only [Act.put, List.setIfInBounds_toArray, List.set_cons_zero, List.set_cons_succ]
      refine wpAnyH_take (i := 12) (oi := { dst := some 51, op := Op.indexAddr 103 (Operand.tmp 49) (Operand.tmp 50), type := 0, pos := "law.go:224", after := #[{ on := 10, ground := Ground.data }, { on := 11, ground := Ground.data }, { on := 9, ground := Ground.guard }], guard := some (9, false) }) (v := ?_) rfl (by kernel_rfl) (by kernel_rfl) (by kernel_rfl) (fun _ _ _ h => h) (Or.inl ⟨by rfl, ?_⟩) (by assumption) ?_
      rotate_left
      focus (intro w hSw; (try dsimp only at hSw); go_simp <;> with_reducible rfl)
      try simp only [Act.put, List.setIfInBounds_toArray, List.set_cons_zero, List.set_cons_succ]
      refine wpAnyH_take (i := 13) (oi := { dst := some 52, op := Op.load 75 (Operand.tmp 51), type := 75, pos := "law.go:224", after := #[{ on := 12, ground := Ground.data }, { on := 9, ground := Ground.guard }], guard := some (9, false) }) (v := ?_) rfl (by kernel_rfl) (by kernel_rfl) (by kernel_rfl) (fun _ _ _ h => h) (Or.inl ⟨by rfl, ?_⟩) (by assumption) ?_
      rotate_left
      focus (intro w hSw; (try dsimp only at hSw); go_simp <;> with_reducible rfl)
      try simp only [Act.put, List.setIfInBounds_toArray, List.set_cons_zero, List.set_cons_succ]
      refine wpAnyH_ready (rs := [14]) (by kernel_rfl) (by simp) ?_
      refine AllReadyH.cons (o := { dst := some 53, op := Op.call { callee := Callee.value (Operand.func 33), args := #[Operand.tmp 52], argTypes := #[75] }, type := 22, pos := "law.go:224", after := #[{ on := 13, ground := Ground.data }, { on := 9, ground := Ground.chain }, { on := 9, ground := Ground.guard }], guard := some (9, false) }) rfl (fun K hK => ?_) AllReadyH.nil
      go_simp
      refine (root_no (HN.out _ hHeld.2)).mono ?_
      rintro e z ⟨rfl, hz⟩
      have hkz : Keep [] y2 z := by rw [← hz]; exact hHeld.2
      clear hz
      go_wp2_with fail
      refine shut_grow (fun z => (z.cell? ⟨bs + 1 + 1, k, none⟩ = some v ∧ z.cell? ⟨bs, 1, none⟩ = some (.int .u32 (kp : Nat)) ∧ z.cell? ⟨bs, 2, none⟩ = some (.int .u32 (kr : Nat)) ∧ z.cell? ⟨bs, 3, none⟩ = some (.bool u) ∧ z.cell? ⟨bs, 4, none⟩ = some (.int .u32 (va : Nat)) ∧ z.cell? ⟨bs, 5, none⟩ = some (.int .i64 fr) ∧ z.cell? ⟨bs, 6, none⟩ = some (.int .u32 (bb : Nat))) ∧ Keep [] y2 z) hK (fun _ h => h) ⟨⟨hkz.cell hv (by simp), hkz.cell s1 (by simp), hkz.cell s2 (by simp), hkz.cell s3 (by simp), hkz.cell s4 (by simp), hkz.cell s5 (by simp), hkz.cell s6 (by simp)⟩, hkz⟩ (fun hHeld => ?_)
      clear hK K hkz
      refine wpAnyH_take (i := 15) (oi := { dst := some 54, op := Op.binOp BinOp.neq 22 (Operand.tmp 53) (Operand.const (Value.int IntKind.u32 0)) 22, type := 4, pos := "law.go:224", after := #[{ on := 14, ground := Ground.data }, { on := 9, ground := Ground.guard }], guard := some (9, false) }) (v := ?_) rfl (by kernel_rfl) (by kernel_rfl) (by kernel_rfl) (fun _ _ _ h => h) (Or.inl ⟨by rfl, ?_⟩) (by assumption) ?_
      rotate_left
      focus (intro w hSw; (try dsimp only at hSw); go_simp <;> with_reducible rfl)
      try simp only [Act.put, List.setIfInBounds_toArray, List.set_cons_zero, List.set_cons_succ]
      refine wpAnyH_take (i := 16) (oi := { dst := some 55, op := Op.pick (Operand.tmp 48) (Operand.const (Value.bool true)) (Operand.tmp 54), type := 4, pos := "law.go:224", after := #[{ on := 9, ground := Ground.data }, { on := 15, ground := Ground.data }], guard := none }) (v := ?_) rfl (by kernel_rfl) (by kernel_rfl) (by kernel_rfl) (fun _ _ _ h => h) (Or.inl ⟨by rfl, ?_⟩) (by assumption) ?_
      rotate_left
      focus (intro w hSw; (try dsimp only at hSw); go_simp <;> with_reducible rfl)
      try simp only [Act.put, List.setIfInBounds_toArray, List.set_cons_zero, List.set_cons_succ]
      refine wpAnyH_take (i := 17) (oi := { dst := some 56, op := Op.move (Operand.tmp 55), type := 4, pos := "law.go:224", after := #[{ on := 16, ground := Ground.data }, { on := 14, ground := Ground.chain }], guard := none }) (v := ?_) rfl (by kernel_rfl) (by kernel_rfl) (by kernel_rfl) (fun _ _ _ h => h) (Or.inl ⟨by rfl, ?_⟩) (by assumption) ?_
      rotate_left
      focus (intro w hSw; (try dsimp only at hSw); go_simp <;> with_reducible rfl)
      try simp only [Act.put, List.setIfInBounds_toArray, List.set_cons_zero, List.set_cons_succ]
      refine wpAnyH_take (i := 18) (oi := { dst := some 57, op := Op.move (Operand.tmp 4), type := 103, pos := "law.go:224", after := #[{ on := 17, ground := Ground.guard }], guard := some (17, false) }) (v := ?_) rfl (by kernel_rfl) (by kernel_rfl) (by kernel_rfl) (fun _ _ _ h => h) (Or.inl ⟨by rfl, ?_⟩) (by assumption) ?_
      rotate_left
      focus (intro w hSw; (try dsimp only at hSw); go_simp <;> with_reducible rfl)
      try simp only [Act.put, List.setIfInBounds_toArray, List.set_cons_zero, List.set_cons_succ]
      refine wpAnyH_take (i := 19) (oi := { dst := some 58, op := Op.move (Operand.tmp 5), type := 3, pos := "law.go:224", after := #[{ on := 17, ground := Ground.guard }], guard := some (17, false) }) (v := ?_) rfl (by kernel_rfl) (by kernel_rfl) (by kernel_rfl) (fun _ _ _ h => h) (Or.inl ⟨by rfl, ?_⟩) (by assumption) ?_
      rotate_left
      focus (intro w hSw; (try dsimp only at hSw); go_simp <;> with_reducible rfl)
      try simp only [Act.put, List.setIfInBounds_toArray, List.set_cons_zero, List.set_cons_succ]
      refine wpAnyH_take (i := 20) (oi := { dst := some 59, op := Op.indexAddr 103 (Operand.tmp 57) (Operand.tmp 58), type := 0, pos := "law.go:224", after := #[{ on := 18, ground := Ground.data }, { on := 19, ground := Ground.data }, { on := 17, ground := Ground.guard }], guard := some (17, false) }) (v := ?_) rfl (by kernel_rfl) (by kernel_rfl) (by kernel_rfl) (fun _ _ _ h => h) (Or.inl ⟨by rfl, ?_⟩) (by assumption) ?_
      rotate_left
      focus (intro w hSw; (try dsimp only at hSw); go_simp <;> with_reducible rfl)
      try simp only [Act.put, List.setIfInBounds_toArray, List.set_cons_zero, List.set_cons_succ]
      refine wpAnyH_take (i := 21) (oi := { dst := some 60, op := Op.load 75 (Operand.tmp 59), type := 75, pos := "law.go:224", after := #[{ on := 20, ground := Ground.data }, { on := 17, ground := Ground.guard }], guard := some (17, false) }) (v := ?_) rfl (by kernel_rfl) (by kernel_rfl) (by kernel_rfl) (fun _ _ _ h => h) (Or.inl ⟨by rfl, ?_⟩) (by assumption) ?_
      rotate_left
      focus (intro w hSw; (try dsimp only at hSw); go_simp <;> with_reducible rfl)
      try simp only [Act.put, List.setIfInBounds_toArray, List.set_cons_zero, List.set_cons_succ]
      refine wpAnyH_take (i := 22) (oi := { dst := some 61, op := Op.fieldAddr 72 (Operand.tmp 1) 3, type := 0, pos := "law.go:224", after := #[{ on := 17, ground := Ground.guard }], guard := some (17, false) }) (v := ?_) rfl (by kernel_rfl) (by kernel_rfl) (by kernel_rfl) (fun _ _ _ h => h) (Or.inl ⟨by rfl, ?_⟩) (by assumption) ?_
      rotate_left
      focus (intro w hSw; (try dsimp only at hSw); go_simp <;> with_reducible rfl)
      try simp only [Act.put, List.setIfInBounds_toArray, List.set_cons_zero, List.set_cons_succ]
      refine wpAnyH_take (i := 23) (oi := { dst := some 62, op := Op.load 22 (Operand.tmp 61), type := 22, pos := "law.go:224", after := #[{ on := 22, ground := Ground.data }, { on := 17, ground := Ground.guard }], guard := some (17, false) }) (v := ?_) rfl (by kernel_rfl) (by kernel_rfl) (by kernel_rfl) (fun _ _ _ h => h) (Or.inl ⟨by rfl, ?_⟩) (by assumption) ?_
      rotate_left
      focus (intro w hSw; (try dsimp only at hSw); go_simp <;> with_reducible rfl)
      try simp only [Act.put, List.setIfInBounds_toArray, List.set_cons_zero, List.set_cons_succ]
      refine wpAnyH_take (i := 24) (oi := { dst := some 63, op := Op.fieldAddr 72 (Operand.tmp 1) 4, type := 0, pos := "law.go:224", after := #[{ on := 17, ground := Ground.guard }], guard := some (17, false) }) (v := ?_) rfl (by kernel_rfl) (by kernel_rfl) (by kernel_rfl) (fun _ _ _ h => h) (Or.inl ⟨by rfl, ?_⟩) (by assumption) ?_
      rotate_left
      focus (intro w hSw; (try dsimp only at hSw); go_simp <;> with_reducible rfl)
      try simp only [Act.put, List.setIfInBounds_toArray, List.set_cons_zero, List.set_cons_succ]
      refine wpAnyH_take (i := 25) (oi := { dst := some 64, op := Op.load 3 (Operand.tmp 63), type := 3, pos := "law.go:224", after := #[{ on := 24, ground := Ground.data }, { on := 17, ground := Ground.guard }], guard := some (17, false) }) (v := ?_) rfl (by kernel_rfl) (by kernel_rfl) (by kernel_rfl) (fun _ _ _ h => h) (Or.inl ⟨by rfl, ?_⟩) (by assumption) ?_
      rotate_left
      focus (intro w hSw; (try dsimp only at hSw); go_simp <;> with_reducible rfl)
      try simp only [Act.put, List.setIfInBounds_toArray, List.set_cons_zero, List.set_cons_succ]
      refine wpAnyH_take (i := 26) (oi := { dst := some 65, op := Op.fieldAddr 72 (Operand.tmp 1) 5, type := 0, pos := "law.go:224", after := #[{ on := 17, ground := Ground.guard }], guard := some (17, false) }) (v := ?_) rfl (by kernel_rfl) (by kernel_rfl) (by kernel_rfl) (fun _ _ _ h => h) (Or.inl ⟨by rfl, ?_⟩) (by assumption) ?_
      rotate_left
      focus (intro w hSw; (try dsimp only at hSw); go_simp <;> with_reducible rfl)
      try simp only [Act.put, List.setIfInBounds_toArray, List.set_cons_zero, List.set_cons_succ]
      refine wpAnyH_take (i := 27) (oi := { dst := some 66, op := Op.load 22 (Operand.tmp 65), type := 22, pos := "law.go:224", after := #[{ on := 26, ground := Ground.data }, { on := 17, ground := Ground.guard }], guard := some (17, false) }) (v := ?_) rfl (by kernel_rfl) (by kernel_rfl) (by kernel_rfl) (fun _ _ _ h => h) (Or.inl ⟨by rfl, ?_⟩) (by assumption) ?_
      rotate_left
      focus (intro w hSw; (try dsimp only at hSw); go_simp <;> with_reducible rfl)
      try simp only [Act.put, List.setIfInBounds_toArray, List.set_cons_zero, List.set_cons_succ]
      refine wpAnyH_ready (rs := [28]) (by kernel_rfl) (by simp) ?_
      refine AllReadyH.cons (o := { dst := some 67, op := Op.call { callee := Callee.value (Operand.func 32), args := #[Operand.tmp 60, Operand.tmp 62, Operand.tmp 64, Operand.tmp 66], argTypes := #[75, 22, 3, 22] }, type := 4, pos := "law.go:224", after := #[{ on := 21, ground := Ground.data }, { on := 23, ground := Ground.data }, { on := 25, ground := Ground.data }, { on := 27, ground := Ground.data }, { on := 17, ground := Ground.chain }, { on := 17, ground := Ground.guard }], guard := some (17, false) }) rfl (fun K hK => ?_) AllReadyH.nil
      go_simp
      refine (put_no (HN.out _ hHeld.2) va fr bb).mono ?_
      rintro e z ⟨rfl, hz⟩
      have hkz : Keep [] y2 z := by rw [← hz]; exact hHeld.2
      clear hz
      go_wp2_with fail
      refine shut_grow (fun z => (z.cell? ⟨bs + 1 + 1, k, none⟩ = some v ∧ z.cell? ⟨bs, 1, none⟩ = some (.int .u32 (kp : Nat)) ∧ z.cell? ⟨bs, 2, none⟩ = some (.int .u32 (kr : Nat)) ∧ z.cell? ⟨bs, 3, none⟩ = some (.bool u) ∧ z.cell? ⟨bs, 4, none⟩ = some (.int .u32 (va : Nat)) ∧ z.cell? ⟨bs, 5, none⟩ = some (.int .i64 fr) ∧ z.cell? ⟨bs, 6, none⟩ = some (.int .u32 (bb : Nat))) ∧ Keep [] y2 z) hK (fun _ h => h) ⟨⟨hkz.cell hv (by simp), hkz.cell s1 (by simp), hkz.cell s2 (by simp), hkz.cell s3 (by simp), hkz.cell s4 (by simp), hkz.cell s5 (by simp), hkz.cell s6 (by simp)⟩, hkz⟩ (fun hHeld => ?_)
      clear hK K hkz
      refine wpAnyH_take (i := 29) (oi := { dst := some 68, op := Op.pick (Operand.tmp 56) (Operand.const (Value.bool true)) (Operand.tmp 67), type := 4, pos := "law.go:224", after := #[{ on := 17, ground := Ground.data }, { on := 28, ground := Ground.data }], guard := none }) (v := ?_) rfl (by kernel_rfl) (by kernel_rfl) (by kernel_rfl) (fun _ _ _ h => h) (Or.inl ⟨by rfl, ?_⟩) (by assumption) ?_
      rotate_left
      focus (intro w hSw; (try dsimp only at hSw); go_simp <;> with_reducible rfl)
      try simp only [Act.put, List.setIfInBounds_toArray, List.set_cons_zero, List.set_cons_succ]
      refine wpAnyH_take (i := 30) (oi := { dst := some 69, op := Op.move (Operand.tmp 68), type := 4, pos := "law.go:224", after := #[{ on := 29, ground := Ground.data }, { on := 28, ground := Ground.chain }], guard := none }) (v := ?_) rfl (by kernel_rfl) (by kernel_rfl) (by kernel_rfl) (fun _ _ _ h => h) (Or.inl ⟨by rfl, ?_⟩) (by assumption) ?_
      rotate_left
      focus (intro w hSw; (try dsimp only at hSw); go_simp <;> with_reducible rfl)
      try simp only [Act.put, List.setIfInBounds_toArray, List.set_cons_zero, List.set_cons_succ]
      refine wpAnyH_take (i := 31) (oi := { dst := some 70, op := Op.move (Operand.tmp 4), type := 103, pos := "law.go:224", after := #[{ on := 30, ground := Ground.guard }], guard := some (30, false) }) (v := ?_) rfl (by kernel_rfl) (by kernel_rfl) (by kernel_rfl) (fun _ _ _ h => h) (Or.inl ⟨by rfl, ?_⟩) (by assumption) ?_
      rotate_left
      focus (intro w hSw; (try dsimp only at hSw); go_simp <;> with_reducible rfl)
      try simp only [Act.put, List.setIfInBounds_toArray, List.set_cons_zero, List.set_cons_succ]
      refine wpAnyH_take (i := 32) (oi := { dst := some 71, op := Op.move (Operand.tmp 5), type := 3, pos := "law.go:224", after := #[{ on := 30, ground := Ground.guard }], guard := some (30, false) }) (v := ?_) rfl (by kernel_rfl) (by kernel_rfl) (by kernel_rfl) (fun _ _ _ h => h) (Or.inl ⟨by rfl, ?_⟩) (by assumption) ?_
      rotate_left
      focus (intro w hSw; (try dsimp only at hSw); go_simp <;> with_reducible rfl)
      try simp only [Act.put, List.setIfInBounds_toArray, List.set_cons_zero, List.set_cons_succ]
      refine wpAnyH_take (i := 33) (oi := { dst := some 72, op := Op.indexAddr 103 (Operand.tmp 70) (Operand.tmp 71), type := 0, pos := "law.go:224", after := #[{ on := 31, ground := Ground.data }, { on := 32, ground := Ground.data }, { on := 30, ground := Ground.guard }], guard := some (30, false) }) (v := ?_) rfl (by kernel_rfl) (by kernel_rfl) (by kernel_rfl) (fun _ _ _ h => h) (Or.inl ⟨by rfl, ?_⟩) (by assumption) ?_
      rotate_left
      focus (intro w hSw; (try dsimp only at hSw); go_simp <;> with_reducible rfl)
      try simp only [Act.put, List.setIfInBounds_toArray, List.set_cons_zero, List.set_cons_succ]
      refine wpAnyH_take (i := 34) (oi := { dst := some 73, op := Op.load 75 (Operand.tmp 72), type := 75, pos := "law.go:224", after := #[{ on := 33, ground := Ground.data }, { on := 30, ground := Ground.guard }], guard := some (30, false) }) (v := ?_) rfl (by kernel_rfl) (by kernel_rfl) (by kernel_rfl) (fun _ _ _ h => h) (Or.inl ⟨by rfl, ?_⟩) (by assumption) ?_
      rotate_left
      focus (intro w hSw; (try dsimp only at hSw); go_simp <;> with_reducible rfl)
      try simp only [Act.put, List.setIfInBounds_toArray, List.set_cons_zero, List.set_cons_succ]
      refine wpAnyH_ready (rs := [35]) (by kernel_rfl) (by simp) ?_
      refine AllReadyH.cons (o := { dst := some 74, op := Op.call { callee := Callee.value (Operand.func 35), args := #[Operand.tmp 73], argTypes := #[75] }, type := 84, pos := "law.go:224", after := #[{ on := 34, ground := Ground.data }, { on := 30, ground := Ground.chain }, { on := 30, ground := Ground.guard }], guard := some (30, false) }) rfl (fun K hK => ?_) AllReadyH.nil
      go_simp
      refine (keys_no (HN.out _ hHeld.2)).mono ?_
      rintro e z ⟨rfl, hz⟩
      have hkz : Keep [] y2 z := hHeld.2.trans hz
      clear hz
      go_wp2_with fail
      refine shut_grow (fun z => (z.cell? ⟨bs + 1 + 1, k, none⟩ = some v ∧ z.cell? ⟨bs, 1, none⟩ = some (.int .u32 (kp : Nat)) ∧ z.cell? ⟨bs, 2, none⟩ = some (.int .u32 (kr : Nat)) ∧ z.cell? ⟨bs, 3, none⟩ = some (.bool u) ∧ z.cell? ⟨bs, 4, none⟩ = some (.int .u32 (va : Nat)) ∧ z.cell? ⟨bs, 5, none⟩ = some (.int .i64 fr) ∧ z.cell? ⟨bs, 6, none⟩ = some (.int .u32 (bb : Nat))) ∧ Keep [] y2 z) hK (fun _ h => h) ⟨⟨hkz.cell hv (by simp), hkz.cell s1 (by simp), hkz.cell s2 (by simp), hkz.cell s3 (by simp), hkz.cell s4 (by simp), hkz.cell s5 (by simp), hkz.cell s6 (by simp)⟩, hkz⟩ (fun hHeld => ?_)
      clear hK K hkz
      refine wpAnyH_take (i := 36) (oi := { dst := some 75, op := Op.call { callee := Callee.builtin Builtin.len, args := #[Operand.tmp 74], argTypes := #[84] }, type := 3, pos := "law.go:224", after := #[{ on := 35, ground := Ground.data }, { on := 30, ground := Ground.guard }], guard := some (30, false) }) (v := ?_) rfl (by kernel_rfl) (by kernel_rfl) (by kernel_rfl) (fun _ _ _ h => h) (Or.inl ⟨by rfl, ?_⟩) (by assumption) ?_
      rotate_left
      focus (intro w hSw; (try dsimp only at hSw); go_simp <;> with_reducible rfl)
      try simp only [Act.put, List.setIfInBounds_toArray, List.set_cons_zero, List.set_cons_succ]
      refine wpAnyH_take (i := 37) (oi := { dst := some 76, op := Op.binOp BinOp.neq 3 (Operand.tmp 75) (Operand.const (Value.int IntKind.i64 0)) 3, type := 4, pos := "law.go:224", after := #[{ on := 36, ground := Ground.data }, { on := 30, ground := Ground.guard }], guard := some (30, false) }) (v := ?_) rfl (by kernel_rfl) (by kernel_rfl) (by kernel_rfl) (fun _ _ _ h => h) (Or.inl ⟨by rfl, ?_⟩) (by assumption) ?_
      rotate_left
      focus (intro w hSw; (try dsimp only at hSw); go_simp <;> with_reducible rfl)
      try simp only [Act.put, List.setIfInBounds_toArray, List.set_cons_zero, List.set_cons_succ]
      refine wpAnyH_take (i := 38) (oi := { dst := some 77, op := Op.pick (Operand.tmp 69) (Operand.const (Value.bool true)) (Operand.tmp 76), type := 4, pos := "law.go:224", after := #[{ on := 30, ground := Ground.data }, { on := 37, ground := Ground.data }], guard := none }) (v := ?_) rfl (by kernel_rfl) (by kernel_rfl) (by kernel_rfl) (fun _ _ _ h => h) (Or.inl ⟨by rfl, ?_⟩) (by assumption) ?_
      rotate_left
      focus (intro w hSw; (try dsimp only at hSw); go_simp <;> with_reducible rfl)
      try simp only [Act.put, List.setIfInBounds_toArray, List.set_cons_zero, List.set_cons_succ]
      refine wpAnyH_take (i := 39) (oi := { dst := some 78, op := Op.move (Operand.tmp 77), type := 4, pos := "law.go:224", after := #[{ on := 38, ground := Ground.data }, { on := 35, ground := Ground.chain }], guard := none }) (v := ?_) rfl (by kernel_rfl) (by kernel_rfl) (by kernel_rfl) (fun _ _ _ h => h) (Or.inl ⟨by rfl, ?_⟩) (by assumption) ?_
      rotate_left
      focus (intro w hSw; (try dsimp only at hSw); go_simp <;> with_reducible rfl)
      try simp only [Act.put, List.setIfInBounds_toArray, List.set_cons_zero, List.set_cons_succ]
      refine wpAnyH_take (i := 40) (oi := { dst := some 79, op := Op.move (Operand.tmp 4), type := 103, pos := "law.go:224", after := #[{ on := 39, ground := Ground.guard }], guard := some (39, false) }) (v := ?_) rfl (by kernel_rfl) (by kernel_rfl) (by kernel_rfl) (fun _ _ _ h => h) (Or.inl ⟨by rfl, ?_⟩) (by assumption) ?_
      rotate_left
      focus (intro w hSw; (try dsimp only at hSw); go_simp <;> with_reducible rfl)
      try simp only [Act.put, List.setIfInBounds_toArray, List.set_cons_zero, List.set_cons_succ]
      refine wpAnyH_take (i := 41) (oi := { dst := some 80, op := Op.move (Operand.tmp 5), type := 3, pos := "law.go:224", after := #[{ on := 39, ground := Ground.guard }], guard := some (39, false) }) (v := ?_) rfl (by kernel_rfl) (by kernel_rfl) (by kernel_rfl) (fun _ _ _ h => h) (Or.inl ⟨by rfl, ?_⟩) (by assumption) ?_
      rotate_left
      focus (intro w hSw; (try dsimp only at hSw); go_simp <;> with_reducible rfl)
      try simp only [Act.put, List.setIfInBounds_toArray, List.set_cons_zero, List.set_cons_succ]
      refine wpAnyH_take (i := 42) (oi := { dst := some 81, op := Op.indexAddr 103 (Operand.tmp 79) (Operand.tmp 80), type := 0, pos := "law.go:224", after := #[{ on := 40, ground := Ground.data }, { on := 41, ground := Ground.data }, { on := 39, ground := Ground.guard }], guard := some (39, false) }) (v := ?_) rfl (by kernel_rfl) (by kernel_rfl) (by kernel_rfl) (fun _ _ _ h => h) (Or.inl ⟨by rfl, ?_⟩) (by assumption) ?_
      rotate_left
      focus (intro w hSw; (try dsimp only at hSw); go_simp <;> with_reducible rfl)
      try simp only [Act.put, List.setIfInBounds_toArray, List.set_cons_zero, List.set_cons_succ]
      refine wpAnyH_take (i := 43) (oi := { dst := some 82, op := Op.load 75 (Operand.tmp 81), type := 75, pos := "law.go:224", after := #[{ on := 42, ground := Ground.data }, { on := 39, ground := Ground.guard }], guard := some (39, false) }) (v := ?_) rfl (by kernel_rfl) (by kernel_rfl) (by kernel_rfl) (fun _ _ _ h => h) (Or.inl ⟨by rfl, ?_⟩) (by assumption) ?_
      rotate_left
      focus (intro w hSw; (try dsimp only at hSw); go_simp <;> with_reducible rfl)
      try simp only [Act.put, List.setIfInBounds_toArray, List.set_cons_zero, List.set_cons_succ]
      refine wpAnyH_ready (rs := [44]) (by kernel_rfl) (by simp) ?_
      refine AllReadyH.cons (o := { dst := some 83, op := Op.call { callee := Callee.value (Operand.func 43), args := #[Operand.tmp 82], argTypes := #[75] }, type := 44, pos := "law.go:224", after := #[{ on := 43, ground := Ground.data }, { on := 39, ground := Ground.chain }, { on := 39, ground := Ground.guard }], guard := some (39, false) }) rfl (fun K hK => ?_) AllReadyH.nil
      go_simp
      refine (pages_no (HN.out _ hHeld.2)).mono ?_
      rintro e z ⟨rfl, hz⟩
      have hkz : Keep [] y2 z := by rw [← hz]; exact hHeld.2
      clear hz
      go_wp2_with fail
      refine shut_grow (fun z => (z.cell? ⟨bs + 1 + 1, k, none⟩ = some v ∧ z.cell? ⟨bs, 1, none⟩ = some (.int .u32 (kp : Nat)) ∧ z.cell? ⟨bs, 2, none⟩ = some (.int .u32 (kr : Nat)) ∧ z.cell? ⟨bs, 3, none⟩ = some (.bool u) ∧ z.cell? ⟨bs, 4, none⟩ = some (.int .u32 (va : Nat)) ∧ z.cell? ⟨bs, 5, none⟩ = some (.int .i64 fr) ∧ z.cell? ⟨bs, 6, none⟩ = some (.int .u32 (bb : Nat))) ∧ Keep [] y2 z) hK (fun _ h => h) ⟨⟨hkz.cell hv (by simp), hkz.cell s1 (by simp), hkz.cell s2 (by simp), hkz.cell s3 (by simp), hkz.cell s4 (by simp), hkz.cell s5 (by simp), hkz.cell s6 (by simp)⟩, hkz⟩ (fun hHeld => ?_)
      clear hK K hkz
      refine wpAnyH_take (i := 45) (oi := { dst := some 84, op := Op.call { callee := Callee.builtin Builtin.len, args := #[Operand.tmp 83], argTypes := #[44] }, type := 3, pos := "law.go:224", after := #[{ on := 44, ground := Ground.data }, { on := 39, ground := Ground.guard }], guard := some (39, false) }) (v := ?_) rfl (by kernel_rfl) (by kernel_rfl) (by kernel_rfl) (fun _ _ _ h => h) (Or.inl ⟨by rfl, ?_⟩) (by assumption) ?_
      rotate_left
      focus (intro w hSw; (try dsimp only at hSw); go_simp <;> with_reducible rfl)
      try simp only [Act.put, List.setIfInBounds_toArray, List.set_cons_zero, List.set_cons_succ]
      refine wpAnyH_take (i := 46) (oi := { dst := some 85, op := Op.binOp BinOp.neq 3 (Operand.tmp 84) (Operand.const (Value.int IntKind.i64 0)) 3, type := 4, pos := "law.go:224", after := #[{ on := 45, ground := Ground.data }, { on := 39, ground := Ground.guard }], guard := some (39, false) }) (v := ?_) rfl (by kernel_rfl) (by kernel_rfl) (by kernel_rfl) (fun _ _ _ h => h) (Or.inl ⟨by rfl, ?_⟩) (by assumption) ?_
      rotate_left
      focus (intro w hSw; (try dsimp only at hSw); go_simp <;> with_reducible rfl)
      try simp only [Act.put, List.setIfInBounds_toArray, List.set_cons_zero, List.set_cons_succ]
      refine wpAnyH_take (i := 47) (oi := { dst := some 86, op := Op.pick (Operand.tmp 78) (Operand.const (Value.bool true)) (Operand.tmp 85), type := 4, pos := "law.go:224", after := #[{ on := 39, ground := Ground.data }, { on := 46, ground := Ground.data }], guard := none }) (v := ?_) rfl (by kernel_rfl) (by kernel_rfl) (by kernel_rfl) (fun _ _ _ h => h) (Or.inl ⟨by rfl, ?_⟩) (by assumption) ?_
      rotate_left
      focus (intro w hSw; (try dsimp only at hSw); go_simp <;> with_reducible rfl)
      try simp only [Act.put, List.setIfInBounds_toArray, List.set_cons_zero, List.set_cons_succ]
      refine wpAnyH_take (i := 48) (oi := { dst := some 87, op := Op.move (Operand.tmp 86), type := 4, pos := "law.go:224", after := #[{ on := 47, ground := Ground.data }, { on := 44, ground := Ground.chain }], guard := none }) (v := ?_) rfl (by kernel_rfl) (by kernel_rfl) (by kernel_rfl) (fun _ _ _ h => h) (Or.inl ⟨by rfl, ?_⟩) (by assumption) ?_
      rotate_left
      focus (intro w hSw; (try dsimp only at hSw); go_simp <;> with_reducible rfl)
      try simp only [Act.put, List.setIfInBounds_toArray, List.set_cons_zero, List.set_cons_succ]
      refine wpAnyH_take (i := 49) (oi := { dst := some 88, op := Op.move (Operand.tmp 6), type := 3, pos := "law.go:224", after := #[{ on := 48, ground := Ground.guard }], guard := some (48, false) }) (v := ?_) rfl (by kernel_rfl) (by kernel_rfl) (by kernel_rfl) (fun _ _ _ h => h) (Or.inl ⟨by rfl, ?_⟩) (by assumption) ?_
      rotate_left
      focus (intro w hSw; (try dsimp only at hSw); go_simp <;> with_reducible rfl)
      try simp only [Act.put, List.setIfInBounds_toArray, List.set_cons_zero, List.set_cons_succ]
      refine wpAnyH_take (i := 50) (oi := { dst := some 89, op := Op.binOp BinOp.neq 3 (Operand.tmp 88) (Operand.const (Value.int IntKind.i64 0)) 3, type := 4, pos := "law.go:224", after := #[{ on := 49, ground := Ground.data }, { on := 48, ground := Ground.guard }], guard := some (48, false) }) (v := ?_) rfl (by kernel_rfl) (by kernel_rfl) (by kernel_rfl) (fun _ _ _ h => h) (Or.inl ⟨by rfl, ?_⟩) (by assumption) ?_
      rotate_left
      focus (intro w hSw; (try dsimp only at hSw); go_simp <;> with_reducible rfl)
      try simp only [Act.put, List.setIfInBounds_toArray, List.set_cons_zero, List.set_cons_succ]
      refine wpAnyH_take (i := 51) (oi := { dst := some 90, op := Op.pick (Operand.tmp 87) (Operand.const (Value.bool true)) (Operand.tmp 89), type := 4, pos := "law.go:224", after := #[{ on := 48, ground := Ground.data }, { on := 50, ground := Ground.data }], guard := none }) (v := ?_) rfl (by kernel_rfl) (by kernel_rfl) (by kernel_rfl) (fun _ _ _ h => h) (Or.inl ⟨by rfl, ?_⟩) (by assumption) ?_
      rotate_left
      focus (intro w hSw; (try dsimp only at hSw); go_simp <;> with_reducible rfl)
      try simp only [Act.put, List.setIfInBounds_toArray, List.set_cons_zero, List.set_cons_succ]
      refine wpAnyH_take (i := 52) (oi := { dst := some 91, op := Op.move (Operand.tmp 90), type := 4, pos := "law.go:224", after := #[{ on := 51, ground := Ground.data }, { on := 48, ground := Ground.chain }], guard := none }) (v := ?_) rfl (by kernel_rfl) (by kernel_rfl) (by kernel_rfl) (fun _ _ _ h => h) (Or.inl ⟨by rfl, ?_⟩) (by assumption) ?_
      rotate_left
      focus (intro w hSw; (try dsimp only at hSw); go_simp <;> with_reducible rfl)
      try simp only [Act.put, List.setIfInBounds_toArray, List.set_cons_zero, List.set_cons_succ]
      refine wpAnyH_take (i := 53) (oi := { dst := some 92, op := Op.move (Operand.tmp 7), type := 3, pos := "law.go:224", after := #[{ on := 52, ground := Ground.guard }], guard := some (52, false) }) (v := ?_) rfl (by kernel_rfl) (by kernel_rfl) (by kernel_rfl) (fun _ _ _ h => h) (Or.inl ⟨by rfl, ?_⟩) (by assumption) ?_
      rotate_left
      focus (intro w hSw; (try dsimp only at hSw); go_simp <;> with_reducible rfl)
      try simp only [Act.put, List.setIfInBounds_toArray, List.set_cons_zero, List.set_cons_succ]
      refine wpAnyH_take (i := 54) (oi := { dst := some 93, op := Op.binOp BinOp.neq 3 (Operand.tmp 92) (Operand.const (Value.int IntKind.i64 0)) 3, type := 4, pos := "law.go:224", after := #[{ on := 53, ground := Ground.data }, { on := 52, ground := Ground.guard }], guard := some (52, false) }) (v := ?_) rfl (by kernel_rfl) (by kernel_rfl) (by kernel_rfl) (fun _ _ _ h => h) (Or.inl ⟨by rfl, ?_⟩) (by assumption) ?_
      rotate_left
      focus (intro w hSw; (try dsimp only at hSw); go_simp <;> with_reducible rfl)
      try simp only [Act.put, List.setIfInBounds_toArray, List.set_cons_zero, List.set_cons_succ]
      refine wpAnyH_take (i := 55) (oi := { dst := some 94, op := Op.pick (Operand.tmp 91) (Operand.const (Value.bool true)) (Operand.tmp 93), type := 4, pos := "law.go:224", after := #[{ on := 52, ground := Ground.data }, { on := 54, ground := Ground.data }], guard := none }) (v := ?_) rfl (by kernel_rfl) (by kernel_rfl) (by kernel_rfl) (fun _ _ _ h => h) (Or.inl ⟨by rfl, ?_⟩) (by assumption) ?_
      rotate_left
      focus (intro w hSw; (try dsimp only at hSw); go_simp <;> with_reducible rfl)
      try simp only [Act.put, List.setIfInBounds_toArray, List.set_cons_zero, List.set_cons_succ]
      refine wpAnyH_done (by kernel_rfl) ?_ _
      rename World => wf
      have HK2 := Lib.hid hHeld.2
      clear hHeld s1 s2 s3 s4 s5 s6
      go_wp2_with fail
      go_roundw
      case rel => exact ⟨k + 1, _, _, by go_num, rfl, rfl, by have := HL.out; omega, HK2⟩
      case measure => simp [intOf]; have := HL.out; omega
    · have hk3 : ¬ ((k : Int) < 2) := by omega
      clear hk hk2
      go_wp2_with fail
      refine (pnew_good 0 1 _ (by omega) (by omega) (by omega) (by omega)).mono ?_
      rintro e z ⟨p, pm, hp, hpm, rfl, hP, hkz⟩
      have HZ : Hid (∀ o, Keep [] w (z.alloc o)) := Lib.hid (fun o => (H2.out.2.2.2.2.1.trans (HK.out.trans hkz)).alloc o)
      clear hp hpm hP hkz HK
      go_wp2_with fail
      refine (spnew_nil _ _ _ _ _).mono ?_
      rintro e z2 ⟨rfl, hz2⟩
      have HZ2 : Hid (Keep [] w z2) := Lib.hid (by rw [← hz2]; exact HZ.out _)
      clear hz2 HZ
      go_wp2_with fail
      refine (rnew_good 9 _ (by omega) (by omega)).mono ?_
      rintro e z3 ⟨r, fb, g, hr, hfb, hg, rfl, hA, hk3'⟩
      have HZ3 : Hid (∀ o, RamAt (z3.alloc o) r fb g (List.range 9) (List.replicate (64 * 9) 0) ∧ Keep [] w (z3.alloc o)) := Lib.hid (fun o => ⟨hA.keep0 ((Keep.refl _ _).alloc _), (HZ2.out.trans hk3').alloc o⟩)
      clear hr hfb hg hA hk3' HZ2
      go_wp2_with fail
      refine (spnew_nopool (HZ3.out _).1 _ _ _ _).mono ?_
      rintro e z4 ⟨rfl, hz4⟩
      have HZ4 : Hid (Keep [] w z4) := Lib.hid (by rw [← hz4]; exact (HZ3.out _).2)
      clear hz4 HZ3
      go_wp2_with fail
      refine (spworks_at _).mono ?_
      rintro e z5 ⟨rfl, hk5⟩
      have HF : Hid (Below w.heap.size w z5) := Lib.hid ((HZ4.out.trans hk5).below (Nat.le_refl _) (by simp))
      clear hk5
      go_wp2_with fail
      go_ret
      exact ⟨rfl, HF.out⟩
end Go.Proofs.Ytpinoejckagjbaa
