/- The law WalkNone, walked. -/
import Derived.Test.YteoanahfbfflbaaWalkB
import Derived.Test.YteoanahfbfflbaaWalk7
import Derived.RegionTactic
import Derived.Outline
namespace Go.Proofs.Yteoanahfbfflbaa
open Go.RowKit Go.Mum
set_option linter.unusedVariables false

theorem mem_none {w : World} {v : Value} (h : ∀ x, Keep [] w x → Sz x v 0) : Mem w v 0 (fun _ => none) := by
  refine ⟨fun x hx a ha => ?_, fun x hx => ?_, fun a z hz => by simp at hz, by omega⟩
  · refine (rword_no (h x hx) a ha (by omega)).mono ?_
    rintro e w' ⟨rfl, rfl⟩
    exact ⟨rfl, Keep.refl _ _⟩
  · exact rsize_any (h x hx)

/-- A way that is all 0. -/
def Zero6 (w : World) (m : Nat) : Prop := w.heap[m]? = some (.cells #[.int .u32 0, .int .u32 0, .int .u32 0, .int .i64 0, .int .i64 0, .int .i64 0] 58 (0, 0))

def six (w : World) (m : Nat) : World := (((((w.setCell ⟨m, 0, none⟩ (.int .u32 0)).setCell ⟨m, 1, none⟩ (.int .u32 0)).setCell ⟨m, 2, none⟩ (.int .u32 0)).setCell ⟨m, 3, none⟩ (.int .i64 0)).setCell ⟨m, 4, none⟩ (.int .i64 0)).setCell ⟨m, 5, none⟩ (.int .i64 0)

theorem Zero6.six {w : World} {m : Nat} (h : Zero6 w m) : Zero6 (six w m) m := by
  have h0 := heap_set_same h 0 (.int .u32 0)
  have h1 := heap_set_same h0 1 (.int .u32 0)
  have h2 := heap_set_same h1 2 (.int .u32 0)
  have h3 := heap_set_same h2 3 (.int .i64 0)
  have h4 := heap_set_same h3 4 (.int .i64 0)
  exact heap_set_same h4 5 (.int .i64 0)

theorem six_keep {w x : World} {m : Nat} (h : Keep [] w x) (hm : w.heap.size ≤ m) : Keep [] w (Go.Proofs.Yteoanahfbfflbaa.six x m) := keep_six h hm

theorem Zero6.facts {w : World} {m : Nat} (h : Zero6 w m) : (w.cell? ⟨m, 0, none⟩ = some (.int .u32 0) ∧ w.cell? ⟨m, 1, none⟩ = some (.int .u32 0) ∧ w.cell? ⟨m, 2, none⟩ = some (.int .u32 0) ∧ w.cell? ⟨m, 3, none⟩ = some (.int .i64 0) ∧ w.cell? ⟨m, 4, none⟩ = some (.int .i64 0) ∧ w.cell? ⟨m, 5, none⟩ = some (.int .i64 0)) ∧
    (w.frozen? ⟨m, 0, none⟩ = false ∧ w.frozen? ⟨m, 1, none⟩ = false ∧ w.frozen? ⟨m, 2, none⟩ = false ∧ w.frozen? ⟨m, 3, none⟩ = false ∧ w.frozen? ⟨m, 4, none⟩ = false ∧ w.frozen? ⟨m, 5, none⟩ = false) :=
  ⟨⟨cell_of h 0 rfl, cell_of h 1 rfl, cell_of h 2 rfl, cell_of h 3 rfl, cell_of h 4 rfl, cell_of h 5 rfl⟩, ⟨frozen_of h 0, frozen_of h 1, frozen_of h 2, frozen_of h 3, frozen_of h 4, frozen_of h 5⟩⟩

theorem look_none (root va : Nat) : lookF (fun _ => none) 0 root 16 va = none := by
  unfold lookF
  split <;> rfl

theorem to_none (root ps va : Nat) (k : Int) : toF (fun _ => none) 0 root 16 ps va k = (0, false) := by
  unfold toF
  rw [look_none]
  split
  · rw [if_pos (by omega)]
  · rfl

set_option maxRecDepth 100000 in
set_option maxHeartbeats 4000000 in
theorem WalkNone_walk (c0 : Array Value) (n0 : Nat) (w : World) (w0 : Fits Try.prog w maxLen n0 66 c0.toList) :
    Calls Try.prog 16 #[.agg c0] w fun e w' => e = .returned (.bool true) ∧ Below w.heap.size w w' := by
  obtain ⟨x0, x1, x2, x3, rfl, h0, h1, h2, h3⟩ := four_of_fits w0
  clear w0
  go_enter Try.func16, Try.ntmps16
  go_wp2_with fail
  obtain ⟨bx, hbx⟩ : ∃ bx, bx = w.heap.size := ⟨_, rfl⟩
  rw [← hbx]
  generalize hy : World.alloc _ _ = y
  have HY : Hid (Keep [] w y ∧ y.cell? ⟨bx, 0, none⟩ = some (.int .u32 x0) ∧ y.cell? ⟨bx, 1, none⟩ = some (.int .u32 x1) ∧ y.cell? ⟨bx, 2, none⟩ = some (.int .u32 x2) ∧ y.cell? ⟨bx, 3, none⟩ = some (.int .u32 x3) ∧ y.cell? ⟨bx + 1, 0, none⟩ = some (.slice none 0 0) ∧ y.cell? ⟨bx + 1 + 1, 0, none⟩ = some (.pointer none) ∧ y.cell? ⟨bx + 1 + 1, 1, none⟩ = some (.pointer (some ⟨bx + 1, 0, none⟩)) ∧ w.heap.size ≤ bx) := Lib.hid (by
    subst hy hbx
    generalize hw1 : w.alloc _ = w1
    have k1 : Keep [] w w1 := by subst hw1; exact (Keep.refl _ _).alloc _
    have s1 : w1.heap.size = w.heap.size + 1 := by subst hw1; simp
    have d0 : w1.cell? ⟨w.heap.size, 0, none⟩ = some (.int .u32 x0) := by subst hw1; exact cell_of (heap_alloc_same w _) 0 rfl
    have d1 : w1.cell? ⟨w.heap.size, 1, none⟩ = some (.int .u32 x1) := by subst hw1; exact cell_of (heap_alloc_same w _) 1 rfl
    have d2 : w1.cell? ⟨w.heap.size, 2, none⟩ = some (.int .u32 x2) := by subst hw1; exact cell_of (heap_alloc_same w _) 2 rfl
    have d3 : w1.cell? ⟨w.heap.size, 3, none⟩ = some (.int .u32 x3) := by subst hw1; exact cell_of (heap_alloc_same w _) 3 rfl
    clear hw1
    generalize hw2 : w1.alloc _ = w2
    have k2 : Keep [] w1 w2 := by subst hw2; exact (Keep.refl _ _).alloc _
    have s2 : w2.heap.size = w.heap.size + 1 + 1 := by subst hw2; simp [s1]
    have d4 : w2.cell? ⟨w.heap.size + 1, 0, none⟩ = some (.slice none 0 0) := by subst hw2; rw [← s1]; exact cell_of (heap_alloc_same w1 _) 0 rfl
    clear hw2
    have k3 : ∀ o, Keep [] w2 (w2.alloc o) := fun o => (Keep.refl _ _).alloc o
    refine ⟨(k1.trans k2).trans (k3 _), ((k2.trans (k3 _)).cell d0 (by simp)), ((k2.trans (k3 _)).cell d1 (by simp)), ((k2.trans (k3 _)).cell d2 (by simp)), ((k2.trans (k3 _)).cell d3 (by simp)), (k3 _).cell d4 (by simp), ?_, ?_, Nat.le_refl _⟩
    · rw [← s2]; exact cell_of (heap_alloc_same w2 _) 0 rfl
    · rw [← s2]; exact cell_of (heap_alloc_same w2 _) 1 rfl)
  clear hy hbx
  go_loopw [5, 6, 7, 8, 9] (fun kv _ _ _ _ wr => ∃ k : Nat, kv = .int .i64 k ∧ k ≤ 2 ∧ Keep [] y wr) (fun kv _ _ _ _ _ => 2 - (intOf kv).toNat)
  case atStart => exact ⟨0, rfl, by omega, Keep.refl _ _⟩
  case round =>
    obtain ⟨k, rfl, hk, hK⟩ := hrel
    by_cases hlt : k < 2
    · obtain ⟨v, hv, hM⟩ : ∃ v, wr.cell? ⟨bx + 1 + 1, k, none⟩ = some v ∧ Mem wr v 0 (fun _ => none) := by
        obtain ⟨-, -, -, -, -, d4, d5, d6, -⟩ := HY.out
        match k, hlt with
        | 0, _ => exact ⟨_, hK.cell d5 (by simp), mem_none fun x hx => .inl ⟨rfl, rfl⟩⟩
        | 1, _ => exact ⟨_, hK.cell d6 (by simp), mem_none fun x hx => .inr ⟨_, _, _, rfl, (hK.trans hx).cell d4 (by simp), by omega⟩⟩
      obtain ⟨-, c0, c1, c2, c3, -⟩ := HY.out
      replace c0 := hK.cell c0 (by simp)
      replace c1 := hK.cell c1 (by simp)
      replace c2 := hK.cell c2 (by simp)
      replace c3 := hK.cell c3 (by simp)
      have L1 := fun z (hz : Keep [] wr z) => look_at (hM.keep0 hz) x0 16 x1 h0 (by omega) h1
      obtain ⟨x5, hx5⟩ : ∃ x5, x5 = x3 % 5 := ⟨_, rfl⟩
      have hw5 : IntKind.i64.wrap ((x3 : Int).tmod 5) = (x5 : Int) := by rw [Int.tmod_eq_emod_of_nonneg (by omega), IntWalk.i64_in _ (by omega)]; omega
      have L2 := fun z (hz : Keep [] wr z) => to_at (hM.keep0 hz) x0 16 x2 x1 (x5 : Int) h0 (by omega) h2 h1 (by omega) (by omega)
      simp only [look_none, to_none] at L1 L2
      clear hx5
      have L1 := Lib.hid L1
      have L2 := Lib.hid L2
      clear hM
      go_wp2_with fail
      refine wp_region_held_drew (S := fun x => Keep [] wr x ∧ x.cell? ⟨bx + 1 + 1, k, none⟩ = some v ∧ x.cell? ⟨bx, 0, none⟩ = some (.int .u32 x0) ∧ x.cell? ⟨bx, 1, none⟩ = some (.int .u32 x1)) (by kernel_rfl) ⟨(Keep.refl [] wr).drew, hv, c0, c1⟩ (fun hHeld => ?_)
      skip
      refine wpAnyH_take (i := 0) (oi := { dst := some 21, op := Op.move (Operand.tmp 4), type := 76, pos := "law.go:117", after := #[], guard := none }) (v := ?_) rfl (by kernel_rfl) (by kernel_rfl) (by kernel_rfl) (fun _ _ _ h => h) (Or.inl ⟨by rfl, ?_⟩) (by assumption) ?_
      rotate_left
      focus (intro w hSw; (try dsimp only at hSw); go_simp <;> with_reducible rfl)
      try simp only [Act.put, List.setIfInBounds_toArray, List.set_cons_zero, List.set_cons_succ]
      refine wpAnyH_take (i := 1) (oi := { dst := some 22, op := Op.move (Operand.tmp 5), type := 3, pos := "law.go:117", after := #[], guard := none }) (v := ?_) rfl (by kernel_rfl) (by kernel_rfl) (by kernel_rfl) (fun _ _ _ h => h) (Or.inl ⟨by rfl, ?_⟩) (by assumption) ?_
      rotate_left
      focus (intro w hSw; (try dsimp only at hSw); go_simp <;> with_reducible rfl)
      try simp only [Act.put, List.setIfInBounds_toArray, List.set_cons_zero, List.set_cons_succ]
      refine wpAnyH_take (i := 2) (oi := { dst := some 23, op := Op.indexAddr 76 (Operand.tmp 21) (Operand.tmp 22), type := 0, pos := "law.go:117", after := #[{ on := 0, ground := Ground.data }, { on := 1, ground := Ground.data }], guard := none }) (v := ?_) rfl (by kernel_rfl) (by kernel_rfl) (by kernel_rfl) (fun _ _ _ h => h) (Or.inl ⟨by rfl, ?_⟩) (by assumption) ?_
      rotate_left
      focus (intro w hSw; (try dsimp only at hSw); go_simp <;> with_reducible rfl)
      try simp only [Act.put, List.setIfInBounds_toArray, List.set_cons_zero, List.set_cons_succ]
      refine wpAnyH_take (i := 3) (oi := { dst := some 24, op := Op.load 22 (Operand.tmp 23), type := 22, pos := "law.go:117", after := #[{ on := 2, ground := Ground.data }], guard := none }) (v := ?_) rfl (by kernel_rfl) (by kernel_rfl) (by kernel_rfl) (fun _ _ _ h => h) (Or.inl ⟨by rfl, ?_⟩) (by assumption) ?_
      rotate_left
      focus (intro w hSw; (try dsimp only at hSw); go_simp <;> with_reducible rfl)
      try simp only [Act.put, List.setIfInBounds_toArray, List.set_cons_zero, List.set_cons_succ]
      refine wpAnyH_take (i := 4) (oi := { dst := some 25, op := Op.indexAddr 66 (Operand.tmp 1) (Operand.const (Value.int IntKind.i64 0)), type := 0, pos := "law.go:117", after := #[], guard := none }) (v := ?_) rfl (by kernel_rfl) (by kernel_rfl) (by kernel_rfl) (fun _ _ _ h => h) (Or.inl ⟨by rfl, ?_⟩) (by assumption) ?_
      rotate_left
      focus (intro w hSw; (try dsimp only at hSw); go_simp <;> with_reducible rfl)
      try simp only [Act.put, List.setIfInBounds_toArray, List.set_cons_zero, List.set_cons_succ]
      refine wpAnyH_take (i := 5) (oi := { dst := some 26, op := Op.load 26 (Operand.tmp 25), type := 26, pos := "law.go:117", after := #[{ on := 4, ground := Ground.data }], guard := none }) (v := ?_) rfl (by kernel_rfl) (by kernel_rfl) (by kernel_rfl) (fun _ _ _ h => h) (Or.inl ⟨by rfl, ?_⟩) (by assumption) ?_
      rotate_left
      focus (intro w hSw; (try dsimp only at hSw); go_simp <;> with_reducible rfl)
      try simp only [Act.put, List.setIfInBounds_toArray, List.set_cons_zero, List.set_cons_succ]
      refine wpAnyH_take (i := 6) (oi := { dst := some 27, op := Op.indexAddr 66 (Operand.tmp 1) (Operand.const (Value.int IntKind.i64 1)), type := 0, pos := "law.go:117", after := #[], guard := none }) (v := ?_) rfl (by kernel_rfl) (by kernel_rfl) (by kernel_rfl) (fun _ _ _ h => h) (Or.inl ⟨by rfl, ?_⟩) (by assumption) ?_
      rotate_left
      focus (intro w hSw; (try dsimp only at hSw); go_simp <;> with_reducible rfl)
      try simp only [Act.put, List.setIfInBounds_toArray, List.set_cons_zero, List.set_cons_succ]
      refine wpAnyH_take (i := 7) (oi := { dst := some 28, op := Op.load 26 (Operand.tmp 27), type := 26, pos := "law.go:117", after := #[{ on := 6, ground := Ground.data }], guard := none }) (v := ?_) rfl (by kernel_rfl) (by kernel_rfl) (by kernel_rfl) (fun _ _ _ h => h) (Or.inl ⟨by rfl, ?_⟩) (by assumption) ?_
      rotate_left
      focus (intro w hSw; (try dsimp only at hSw); go_simp <;> with_reducible rfl)
      try simp only [Act.put, List.setIfInBounds_toArray, List.set_cons_zero, List.set_cons_succ]
      refine wpAnyH_ready (rs := [8, 12]) (by kernel_rfl) (by simp) ?_
      refine AllReadyH.cons (o := { dst := some 29, op := Op.call { callee := Callee.value (Operand.func 31), args := #[Operand.tmp 24, Operand.tmp 26, Operand.const (Value.int IntKind.i64 16), Operand.tmp 28], argTypes := #[22, 26, 3, 26] }, type := 59, pos := "law.go:117", after := #[{ on := 3, ground := Ground.data }, { on := 5, ground := Ground.data }, { on := 7, ground := Ground.data }], guard := none }) rfl (fun K hK => ?_) (AllReadyH.cons (o := { dst := some 6, op := Op.alloc 58, type := 0, pos := "law.go:117", after := #[], guard := none }) rfl (fun K hK => ?_) AllReadyH.nil)
      all_goals go_simp
      · refine (L1.out _ hHeld.1).mono ?_
        rintro e y1 ⟨rfl, hK1⟩
        simp only [wayV, Option.isSome_none]
        have HQ : Hid (Keep [] wr y1 ∧ y1.cell? ⟨bx + 1 + 1, k, none⟩ = some v ∧ y1.cell? ⟨bx, 0, none⟩ = some (.int .u32 x0) ∧ y1.cell? ⟨bx, 1, none⟩ = some (.int .u32 x1)) := Lib.hid ⟨hHeld.1.trans hK1, hK1.cell hHeld.2.1 (by simp), hK1.cell hHeld.2.2.1 (by simp), hK1.cell hHeld.2.2.2 (by simp)⟩
        clear hK1
        go_wp2_with fail
        refine shut_grow (fun x => Keep [] wr x ∧ x.cell? ⟨bx + 1 + 1, k, none⟩ = some v ∧ x.cell? ⟨bx, 0, none⟩ = some (.int .u32 x0) ∧ x.cell? ⟨bx, 1, none⟩ = some (.int .u32 x1)) hK (fun _ h => h) HQ.out (fun hHeld => ?_)
        clear hK K
        refine wpAnyH_take (i := 9) (oi := { dst := some 20, op := Op.move (Operand.tmp 29), type := 59, pos := "law.go:117", after := #[{ on := 8, ground := Ground.data }], guard := none }) (v := ?_) rfl (by kernel_rfl) (by kernel_rfl) (by kernel_rfl) (fun _ _ _ h => h) (Or.inl ⟨by rfl, ?_⟩) (by assumption) ?_
        rotate_left
        focus (intro w hSw; (try dsimp only at hSw); go_simp <;> with_reducible rfl)
        try simp only [Act.put, List.setIfInBounds_toArray, List.set_cons_zero, List.set_cons_succ]
        refine wpAnyH_take (i := 10) (oi := { dst := some 30, op := Op.extract (Operand.tmp 20) 0, type := 58, pos := "law.go:117", after := #[{ on := 9, ground := Ground.data }], guard := none }) (v := ?_) rfl (by kernel_rfl) (by kernel_rfl) (by kernel_rfl) (fun _ _ _ h => h) (Or.inl ⟨by rfl, ?_⟩) (by assumption) ?_
        rotate_left
        focus (intro w hSw; (try dsimp only at hSw); go_simp <;> with_reducible rfl)
        try simp only [Act.put, List.setIfInBounds_toArray, List.set_cons_zero, List.set_cons_succ]
        refine wpAnyH_take (i := 11) (oi := { dst := some 31, op := Op.extract (Operand.tmp 20) 1, type := 4, pos := "law.go:117", after := #[{ on := 9, ground := Ground.data }, { on := 13, ground := Ground.gcOnly Departure.lateStores }], guard := none }) (v := ?_) rfl (by kernel_rfl) (by kernel_rfl) (by kernel_rfl) (fun _ _ _ h => h) (Or.inl ⟨by rfl, ?_⟩) (by assumption) ?_
        rotate_left
        focus (intro w hSw; (try dsimp only at hSw); go_simp <;> with_reducible rfl)
        try simp only [Act.put, List.setIfInBounds_toArray, List.set_cons_zero, List.set_cons_succ]
        refine wpAnyH_ready (rs := [12]) (by kernel_rfl) (by simp) ?_
        refine AllReadyH.cons (o := { dst := some 6, op := Op.alloc 58, type := 0, pos := "law.go:117", after := #[], guard := none }) rfl (fun K hK => ?_) AllReadyH.nil
        go_simp
        obtain ⟨m, hm⟩ : ∃ m, m = y1.heap.size := ⟨_, rfl⟩
        rw [← hm]
        generalize hy2 : y1.alloc _ = y2
        have hsz := HQ.out.1.size
        have HR : Hid (Keep [] wr y2 ∧ y2.cell? ⟨bx + 1 + 1, k, none⟩ = some v ∧ y2.cell? ⟨bx, 0, none⟩ = some (.int .u32 x0) ∧ y2.cell? ⟨bx, 1, none⟩ = some (.int .u32 x1) ∧ Zero6 y2 m ∧ wr.heap.size ≤ m) := Lib.hid (by
          subst hy2 hm
          have hk1 := fun o => (Keep.refl [] y1).alloc o
          exact ⟨HQ.out.1.trans (hk1 _), (hk1 _).cell HQ.out.2.1 (by simp), (hk1 _).cell HQ.out.2.2.1 (by simp), (hk1 _).cell HQ.out.2.2.2 (by simp), heap_alloc_same y1 _, hsz⟩)
        clear hy2 hsz hm
        have HS : Hid (Keep [] wr (six y2 m) ∧ (six y2 m).cell? ⟨bx + 1 + 1, k, none⟩ = some v ∧ (six y2 m).cell? ⟨bx, 0, none⟩ = some (.int .u32 x0) ∧ (six y2 m).cell? ⟨bx, 1, none⟩ = some (.int .u32 x1)) := Lib.hid (by
          have hk6 := six_keep HR.out.1 HR.out.2.2.2.2.2
          exact ⟨hk6, hk6.cell hv (by simp), hk6.cell c0 (by simp), hk6.cell c1 (by simp)⟩)
        obtain ⟨⟨g0, g1, g2, g3, g4, g5⟩, ⟨f0, f1, f2, f3, f4, f5⟩⟩ := HR.out.2.2.2.2.1.facts
        refine shut_grow (fun x => Keep [] wr x ∧ x.cell? ⟨bx + 1 + 1, k, none⟩ = some v ∧ x.cell? ⟨bx, 0, none⟩ = some (.int .u32 x0) ∧ x.cell? ⟨bx, 1, none⟩ = some (.int .u32 x1)) hK (fun _ h => h) ⟨HR.out.1, HR.out.2.1, HR.out.2.2.1, HR.out.2.2.2.1⟩ (fun hHeld => ?_)
        clear hK K
        skip
        refine wpAnyH_ready (rs := [13]) (by kernel_rfl) (by simp) ?_
        refine AllReadyH.cons (o := { dst := none, op := Op.store 58 (Operand.tmp 6) (Operand.tmp 30), type := 0, pos := "law.go:117", after := #[{ on := 12, ground := Ground.data }, { on := 10, ground := Ground.data }, { on := 8, ground := Ground.chain }, { on := 0, ground := Ground.phase }, { on := 1, ground := Ground.phase }, { on := 2, ground := Ground.phase }, { on := 3, ground := Ground.phase }, { on := 4, ground := Ground.phase }, { on := 5, ground := Ground.phase }, { on := 6, ground := Ground.phase }, { on := 7, ground := Ground.phase }, { on := 8, ground := Ground.phase }, { on := 9, ground := Ground.phase }, { on := 10, ground := Ground.phase }, { on := 11, ground := Ground.textOnly Departure.lateStores }, { on := 12, ground := Ground.phase }], guard := none }) rfl (fun K hK => ?_) AllReadyH.nil
        go_simp
        refine shut_grow (fun z => z = six y2 m) hK (fun z h => by rw [h]; exact HS.out) rfl (fun hHeld => ?_)
        clear hK K
        refine wpAnyH_take (i := 14) (oi := { dst := some 7, op := Op.assign (Operand.tmp 31), type := 4, pos := "law.go:117", after := #[{ on := 11, ground := Ground.data }, { on := 13, ground := Ground.chain }, { on := 0, ground := Ground.phase }, { on := 1, ground := Ground.phase }, { on := 2, ground := Ground.phase }, { on := 3, ground := Ground.phase }, { on := 4, ground := Ground.phase }, { on := 5, ground := Ground.phase }, { on := 6, ground := Ground.phase }, { on := 7, ground := Ground.phase }, { on := 8, ground := Ground.phase }, { on := 9, ground := Ground.phase }, { on := 10, ground := Ground.phase }, { on := 11, ground := Ground.phase }, { on := 12, ground := Ground.phase }, { on := 13, ground := Ground.phase }], guard := none }) (v := ?_) rfl (by kernel_rfl) (by kernel_rfl) (by kernel_rfl) (fun _ _ _ h => h) (Or.inl ⟨by rfl, ?_⟩) (by assumption) ?_
        rotate_left
        focus (intro w hSw; (try dsimp only at hSw); go_simp <;> with_reducible rfl)
        try simp only [Act.put, List.setIfInBounds_toArray, List.set_cons_zero, List.set_cons_succ]
        refine wpAnyH_done (by kernel_rfl) ?_ _
        clear hHeld
        have HT : Hid (Keep [] wr (six y2 m) ∧ Zero6 (six y2 m) m) := Lib.hid ⟨HS.out.1, HR.out.2.2.2.2.1.six⟩
        change Exit.then _ _ _ _ (six y2 m)
        generalize six y2 m = y3 at HT
        clear HS HR HQ g0 g1 g2 g3 g4 g5 f0 f1 f2 f3 f4 f5
        replace c0 := HT.out.1.cell c0 (by simp)
        replace c1 := HT.out.1.cell c1 (by simp)
        replace c2 := HT.out.1.cell c2 (by simp)
        replace c3 := HT.out.1.cell c3 (by simp)
        replace hv := HT.out.1.cell hv (by simp)
        have HL2 := Lib.hid (fun z hz => L2.out z (HT.out.1.trans hz))
        have HZ := Lib.hid HT.out.2
        go_wp2_with fail
        refine wp_region_held_drew (S := fun x => Keep [] y3 x ∧ x.cell? ⟨bx + 1 + 1, k, none⟩ = some v ∧ x.cell? ⟨bx, 0, none⟩ = some (.int .u32 x0) ∧ x.cell? ⟨bx, 1, none⟩ = some (.int .u32 x1) ∧ x.cell? ⟨bx, 2, none⟩ = some (.int .u32 x2) ∧ x.cell? ⟨bx, 3, none⟩ = some (.int .u32 x3)) (by kernel_rfl) ⟨(Keep.refl [] y3).drew, hv, c0, c1, c2, c3⟩ (fun hHeld => ?_)
        skip
        refine wpAnyH_take (i := 0) (oi := { dst := some 33, op := Op.move (Operand.tmp 4), type := 76, pos := "law.go:118", after := #[], guard := none }) (v := ?_) rfl (by kernel_rfl) (by kernel_rfl) (by kernel_rfl) (fun _ _ _ h => h) (Or.inl ⟨by rfl, ?_⟩) (by assumption) ?_
        rotate_left
        focus (intro w hSw; (try dsimp only at hSw); go_simp <;> with_reducible rfl)
        try simp only [Act.put, List.setIfInBounds_toArray, List.set_cons_zero, List.set_cons_succ]
        refine wpAnyH_take (i := 1) (oi := { dst := some 34, op := Op.move (Operand.tmp 5), type := 3, pos := "law.go:118", after := #[], guard := none }) (v := ?_) rfl (by kernel_rfl) (by kernel_rfl) (by kernel_rfl) (fun _ _ _ h => h) (Or.inl ⟨by rfl, ?_⟩) (by assumption) ?_
        rotate_left
        focus (intro w hSw; (try dsimp only at hSw); go_simp <;> with_reducible rfl)
        try simp only [Act.put, List.setIfInBounds_toArray, List.set_cons_zero, List.set_cons_succ]
        refine wpAnyH_take (i := 2) (oi := { dst := some 35, op := Op.indexAddr 76 (Operand.tmp 33) (Operand.tmp 34), type := 0, pos := "law.go:118", after := #[{ on := 0, ground := Ground.data }, { on := 1, ground := Ground.data }], guard := none }) (v := ?_) rfl (by kernel_rfl) (by kernel_rfl) (by kernel_rfl) (fun _ _ _ h => h) (Or.inl ⟨by rfl, ?_⟩) (by assumption) ?_
        rotate_left
        focus (intro w hSw; (try dsimp only at hSw); go_simp <;> with_reducible rfl)
        try simp only [Act.put, List.setIfInBounds_toArray, List.set_cons_zero, List.set_cons_succ]
        refine wpAnyH_take (i := 3) (oi := { dst := some 36, op := Op.load 22 (Operand.tmp 35), type := 22, pos := "law.go:118", after := #[{ on := 2, ground := Ground.data }], guard := none }) (v := ?_) rfl (by kernel_rfl) (by kernel_rfl) (by kernel_rfl) (fun _ _ _ h => h) (Or.inl ⟨by rfl, ?_⟩) (by assumption) ?_
        rotate_left
        focus (intro w hSw; (try dsimp only at hSw); go_simp <;> with_reducible rfl)
        try simp only [Act.put, List.setIfInBounds_toArray, List.set_cons_zero, List.set_cons_succ]
        refine wpAnyH_take (i := 4) (oi := { dst := some 37, op := Op.indexAddr 66 (Operand.tmp 1) (Operand.const (Value.int IntKind.i64 0)), type := 0, pos := "law.go:118", after := #[], guard := none }) (v := ?_) rfl (by kernel_rfl) (by kernel_rfl) (by kernel_rfl) (fun _ _ _ h => h) (Or.inl ⟨by rfl, ?_⟩) (by assumption) ?_
        rotate_left
        focus (intro w hSw; (try dsimp only at hSw); go_simp <;> with_reducible rfl)
        try simp only [Act.put, List.setIfInBounds_toArray, List.set_cons_zero, List.set_cons_succ]
        refine wpAnyH_take (i := 5) (oi := { dst := some 38, op := Op.load 26 (Operand.tmp 37), type := 26, pos := "law.go:118", after := #[{ on := 4, ground := Ground.data }], guard := none }) (v := ?_) rfl (by kernel_rfl) (by kernel_rfl) (by kernel_rfl) (fun _ _ _ h => h) (Or.inl ⟨by rfl, ?_⟩) (by assumption) ?_
        rotate_left
        focus (intro w hSw; (try dsimp only at hSw); go_simp <;> with_reducible rfl)
        try simp only [Act.put, List.setIfInBounds_toArray, List.set_cons_zero, List.set_cons_succ]
        refine wpAnyH_take (i := 6) (oi := { dst := some 39, op := Op.indexAddr 66 (Operand.tmp 1) (Operand.const (Value.int IntKind.i64 2)), type := 0, pos := "law.go:118", after := #[], guard := none }) (v := ?_) rfl (by kernel_rfl) (by kernel_rfl) (by kernel_rfl) (fun _ _ _ h => h) (Or.inl ⟨by rfl, ?_⟩) (by assumption) ?_
        rotate_left
        focus (intro w hSw; (try dsimp only at hSw); go_simp <;> with_reducible rfl)
        try simp only [Act.put, List.setIfInBounds_toArray, List.set_cons_zero, List.set_cons_succ]
        refine wpAnyH_take (i := 7) (oi := { dst := some 40, op := Op.load 26 (Operand.tmp 39), type := 26, pos := "law.go:118", after := #[{ on := 6, ground := Ground.data }], guard := none }) (v := ?_) rfl (by kernel_rfl) (by kernel_rfl) (by kernel_rfl) (fun _ _ _ h => h) (Or.inl ⟨by rfl, ?_⟩) (by assumption) ?_
        rotate_left
        focus (intro w hSw; (try dsimp only at hSw); go_simp <;> with_reducible rfl)
        try simp only [Act.put, List.setIfInBounds_toArray, List.set_cons_zero, List.set_cons_succ]
        refine wpAnyH_take (i := 8) (oi := { dst := some 41, op := Op.indexAddr 66 (Operand.tmp 1) (Operand.const (Value.int IntKind.i64 1)), type := 0, pos := "law.go:118", after := #[], guard := none }) (v := ?_) rfl (by kernel_rfl) (by kernel_rfl) (by kernel_rfl) (fun _ _ _ h => h) (Or.inl ⟨by rfl, ?_⟩) (by assumption) ?_
        rotate_left
        focus (intro w hSw; (try dsimp only at hSw); go_simp <;> with_reducible rfl)
        try simp only [Act.put, List.setIfInBounds_toArray, List.set_cons_zero, List.set_cons_succ]
        refine wpAnyH_take (i := 9) (oi := { dst := some 42, op := Op.load 26 (Operand.tmp 41), type := 26, pos := "law.go:118", after := #[{ on := 8, ground := Ground.data }], guard := none }) (v := ?_) rfl (by kernel_rfl) (by kernel_rfl) (by kernel_rfl) (fun _ _ _ h => h) (Or.inl ⟨by rfl, ?_⟩) (by assumption) ?_
        rotate_left
        focus (intro w hSw; (try dsimp only at hSw); go_simp <;> with_reducible rfl)
        try simp only [Act.put, List.setIfInBounds_toArray, List.set_cons_zero, List.set_cons_succ]
        refine wpAnyH_take (i := 10) (oi := { dst := some 43, op := Op.indexAddr 66 (Operand.tmp 1) (Operand.const (Value.int IntKind.i64 3)), type := 0, pos := "law.go:118", after := #[], guard := none }) (v := ?_) rfl (by kernel_rfl) (by kernel_rfl) (by kernel_rfl) (fun _ _ _ h => h) (Or.inl ⟨by rfl, ?_⟩) (by assumption) ?_
        rotate_left
        focus (intro w hSw; (try dsimp only at hSw); go_simp <;> with_reducible rfl)
        try simp only [Act.put, List.setIfInBounds_toArray, List.set_cons_zero, List.set_cons_succ]
        refine wpAnyH_take (i := 11) (oi := { dst := some 44, op := Op.load 26 (Operand.tmp 43), type := 26, pos := "law.go:118", after := #[{ on := 10, ground := Ground.data }], guard := none }) (v := ?_) rfl (by kernel_rfl) (by kernel_rfl) (by kernel_rfl) (fun _ _ _ h => h) (Or.inl ⟨by rfl, ?_⟩) (by assumption) ?_
        rotate_left
        focus (intro w hSw; (try dsimp only at hSw); go_simp <;> with_reducible rfl)
        try simp only [Act.put, List.setIfInBounds_toArray, List.set_cons_zero, List.set_cons_succ]
        refine wpAnyH_take (i := 12) (oi := { dst := some 45, op := Op.binOp BinOp.rem 26 (Operand.tmp 44) (Operand.const (Value.int IntKind.u32 5)) 26, type := 26, pos := "law.go:118", after := #[{ on := 11, ground := Ground.data }], guard := none }) (v := ?_) rfl (by kernel_rfl) (by kernel_rfl) (by kernel_rfl) (fun _ _ _ h => h) (Or.inl ⟨by rfl, ?_⟩) (by assumption) ?_
        rotate_left
        focus (intro w hSw; (try dsimp only at hSw); go_simp <;> with_reducible rfl)
        try simp only [Act.put, List.setIfInBounds_toArray, List.set_cons_zero, List.set_cons_succ]
        refine wpAnyH_take (i := 13) (oi := { dst := some 46, op := Op.convert 26 3 (Operand.tmp 45), type := 3, pos := "law.go:118", after := #[{ on := 12, ground := Ground.data }], guard := none }) (v := ?_) rfl (by kernel_rfl) (by kernel_rfl) (by kernel_rfl) (fun _ _ _ h => h) (Or.inl ⟨by rfl, ?_⟩) (by assumption) ?_
        rotate_left
        focus (intro w hSw; (try dsimp only at hSw); go_simp <;> with_reducible rfl)
        try simp only [Act.put, List.setIfInBounds_toArray, List.set_cons_zero, List.set_cons_succ]
        refine wpAnyH_ready (rs := [14]) (by kernel_rfl) (by simp) ?_
        refine AllReadyH.cons (o := { dst := some 47, op := Op.call { callee := Callee.value (Operand.func 41), args := #[Operand.tmp 36, Operand.tmp 38, Operand.const (Value.int IntKind.i64 16), Operand.tmp 40, Operand.tmp 42, Operand.tmp 46], argTypes := #[22, 26, 3, 26, 26, 3] }, type := 43, pos := "law.go:118", after := #[{ on := 3, ground := Ground.data }, { on := 5, ground := Ground.data }, { on := 7, ground := Ground.data }, { on := 9, ground := Ground.data }, { on := 13, ground := Ground.data }], guard := none }) rfl (fun K hK => ?_) AllReadyH.nil
        go_simp
        refine (HL2.out _ hHeld.1).mono ?_
        rintro e y4 ⟨rfl, hK4⟩
        have HK4 := Lib.hid (hHeld.1.trans hK4)
        have HG : Hid (Zero6 y4 m) := Lib.hid (HK4.out.heap HZ.out (by simp))
        clear hK4
        go_wp2_with fail
        refine shut_grow (fun x => x = y4) hK (fun _ h => by rw [h]; exact ⟨HK4.out, HK4.out.cell hv (by simp), HK4.out.cell c0 (by simp), HK4.out.cell c1 (by simp), HK4.out.cell c2 (by simp), HK4.out.cell c3 (by simp)⟩) rfl (fun hHeld => ?_)
        clear hK K
        refine wpAnyH_take (i := 15) (oi := { dst := some 32, op := Op.move (Operand.tmp 47), type := 43, pos := "law.go:118", after := #[{ on := 14, ground := Ground.data }], guard := none }) (v := ?_) rfl (by kernel_rfl) (by kernel_rfl) (by kernel_rfl) (fun _ _ _ h => h) (Or.inl ⟨by rfl, ?_⟩) (by assumption) ?_
        rotate_left
        focus (intro w hSw; (try dsimp only at hSw); go_simp <;> with_reducible rfl)
        try simp only [Act.put, List.setIfInBounds_toArray, List.set_cons_zero, List.set_cons_succ]
        refine wpAnyH_take (i := 16) (oi := { dst := some 48, op := Op.extract (Operand.tmp 32) 0, type := 26, pos := "law.go:118", after := #[{ on := 15, ground := Ground.data }], guard := none }) (v := ?_) rfl (by kernel_rfl) (by kernel_rfl) (by kernel_rfl) (fun _ _ _ h => h) (Or.inl ⟨by rfl, ?_⟩) (by assumption) ?_
        rotate_left
        focus (intro w hSw; (try dsimp only at hSw); go_simp <;> with_reducible rfl)
        try simp only [Act.put, List.setIfInBounds_toArray, List.set_cons_zero, List.set_cons_succ]
        refine wpAnyH_take (i := 17) (oi := { dst := some 49, op := Op.extract (Operand.tmp 32) 1, type := 4, pos := "law.go:118", after := #[{ on := 15, ground := Ground.data }, { on := 18, ground := Ground.gcOnly Departure.lateStores }], guard := none }) (v := ?_) rfl (by kernel_rfl) (by kernel_rfl) (by kernel_rfl) (fun _ _ _ h => h) (Or.inl ⟨by rfl, ?_⟩) (by assumption) ?_
        rotate_left
        focus (intro w hSw; (try dsimp only at hSw); go_simp <;> with_reducible rfl)
        try simp only [Act.put, List.setIfInBounds_toArray, List.set_cons_zero, List.set_cons_succ]
        refine wpAnyH_take (i := 18) (oi := { dst := some 8, op := Op.assign (Operand.tmp 48), type := 26, pos := "law.go:118", after := #[{ on := 16, ground := Ground.data }, { on := 14, ground := Ground.chain }, { on := 0, ground := Ground.phase }, { on := 1, ground := Ground.phase }, { on := 2, ground := Ground.phase }, { on := 3, ground := Ground.phase }, { on := 4, ground := Ground.phase }, { on := 5, ground := Ground.phase }, { on := 6, ground := Ground.phase }, { on := 7, ground := Ground.phase }, { on := 8, ground := Ground.phase }, { on := 9, ground := Ground.phase }, { on := 10, ground := Ground.phase }, { on := 11, ground := Ground.phase }, { on := 12, ground := Ground.phase }, { on := 13, ground := Ground.phase }, { on := 14, ground := Ground.phase }, { on := 15, ground := Ground.phase }, { on := 16, ground := Ground.phase }, { on := 17, ground := Ground.textOnly Departure.lateStores }], guard := none }) (v := ?_) rfl (by kernel_rfl) (by kernel_rfl) (by kernel_rfl) (fun _ _ _ h => h) (Or.inl ⟨by rfl, ?_⟩) (by assumption) ?_
        rotate_left
        focus (intro w hSw; (try dsimp only at hSw); go_simp <;> with_reducible rfl)
        try simp only [Act.put, List.setIfInBounds_toArray, List.set_cons_zero, List.set_cons_succ]
        refine wpAnyH_take (i := 19) (oi := { dst := some 9, op := Op.assign (Operand.tmp 49), type := 4, pos := "law.go:118", after := #[{ on := 17, ground := Ground.data }, { on := 18, ground := Ground.chain }, { on := 0, ground := Ground.phase }, { on := 1, ground := Ground.phase }, { on := 2, ground := Ground.phase }, { on := 3, ground := Ground.phase }, { on := 4, ground := Ground.phase }, { on := 5, ground := Ground.phase }, { on := 6, ground := Ground.phase }, { on := 7, ground := Ground.phase }, { on := 8, ground := Ground.phase }, { on := 9, ground := Ground.phase }, { on := 10, ground := Ground.phase }, { on := 11, ground := Ground.phase }, { on := 12, ground := Ground.phase }, { on := 13, ground := Ground.phase }, { on := 14, ground := Ground.phase }, { on := 15, ground := Ground.phase }, { on := 16, ground := Ground.phase }, { on := 17, ground := Ground.phase }, { on := 18, ground := Ground.phase }], guard := none }) (v := ?_) rfl (by kernel_rfl) (by kernel_rfl) (by kernel_rfl) (fun _ _ _ h => h) (Or.inl ⟨by rfl, ?_⟩) (by assumption) ?_
        rotate_left
        focus (intro w hSw; (try dsimp only at hSw); go_simp <;> with_reducible rfl)
        try simp only [Act.put, List.setIfInBounds_toArray, List.set_cons_zero, List.set_cons_succ]
        refine wpAnyH_done (by kernel_rfl) ?_ _
        clear hHeld
        obtain ⟨⟨g0, g1, g2, g3, g4, g5⟩, -⟩ := HG.out.facts
        clear c0 c1 c2 c3 hv
        have HE := Lib.hid (hK.trans (HT.out.1.trans HK4.out))
        go_wp2_with fail
        go_roundw
        case rel => exact ⟨k + 1, by go_num, by omega, HE.out⟩
        case measure => simp [intOf]; omega
      · obtain ⟨m, hm⟩ : ∃ m, m = wr.heap.size := ⟨_, rfl⟩
        rw [← hm]
        generalize hy1 : World.drew (World.alloc wr _) = y1
        have HQ : Hid (Keep [] wr y1 ∧ Zero6 y1 m ∧ wr.heap.size ≤ m) := Lib.hid (by
          subst hy1 hm
          exact ⟨((Keep.refl [] wr).alloc _).drew, heap_alloc_same wr _, Nat.le_refl _⟩)
        clear hy1 hm
        refine shut_grow (fun x => Keep [] wr x ∧ x.cell? ⟨bx + 1 + 1, k, none⟩ = some v ∧ x.cell? ⟨bx, 0, none⟩ = some (.int .u32 x0) ∧ x.cell? ⟨bx, 1, none⟩ = some (.int .u32 x1)) hK (fun _ h => h) ⟨HQ.out.1, HQ.out.1.cell hv (by simp), HQ.out.1.cell c0 (by simp), HQ.out.1.cell c1 (by simp)⟩ (fun hHeld => ?_)
        clear hK K
        skip
        refine wpAnyH_ready (rs := [8]) (by kernel_rfl) (by simp) ?_
        refine AllReadyH.cons (o := { dst := some 29, op := Op.call { callee := Callee.value (Operand.func 31), args := #[Operand.tmp 24, Operand.tmp 26, Operand.const (Value.int IntKind.i64 16), Operand.tmp 28], argTypes := #[22, 26, 3, 26] }, type := 59, pos := "law.go:117", after := #[{ on := 3, ground := Ground.data }, { on := 5, ground := Ground.data }, { on := 7, ground := Ground.data }], guard := none }) rfl (fun K hK => ?_) AllReadyH.nil
        go_simp
        refine (L1.out _ HQ.out.1).mono ?_
        rintro e y2 ⟨rfl, hK1⟩
        simp only [wayV, Option.isSome_none]
        have HR : Hid (Keep [] wr y2 ∧ y2.cell? ⟨bx + 1 + 1, k, none⟩ = some v ∧ y2.cell? ⟨bx, 0, none⟩ = some (.int .u32 x0) ∧ y2.cell? ⟨bx, 1, none⟩ = some (.int .u32 x1) ∧ Zero6 y2 m ∧ wr.heap.size ≤ m) := Lib.hid ⟨HQ.out.1.trans hK1, (HQ.out.1.trans hK1).cell hv (by simp), (HQ.out.1.trans hK1).cell c0 (by simp), (HQ.out.1.trans hK1).cell c1 (by simp), hK1.heap HQ.out.2.1 (by simp), HQ.out.2.2⟩
        clear hK1
        go_wp2_with fail
        have HS : Hid (Keep [] wr (six y2 m) ∧ (six y2 m).cell? ⟨bx + 1 + 1, k, none⟩ = some v ∧ (six y2 m).cell? ⟨bx, 0, none⟩ = some (.int .u32 x0) ∧ (six y2 m).cell? ⟨bx, 1, none⟩ = some (.int .u32 x1)) := Lib.hid (by
          have hk6 := six_keep HR.out.1 HR.out.2.2.2.2.2
          exact ⟨hk6, hk6.cell hv (by simp), hk6.cell c0 (by simp), hk6.cell c1 (by simp)⟩)
        obtain ⟨⟨g0, g1, g2, g3, g4, g5⟩, ⟨f0, f1, f2, f3, f4, f5⟩⟩ := HR.out.2.2.2.2.1.facts
        refine shut_grow (fun x => Keep [] wr x ∧ x.cell? ⟨bx + 1 + 1, k, none⟩ = some v ∧ x.cell? ⟨bx, 0, none⟩ = some (.int .u32 x0) ∧ x.cell? ⟨bx, 1, none⟩ = some (.int .u32 x1)) hK (fun _ h => h) ⟨HR.out.1, HR.out.2.1, HR.out.2.2.1, HR.out.2.2.2.1⟩ (fun hHeld => ?_)
        clear hK K
        refine wpAnyH_take (i := 9) (oi := { dst := some 20, op := Op.move (Operand.tmp 29), type := 59, pos := "law.go:117", after := #[{ on := 8, ground := Ground.data }], guard := none }) (v := ?_) rfl (by kernel_rfl) (by kernel_rfl) (by kernel_rfl) (fun _ _ _ h => h) (Or.inl ⟨by rfl, ?_⟩) (by assumption) ?_
        rotate_left
        focus (intro w hSw; (try dsimp only at hSw); go_simp <;> with_reducible rfl)
        try simp only [Act.put, List.setIfInBounds_toArray, List.set_cons_zero, List.set_cons_succ]
        refine wpAnyH_take (i := 10) (oi := { dst := some 30, op := Op.extract (Operand.tmp 20) 0, type := 58, pos := "law.go:117", after := #[{ on := 9, ground := Ground.data }], guard := none }) (v := ?_) rfl (by kernel_rfl) (by kernel_rfl) (by kernel_rfl) (fun _ _ _ h => h) (Or.inl ⟨by rfl, ?_⟩) (by assumption) ?_
        rotate_left
        focus (intro w hSw; (try dsimp only at hSw); go_simp <;> with_reducible rfl)
        try simp only [Act.put, List.setIfInBounds_toArray, List.set_cons_zero, List.set_cons_succ]
        refine wpAnyH_take (i := 11) (oi := { dst := some 31, op := Op.extract (Operand.tmp 20) 1, type := 4, pos := "law.go:117", after := #[{ on := 9, ground := Ground.data }, { on := 13, ground := Ground.gcOnly Departure.lateStores }], guard := none }) (v := ?_) rfl (by kernel_rfl) (by kernel_rfl) (by kernel_rfl) (fun _ _ _ h => h) (Or.inl ⟨by rfl, ?_⟩) (by assumption) ?_
        rotate_left
        focus (intro w hSw; (try dsimp only at hSw); go_simp <;> with_reducible rfl)
        try simp only [Act.put, List.setIfInBounds_toArray, List.set_cons_zero, List.set_cons_succ]
        refine wpAnyH_ready (rs := [13]) (by kernel_rfl) (by simp) ?_
        refine AllReadyH.cons (o := { dst := none, op := Op.store 58 (Operand.tmp 6) (Operand.tmp 30), type := 0, pos := "law.go:117", after := #[{ on := 12, ground := Ground.data }, { on := 10, ground := Ground.data }, { on := 8, ground := Ground.chain }, { on := 0, ground := Ground.phase }, { on := 1, ground := Ground.phase }, { on := 2, ground := Ground.phase }, { on := 3, ground := Ground.phase }, { on := 4, ground := Ground.phase }, { on := 5, ground := Ground.phase }, { on := 6, ground := Ground.phase }, { on := 7, ground := Ground.phase }, { on := 8, ground := Ground.phase }, { on := 9, ground := Ground.phase }, { on := 10, ground := Ground.phase }, { on := 11, ground := Ground.textOnly Departure.lateStores }, { on := 12, ground := Ground.phase }], guard := none }) rfl (fun K hK => ?_) AllReadyH.nil
        go_simp
        refine shut_grow (fun z => z = six y2 m) hK (fun z h => by rw [h]; exact HS.out) rfl (fun hHeld => ?_)
        clear hK K
        refine wpAnyH_take (i := 14) (oi := { dst := some 7, op := Op.assign (Operand.tmp 31), type := 4, pos := "law.go:117", after := #[{ on := 11, ground := Ground.data }, { on := 13, ground := Ground.chain }, { on := 0, ground := Ground.phase }, { on := 1, ground := Ground.phase }, { on := 2, ground := Ground.phase }, { on := 3, ground := Ground.phase }, { on := 4, ground := Ground.phase }, { on := 5, ground := Ground.phase }, { on := 6, ground := Ground.phase }, { on := 7, ground := Ground.phase }, { on := 8, ground := Ground.phase }, { on := 9, ground := Ground.phase }, { on := 10, ground := Ground.phase }, { on := 11, ground := Ground.phase }, { on := 12, ground := Ground.phase }, { on := 13, ground := Ground.phase }], guard := none }) (v := ?_) rfl (by kernel_rfl) (by kernel_rfl) (by kernel_rfl) (fun _ _ _ h => h) (Or.inl ⟨by rfl, ?_⟩) (by assumption) ?_
        rotate_left
        focus (intro w hSw; (try dsimp only at hSw); go_simp <;> with_reducible rfl)
        try simp only [Act.put, List.setIfInBounds_toArray, List.set_cons_zero, List.set_cons_succ]
        refine wpAnyH_done (by kernel_rfl) ?_ _
        clear hHeld
        have HT : Hid (Keep [] wr (six y2 m) ∧ Zero6 (six y2 m) m) := Lib.hid ⟨HS.out.1, HR.out.2.2.2.2.1.six⟩
        change Exit.then _ _ _ _ (six y2 m)
        generalize six y2 m = y3 at HT
        clear HS HR HQ g0 g1 g2 g3 g4 g5 f0 f1 f2 f3 f4 f5
        replace c0 := HT.out.1.cell c0 (by simp)
        replace c1 := HT.out.1.cell c1 (by simp)
        replace c2 := HT.out.1.cell c2 (by simp)
        replace c3 := HT.out.1.cell c3 (by simp)
        replace hv := HT.out.1.cell hv (by simp)
        have HL2 := Lib.hid (fun z hz => L2.out z (HT.out.1.trans hz))
        have HZ := Lib.hid HT.out.2
        go_wp2_with fail
        refine wp_region_held_drew (S := fun x => Keep [] y3 x ∧ x.cell? ⟨bx + 1 + 1, k, none⟩ = some v ∧ x.cell? ⟨bx, 0, none⟩ = some (.int .u32 x0) ∧ x.cell? ⟨bx, 1, none⟩ = some (.int .u32 x1) ∧ x.cell? ⟨bx, 2, none⟩ = some (.int .u32 x2) ∧ x.cell? ⟨bx, 3, none⟩ = some (.int .u32 x3)) (by kernel_rfl) ⟨(Keep.refl [] y3).drew, hv, c0, c1, c2, c3⟩ (fun hHeld => ?_)
        skip
        refine wpAnyH_take (i := 0) (oi := { dst := some 33, op := Op.move (Operand.tmp 4), type := 76, pos := "law.go:118", after := #[], guard := none }) (v := ?_) rfl (by kernel_rfl) (by kernel_rfl) (by kernel_rfl) (fun _ _ _ h => h) (Or.inl ⟨by rfl, ?_⟩) (by assumption) ?_
        rotate_left
        focus (intro w hSw; (try dsimp only at hSw); go_simp <;> with_reducible rfl)
        try simp only [Act.put, List.setIfInBounds_toArray, List.set_cons_zero, List.set_cons_succ]
        refine wpAnyH_take (i := 1) (oi := { dst := some 34, op := Op.move (Operand.tmp 5), type := 3, pos := "law.go:118", after := #[], guard := none }) (v := ?_) rfl (by kernel_rfl) (by kernel_rfl) (by kernel_rfl) (fun _ _ _ h => h) (Or.inl ⟨by rfl, ?_⟩) (by assumption) ?_
        rotate_left
        focus (intro w hSw; (try dsimp only at hSw); go_simp <;> with_reducible rfl)
        try simp only [Act.put, List.setIfInBounds_toArray, List.set_cons_zero, List.set_cons_succ]
        refine wpAnyH_take (i := 2) (oi := { dst := some 35, op := Op.indexAddr 76 (Operand.tmp 33) (Operand.tmp 34), type := 0, pos := "law.go:118", after := #[{ on := 0, ground := Ground.data }, { on := 1, ground := Ground.data }], guard := none }) (v := ?_) rfl (by kernel_rfl) (by kernel_rfl) (by kernel_rfl) (fun _ _ _ h => h) (Or.inl ⟨by rfl, ?_⟩) (by assumption) ?_
        rotate_left
        focus (intro w hSw; (try dsimp only at hSw); go_simp <;> with_reducible rfl)
        try simp only [Act.put, List.setIfInBounds_toArray, List.set_cons_zero, List.set_cons_succ]
        refine wpAnyH_take (i := 3) (oi := { dst := some 36, op := Op.load 22 (Operand.tmp 35), type := 22, pos := "law.go:118", after := #[{ on := 2, ground := Ground.data }], guard := none }) (v := ?_) rfl (by kernel_rfl) (by kernel_rfl) (by kernel_rfl) (fun _ _ _ h => h) (Or.inl ⟨by rfl, ?_⟩) (by assumption) ?_
        rotate_left
        focus (intro w hSw; (try dsimp only at hSw); go_simp <;> with_reducible rfl)
        try simp only [Act.put, List.setIfInBounds_toArray, List.set_cons_zero, List.set_cons_succ]
        refine wpAnyH_take (i := 4) (oi := { dst := some 37, op := Op.indexAddr 66 (Operand.tmp 1) (Operand.const (Value.int IntKind.i64 0)), type := 0, pos := "law.go:118", after := #[], guard := none }) (v := ?_) rfl (by kernel_rfl) (by kernel_rfl) (by kernel_rfl) (fun _ _ _ h => h) (Or.inl ⟨by rfl, ?_⟩) (by assumption) ?_
        rotate_left
        focus (intro w hSw; (try dsimp only at hSw); go_simp <;> with_reducible rfl)
        try simp only [Act.put, List.setIfInBounds_toArray, List.set_cons_zero, List.set_cons_succ]
        refine wpAnyH_take (i := 5) (oi := { dst := some 38, op := Op.load 26 (Operand.tmp 37), type := 26, pos := "law.go:118", after := #[{ on := 4, ground := Ground.data }], guard := none }) (v := ?_) rfl (by kernel_rfl) (by kernel_rfl) (by kernel_rfl) (fun _ _ _ h => h) (Or.inl ⟨by rfl, ?_⟩) (by assumption) ?_
        rotate_left
        focus (intro w hSw; (try dsimp only at hSw); go_simp <;> with_reducible rfl)
        try simp only [Act.put, List.setIfInBounds_toArray, List.set_cons_zero, List.set_cons_succ]
        refine wpAnyH_take (i := 6) (oi := { dst := some 39, op := Op.indexAddr 66 (Operand.tmp 1) (Operand.const (Value.int IntKind.i64 2)), type := 0, pos := "law.go:118", after := #[], guard := none }) (v := ?_) rfl (by kernel_rfl) (by kernel_rfl) (by kernel_rfl) (fun _ _ _ h => h) (Or.inl ⟨by rfl, ?_⟩) (by assumption) ?_
        rotate_left
        focus (intro w hSw; (try dsimp only at hSw); go_simp <;> with_reducible rfl)
        try simp only [Act.put, List.setIfInBounds_toArray, List.set_cons_zero, List.set_cons_succ]
        refine wpAnyH_take (i := 7) (oi := { dst := some 40, op := Op.load 26 (Operand.tmp 39), type := 26, pos := "law.go:118", after := #[{ on := 6, ground := Ground.data }], guard := none }) (v := ?_) rfl (by kernel_rfl) (by kernel_rfl) (by kernel_rfl) (fun _ _ _ h => h) (Or.inl ⟨by rfl, ?_⟩) (by assumption) ?_
        rotate_left
        focus (intro w hSw; (try dsimp only at hSw); go_simp <;> with_reducible rfl)
        try simp only [Act.put, List.setIfInBounds_toArray, List.set_cons_zero, List.set_cons_succ]
        refine wpAnyH_take (i := 8) (oi := { dst := some 41, op := Op.indexAddr 66 (Operand.tmp 1) (Operand.const (Value.int IntKind.i64 1)), type := 0, pos := "law.go:118", after := #[], guard := none }) (v := ?_) rfl (by kernel_rfl) (by kernel_rfl) (by kernel_rfl) (fun _ _ _ h => h) (Or.inl ⟨by rfl, ?_⟩) (by assumption) ?_
        rotate_left
        focus (intro w hSw; (try dsimp only at hSw); go_simp <;> with_reducible rfl)
        try simp only [Act.put, List.setIfInBounds_toArray, List.set_cons_zero, List.set_cons_succ]
        refine wpAnyH_take (i := 9) (oi := { dst := some 42, op := Op.load 26 (Operand.tmp 41), type := 26, pos := "law.go:118", after := #[{ on := 8, ground := Ground.data }], guard := none }) (v := ?_) rfl (by kernel_rfl) (by kernel_rfl) (by kernel_rfl) (fun _ _ _ h => h) (Or.inl ⟨by rfl, ?_⟩) (by assumption) ?_
        rotate_left
        focus (intro w hSw; (try dsimp only at hSw); go_simp <;> with_reducible rfl)
        try simp only [Act.put, List.setIfInBounds_toArray, List.set_cons_zero, List.set_cons_succ]
        refine wpAnyH_take (i := 10) (oi := { dst := some 43, op := Op.indexAddr 66 (Operand.tmp 1) (Operand.const (Value.int IntKind.i64 3)), type := 0, pos := "law.go:118", after := #[], guard := none }) (v := ?_) rfl (by kernel_rfl) (by kernel_rfl) (by kernel_rfl) (fun _ _ _ h => h) (Or.inl ⟨by rfl, ?_⟩) (by assumption) ?_
        rotate_left
        focus (intro w hSw; (try dsimp only at hSw); go_simp <;> with_reducible rfl)
        try simp only [Act.put, List.setIfInBounds_toArray, List.set_cons_zero, List.set_cons_succ]
        refine wpAnyH_take (i := 11) (oi := { dst := some 44, op := Op.load 26 (Operand.tmp 43), type := 26, pos := "law.go:118", after := #[{ on := 10, ground := Ground.data }], guard := none }) (v := ?_) rfl (by kernel_rfl) (by kernel_rfl) (by kernel_rfl) (fun _ _ _ h => h) (Or.inl ⟨by rfl, ?_⟩) (by assumption) ?_
        rotate_left
        focus (intro w hSw; (try dsimp only at hSw); go_simp <;> with_reducible rfl)
        try simp only [Act.put, List.setIfInBounds_toArray, List.set_cons_zero, List.set_cons_succ]
        refine wpAnyH_take (i := 12) (oi := { dst := some 45, op := Op.binOp BinOp.rem 26 (Operand.tmp 44) (Operand.const (Value.int IntKind.u32 5)) 26, type := 26, pos := "law.go:118", after := #[{ on := 11, ground := Ground.data }], guard := none }) (v := ?_) rfl (by kernel_rfl) (by kernel_rfl) (by kernel_rfl) (fun _ _ _ h => h) (Or.inl ⟨by rfl, ?_⟩) (by assumption) ?_
        rotate_left
        focus (intro w hSw; (try dsimp only at hSw); go_simp <;> with_reducible rfl)
        try simp only [Act.put, List.setIfInBounds_toArray, List.set_cons_zero, List.set_cons_succ]
        refine wpAnyH_take (i := 13) (oi := { dst := some 46, op := Op.convert 26 3 (Operand.tmp 45), type := 3, pos := "law.go:118", after := #[{ on := 12, ground := Ground.data }], guard := none }) (v := ?_) rfl (by kernel_rfl) (by kernel_rfl) (by kernel_rfl) (fun _ _ _ h => h) (Or.inl ⟨by rfl, ?_⟩) (by assumption) ?_
        rotate_left
        focus (intro w hSw; (try dsimp only at hSw); go_simp <;> with_reducible rfl)
        try simp only [Act.put, List.setIfInBounds_toArray, List.set_cons_zero, List.set_cons_succ]
        refine wpAnyH_ready (rs := [14]) (by kernel_rfl) (by simp) ?_
        refine AllReadyH.cons (o := { dst := some 47, op := Op.call { callee := Callee.value (Operand.func 41), args := #[Operand.tmp 36, Operand.tmp 38, Operand.const (Value.int IntKind.i64 16), Operand.tmp 40, Operand.tmp 42, Operand.tmp 46], argTypes := #[22, 26, 3, 26, 26, 3] }, type := 43, pos := "law.go:118", after := #[{ on := 3, ground := Ground.data }, { on := 5, ground := Ground.data }, { on := 7, ground := Ground.data }, { on := 9, ground := Ground.data }, { on := 13, ground := Ground.data }], guard := none }) rfl (fun K hK => ?_) AllReadyH.nil
        go_simp
        refine (HL2.out _ hHeld.1).mono ?_
        rintro e y4 ⟨rfl, hK4⟩
        have HK4 := Lib.hid (hHeld.1.trans hK4)
        have HG : Hid (Zero6 y4 m) := Lib.hid (HK4.out.heap HZ.out (by simp))
        clear hK4
        go_wp2_with fail
        refine shut_grow (fun x => x = y4) hK (fun _ h => by rw [h]; exact ⟨HK4.out, HK4.out.cell hv (by simp), HK4.out.cell c0 (by simp), HK4.out.cell c1 (by simp), HK4.out.cell c2 (by simp), HK4.out.cell c3 (by simp)⟩) rfl (fun hHeld => ?_)
        clear hK K
        refine wpAnyH_take (i := 15) (oi := { dst := some 32, op := Op.move (Operand.tmp 47), type := 43, pos := "law.go:118", after := #[{ on := 14, ground := Ground.data }], guard := none }) (v := ?_) rfl (by kernel_rfl) (by kernel_rfl) (by kernel_rfl) (fun _ _ _ h => h) (Or.inl ⟨by rfl, ?_⟩) (by assumption) ?_
        rotate_left
        focus (intro w hSw; (try dsimp only at hSw); go_simp <;> with_reducible rfl)
        try simp only [Act.put, List.setIfInBounds_toArray, List.set_cons_zero, List.set_cons_succ]
        refine wpAnyH_take (i := 16) (oi := { dst := some 48, op := Op.extract (Operand.tmp 32) 0, type := 26, pos := "law.go:118", after := #[{ on := 15, ground := Ground.data }], guard := none }) (v := ?_) rfl (by kernel_rfl) (by kernel_rfl) (by kernel_rfl) (fun _ _ _ h => h) (Or.inl ⟨by rfl, ?_⟩) (by assumption) ?_
        rotate_left
        focus (intro w hSw; (try dsimp only at hSw); go_simp <;> with_reducible rfl)
        try simp only [Act.put, List.setIfInBounds_toArray, List.set_cons_zero, List.set_cons_succ]
        refine wpAnyH_take (i := 17) (oi := { dst := some 49, op := Op.extract (Operand.tmp 32) 1, type := 4, pos := "law.go:118", after := #[{ on := 15, ground := Ground.data }, { on := 18, ground := Ground.gcOnly Departure.lateStores }], guard := none }) (v := ?_) rfl (by kernel_rfl) (by kernel_rfl) (by kernel_rfl) (fun _ _ _ h => h) (Or.inl ⟨by rfl, ?_⟩) (by assumption) ?_
        rotate_left
        focus (intro w hSw; (try dsimp only at hSw); go_simp <;> with_reducible rfl)
        try simp only [Act.put, List.setIfInBounds_toArray, List.set_cons_zero, List.set_cons_succ]
        refine wpAnyH_take (i := 18) (oi := { dst := some 8, op := Op.assign (Operand.tmp 48), type := 26, pos := "law.go:118", after := #[{ on := 16, ground := Ground.data }, { on := 14, ground := Ground.chain }, { on := 0, ground := Ground.phase }, { on := 1, ground := Ground.phase }, { on := 2, ground := Ground.phase }, { on := 3, ground := Ground.phase }, { on := 4, ground := Ground.phase }, { on := 5, ground := Ground.phase }, { on := 6, ground := Ground.phase }, { on := 7, ground := Ground.phase }, { on := 8, ground := Ground.phase }, { on := 9, ground := Ground.phase }, { on := 10, ground := Ground.phase }, { on := 11, ground := Ground.phase }, { on := 12, ground := Ground.phase }, { on := 13, ground := Ground.phase }, { on := 14, ground := Ground.phase }, { on := 15, ground := Ground.phase }, { on := 16, ground := Ground.phase }, { on := 17, ground := Ground.textOnly Departure.lateStores }], guard := none }) (v := ?_) rfl (by kernel_rfl) (by kernel_rfl) (by kernel_rfl) (fun _ _ _ h => h) (Or.inl ⟨by rfl, ?_⟩) (by assumption) ?_
        rotate_left
        focus (intro w hSw; (try dsimp only at hSw); go_simp <;> with_reducible rfl)
        try simp only [Act.put, List.setIfInBounds_toArray, List.set_cons_zero, List.set_cons_succ]
        refine wpAnyH_take (i := 19) (oi := { dst := some 9, op := Op.assign (Operand.tmp 49), type := 4, pos := "law.go:118", after := #[{ on := 17, ground := Ground.data }, { on := 18, ground := Ground.chain }, { on := 0, ground := Ground.phase }, { on := 1, ground := Ground.phase }, { on := 2, ground := Ground.phase }, { on := 3, ground := Ground.phase }, { on := 4, ground := Ground.phase }, { on := 5, ground := Ground.phase }, { on := 6, ground := Ground.phase }, { on := 7, ground := Ground.phase }, { on := 8, ground := Ground.phase }, { on := 9, ground := Ground.phase }, { on := 10, ground := Ground.phase }, { on := 11, ground := Ground.phase }, { on := 12, ground := Ground.phase }, { on := 13, ground := Ground.phase }, { on := 14, ground := Ground.phase }, { on := 15, ground := Ground.phase }, { on := 16, ground := Ground.phase }, { on := 17, ground := Ground.phase }, { on := 18, ground := Ground.phase }], guard := none }) (v := ?_) rfl (by kernel_rfl) (by kernel_rfl) (by kernel_rfl) (fun _ _ _ h => h) (Or.inl ⟨by rfl, ?_⟩) (by assumption) ?_
        rotate_left
        focus (intro w hSw; (try dsimp only at hSw); go_simp <;> with_reducible rfl)
        try simp only [Act.put, List.setIfInBounds_toArray, List.set_cons_zero, List.set_cons_succ]
        refine wpAnyH_done (by kernel_rfl) ?_ _
        clear hHeld
        obtain ⟨⟨g0, g1, g2, g3, g4, g5⟩, -⟩ := HG.out.facts
        clear c0 c1 c2 c3 hv
        have HE := Lib.hid (hK.trans (HT.out.1.trans HK4.out))
        go_wp2_with fail
        go_roundw
        case rel => exact ⟨k + 1, by go_num, by omega, HE.out⟩
        case measure => simp [intOf]; omega
    · have hlt' : ¬ ((k : Int) < 2) := by omega
      have HW := Lib.hid ((works_at wr).mono fun e x (h : e = .returned (.bool true) ∧ Keep [] wr x) => (show e = .returned (.bool true) ∧ Below w.heap.size w x from ⟨h.1, Keep.below ((HY.out.1.trans hK).trans h.2) (Nat.le_refl _) (by simp)⟩))
      go_wp2_with fail
      refine HW.out.mono ?_
      rintro e y9 ⟨rfl, hF⟩
      have hF := Lib.hid hF
      go_wp2_with fail
      go_ret
      exact ⟨rfl, hF.out⟩
end Go.Proofs.Yteoanahfbfflbaa
