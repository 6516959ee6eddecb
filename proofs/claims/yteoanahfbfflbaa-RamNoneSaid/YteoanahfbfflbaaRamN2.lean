/- A step over a memory with no frame. -/
import Derived.Test.YteoanahfbfflbaaRamN1
import Derived.Outline
namespace Go.Proofs.Yteoanahfbfflbaa
open Go.RowKit Go.Mum
set_option linter.unusedVariables false

theorem nbyte {w : World} {v : Value} (h : Sz w v 0) (a : Nat) (ha : a < 4294967296) : Calls Try.prog 19 #[v, .int .u32 a] w (RdPost (.int .u8 0) false w) :=
  (rbyte_no h a ha (by omega)).mono fun e w' h => ⟨h.1, by rw [← h.2]; exact Keep.refl _ _⟩
theorem nword {w : World} {v : Value} (h : Sz w v 0) (a : Nat) (ha : a < 4294967296) : Calls Try.prog 26 #[v, .int .u32 a] w (RdPost (.int .u32 0) false w) :=
  (rword_no h a ha (by omega)).mono fun e w' h => ⟨h.1, by rw [← h.2]; exact Keep.refl _ _⟩
theorem nframe {w : World} {v : Value} (h : Sz w v 0) (k : Int) (h1 : -9223372036854775808 ≤ k) (h2 : k ≤ 9223372036854775807) : Calls Try.prog 20 #[v, .int .i64 k] w (RowPost [] w) :=
  (rframe_no h k h1 h2 (by omega)).mono fun e w' h => by obtain ⟨rfl, rfl⟩ := h; exact rowPost_none
theorem nrebyte (w : World) (a : Nat) (ha : a < 4294967296) : Calls Try.prog 47 #[.agg #[.slice none 0 0], .int .u32 a] w (RdPost (.int .u8 0) false w) :=
  fbyte_no (ref_none w) a (by simp) ha
theorem nreword (w : World) (a : Nat) (ha : a < 4294967296) : Calls Try.prog 48 #[.agg #[.slice none 0 0], .int .u32 a] w (RdPost (.int .u32 0) false w) :=
  fword_no (ref_none w) a ha (.inr (by simp))
theorem nreframe (w : World) (k : Int) (h1 : -9223372036854775808 ≤ k) (h2 : k ≤ 9223372036854775807) : Calls Try.prog 36 #[.agg #[.slice none 0 0], .int .i64 k] w (RowPost [] w) :=
  fframe_no (ref_none w) k h1 h2 (by simp; omega)

/-- What stands in the two boxes. -/
def Boxed0 (x : World) (b : Nat) (kind : Int) (a W : Nat) (sb : Option Addr) (m cb : Nat) (N : Int) : Prop :=
  x.cell? ⟨b, 0, none⟩ = some (.slice none 0 0) ∧ x.cell? ⟨b + 1, 0, none⟩ = some (.int .i64 kind) ∧ x.cell? ⟨b + 1, 1, none⟩ = some (.int .u32 a) ∧ x.cell? ⟨b + 1, 2, none⟩ = some (.int .u32 W) ∧ x.cell? ⟨b + 1, 3, none⟩ = some (.slice sb m cb) ∧ x.cell? ⟨b + 1, 4, none⟩ = some (.int .i64 N)

set_option maxRecDepth 100000 in
set_option maxHeartbeats 4000000 in
theorem nstep_0 {w : World} {v : Value} (h : Sz w v 0) (a W : Nat) (ha : a < 4294967296) (hW : W < 4294967296) {sb : Option Addr} {cb : Nat} {M : List Int} (hM : Row w sb cb M)
    (hm : M.length ≤ 9223372036854775807) (N : Int) (hN1 : -9223372036854775808 ≤ N) (hN2 : N ≤ 9223372036854775807) :
    Calls Try.prog 29 #[v, .agg #[.slice none 0 0], .agg #[.int .i64 0, .int .u32 a, .int .u32 W, .slice sb M.length cb, .int .i64 N]] w (OkPost true w) := by
  have H := Lib.hid (And.intro h hM)
  clear h hM
  go_enter Try.func29, Try.ntmps29
  go_wp2_with fail
  refine (near_at a ha _).mono ?_
  rintro e y0 ⟨rfl, rfl⟩
  have hA := near_lt ha
  generalize near a = A at hA
  obtain ⟨y, hy⟩ : ∃ y, y = (w.alloc (.cells #[.slice none 0 0] 35)).alloc (.cells #[.int .i64 0, .int .u32 a, .int .u32 W, .slice sb M.length cb, .int .i64 N] 48) := ⟨_, rfl⟩
  have HY : Hid (Keep [] w y ∧ Boxed0 y w.heap.size 0 a W sb M.length cb N) := Lib.hid (by
    subst hy
    have h1 := heap_alloc_other (.cells #[.int .i64 0, .int .u32 a, .int .u32 W, .slice sb M.length cb, .int .i64 N] 48) (heap_alloc_same w (.cells #[.slice none 0 0] 35))
    have h2 := heap_alloc_at (n := w.heap.size + 1) (.cells #[.int .i64 0, .int .u32 a, .int .u32 W, .slice sb M.length cb, .int .i64 N] 48) (show w.heap.size + 1 = (w.alloc (.cells #[.slice none 0 0] 35)).heap.size by simp)
    exact ⟨((Keep.refl _ _).alloc _).alloc _, cell_of h1 0 rfl, cell_of h2 0 rfl, cell_of h2 1 rfl, cell_of h2 2 rfl, cell_of h2 3 rfl, cell_of h2 4 rfl⟩)
  rw [← hy]
  clear hy
  have hcs := HY.out.2
  unfold Boxed0 at hcs
  obtain ⟨c0, c1, c2, c3, c4, c5⟩ := hcs
  have C1 := Lib.hid (nbyte (H.out.1.keep0 HY.out.1) A hA)
  have C2 := Lib.hid (fun x => nrebyte x A hA)
  go_wp2_with fail
  refine C1.out.mono ?_
  rintro e y1 ⟨rfl, hK1⟩
  have HK1 := Lib.hid (HY.out.1.trans hK1)
  have c0' := hK1.cell c0 (by simp)
  clear hK1 c0 c1 c2 c3 c4 c5
  go_wp2_with fail
  refine (C2.out _).mono ?_
  rintro e y2 ⟨rfl, hK2⟩
  have HF := Lib.hid (HK1.out.trans hK2)
  clear hK2
  go_wp2_with fail
  go_ret
  exact ⟨rfl, HF.out⟩
set_option maxRecDepth 100000 in
set_option maxHeartbeats 4000000 in
theorem nstep_1 {w : World} {v : Value} (h : Sz w v 0) (a W : Nat) (ha : a < 4294967296) (hW : W < 4294967296) {sb : Option Addr} {cb : Nat} {M : List Int} (hM : Row w sb cb M)
    (hm : M.length ≤ 9223372036854775807) (N : Int) (hN1 : -9223372036854775808 ≤ N) (hN2 : N ≤ 9223372036854775807) :
    Calls Try.prog 29 #[v, .agg #[.slice none 0 0], .agg #[.int .i64 1, .int .u32 a, .int .u32 W, .slice sb M.length cb, .int .i64 N]] w (OkPost true w) := by
  have H := Lib.hid (And.intro h hM)
  clear h hM
  go_enter Try.func29, Try.ntmps29
  go_wp2_with fail
  refine (near_at a ha _).mono ?_
  rintro e y0 ⟨rfl, rfl⟩
  have hA := near_lt ha
  generalize near a = A at hA
  obtain ⟨y, hy⟩ : ∃ y, y = (w.alloc (.cells #[.slice none 0 0] 35)).alloc (.cells #[.int .i64 1, .int .u32 a, .int .u32 W, .slice sb M.length cb, .int .i64 N] 48) := ⟨_, rfl⟩
  have HY : Hid (Keep [] w y ∧ Boxed0 y w.heap.size 1 a W sb M.length cb N) := Lib.hid (by
    subst hy
    have h1 := heap_alloc_other (.cells #[.int .i64 1, .int .u32 a, .int .u32 W, .slice sb M.length cb, .int .i64 N] 48) (heap_alloc_same w (.cells #[.slice none 0 0] 35))
    have h2 := heap_alloc_at (n := w.heap.size + 1) (.cells #[.int .i64 1, .int .u32 a, .int .u32 W, .slice sb M.length cb, .int .i64 N] 48) (show w.heap.size + 1 = (w.alloc (.cells #[.slice none 0 0] 35)).heap.size by simp)
    exact ⟨((Keep.refl _ _).alloc _).alloc _, cell_of h1 0 rfl, cell_of h2 0 rfl, cell_of h2 1 rfl, cell_of h2 2 rfl, cell_of h2 3 rfl, cell_of h2 4 rfl⟩)
  rw [← hy]
  clear hy
  have hcs := HY.out.2
  unfold Boxed0 at hcs
  obtain ⟨c0, c1, c2, c3, c4, c5⟩ := hcs
  obtain ⟨Z, hZe, hZ⟩ : ∃ Z : Int, IntKind.u8.wrap (W : Int) = Z ∧ 0 ≤ Z ∧ Z < 256 := ⟨_, rfl, by rw [IntKind.wrap_u8]; omega⟩
  obtain ⟨fls, hfl⟩ : ∃ fls, fls = false := ⟨_, rfl⟩
  have HC : Hid (∀ x, Keep [] w x → Calls Try.prog 23 #[v, .int .u32 A, .int .u8 Z] x (OkPost fls x)) := Lib.hid fun x hx => by rw [hfl]; exact nsetbyte (H.out.1.keep0 hx) A hA _ hZ
  have HD : Hid (∀ x, Keep [] w x → Calls Try.prog 35 #[.agg #[.slice none 0 0], .int .u32 A, .int .u8 Z] x (OkPost fls x)) := Lib.hid fun x hx => by rw [hfl]; exact (fsetbyte_no (ref_none x) A (by simp) hA Z).mono fun _ _ => ok_of
  clear hfl
  go_wp2_with fail
  refine wp_region_held_drew (S := fun x => Keep [] w x ∧ x.cell? ⟨w.heap.size, 0, none⟩ = some (.slice none 0 0) ∧ x.cell? ⟨w.heap.size + 1, 2, none⟩ = some (.int .u32 W)) (by kernel_rfl) ⟨HY.out.1.drew, c0, c3⟩ (fun hHeld => ?_)
  skip
  refine wpAnyH_take (i := 0) (oi := { dst := some 45, op := Op.move (Operand.tmp 0), type := 22, pos := "law.go:67", after := #[], guard := none }) (v := ?_) rfl (by kernel_rfl) (by kernel_rfl) (by kernel_rfl) (fun _ _ _ h => h) (Or.inl ⟨by rfl, ?_⟩) (by assumption) ?_
  rotate_left
  focus (intro w hSw; (try dsimp only at hSw); go_simp <;> with_reducible rfl)
  try simp only [Act.put, List.setIfInBounds_toArray, List.set_cons_zero, List.set_cons_succ]
  refine wpAnyH_take (i := 1) (oi := { dst := some 46, op := Op.move (Operand.tmp 7), type := 26, pos := "law.go:67", after := #[], guard := none }) (v := ?_) rfl (by kernel_rfl) (by kernel_rfl) (by kernel_rfl) (fun _ _ _ h => h) (Or.inl ⟨by rfl, ?_⟩) (by assumption) ?_
  rotate_left
  focus (intro w hSw; (try dsimp only at hSw); go_simp <;> with_reducible rfl)
  try simp only [Act.put, List.setIfInBounds_toArray, List.set_cons_zero, List.set_cons_succ]
  refine wpAnyH_take (i := 2) (oi := { dst := some 47, op := Op.fieldAddr 48 (Operand.tmp 5) 2, type := 0, pos := "law.go:67", after := #[], guard := none }) (v := ?_) rfl (by kernel_rfl) (by kernel_rfl) (by kernel_rfl) (fun _ _ _ h => h) (Or.inl ⟨by rfl, ?_⟩) (by assumption) ?_
  rotate_left
  focus (intro w hSw; (try dsimp only at hSw); go_simp <;> with_reducible rfl)
  try simp only [Act.put, List.setIfInBounds_toArray, List.set_cons_zero, List.set_cons_succ]
  refine wpAnyH_take (i := 3) (oi := { dst := some 48, op := Op.load 26 (Operand.tmp 47), type := 26, pos := "law.go:67", after := #[{ on := 2, ground := Ground.data }], guard := none }) (v := ?_) rfl (by kernel_rfl) (by kernel_rfl) (by kernel_rfl) (fun _ _ _ h => h) (Or.inl ⟨by rfl, ?_⟩) (by assumption) ?_
  rotate_left
  focus (intro w hSw; (try dsimp only at hSw); go_simp <;> with_reducible rfl)
  try simp only [Act.put, List.setIfInBounds_toArray, List.set_cons_zero, List.set_cons_succ]
  refine wpAnyH_take (i := 4) (oi := { dst := some 49, op := Op.convert 26 5 (Operand.tmp 48), type := 5, pos := "law.go:67", after := #[{ on := 3, ground := Ground.data }], guard := none }) (v := ?_) rfl (by kernel_rfl) (by kernel_rfl) (by kernel_rfl) (fun _ _ _ h => h) (Or.inl ⟨by rfl, ?_⟩) (by assumption) ?_
  rotate_left
  focus (intro w hSw; (try dsimp only at hSw); go_simp <;> with_reducible rfl)
  try simp only [Act.put, List.setIfInBounds_toArray, List.set_cons_zero, List.set_cons_succ]
  refine wpAnyH_take (i := 6) (oi := { dst := some 51, op := Op.load 35 (Operand.tmp 4), type := 35, pos := "law.go:67", after := #[], guard := none }) (v := ?_) rfl (by kernel_rfl) (by kernel_rfl) (by kernel_rfl) (fun _ _ _ h => h) (Or.inl ⟨by rfl, ?_⟩) (by assumption) ?_
  rotate_left
  focus (intro w hSw; (try dsimp only at hSw); go_simp <;> with_reducible rfl)
  try simp only [Act.put, List.setIfInBounds_toArray, List.set_cons_zero, List.set_cons_succ]
  refine wpAnyH_take (i := 7) (oi := { dst := some 52, op := Op.move (Operand.tmp 7), type := 26, pos := "law.go:67", after := #[], guard := none }) (v := ?_) rfl (by kernel_rfl) (by kernel_rfl) (by kernel_rfl) (fun _ _ _ h => h) (Or.inl ⟨by rfl, ?_⟩) (by assumption) ?_
  rotate_left
  focus (intro w hSw; (try dsimp only at hSw); go_simp <;> with_reducible rfl)
  try simp only [Act.put, List.setIfInBounds_toArray, List.set_cons_zero, List.set_cons_succ]
  refine wpAnyH_take (i := 8) (oi := { dst := some 53, op := Op.fieldAddr 48 (Operand.tmp 5) 2, type := 0, pos := "law.go:67", after := #[], guard := none }) (v := ?_) rfl (by kernel_rfl) (by kernel_rfl) (by kernel_rfl) (fun _ _ _ h => h) (Or.inl ⟨by rfl, ?_⟩) (by assumption) ?_
  rotate_left
  focus (intro w hSw; (try dsimp only at hSw); go_simp <;> with_reducible rfl)
  try simp only [Act.put, List.setIfInBounds_toArray, List.set_cons_zero, List.set_cons_succ]
  refine wpAnyH_take (i := 9) (oi := { dst := some 54, op := Op.load 26 (Operand.tmp 53), type := 26, pos := "law.go:67", after := #[{ on := 8, ground := Ground.data }], guard := none }) (v := ?_) rfl (by kernel_rfl) (by kernel_rfl) (by kernel_rfl) (fun _ _ _ h => h) (Or.inl ⟨by rfl, ?_⟩) (by assumption) ?_
  rotate_left
  focus (intro w hSw; (try dsimp only at hSw); go_simp <;> with_reducible rfl)
  try simp only [Act.put, List.setIfInBounds_toArray, List.set_cons_zero, List.set_cons_succ]
  refine wpAnyH_take (i := 10) (oi := { dst := some 55, op := Op.convert 26 5 (Operand.tmp 54), type := 5, pos := "law.go:67", after := #[{ on := 9, ground := Ground.data }], guard := none }) (v := ?_) rfl (by kernel_rfl) (by kernel_rfl) (by kernel_rfl) (fun _ _ _ h => h) (Or.inl ⟨by rfl, ?_⟩) (by assumption) ?_
  rotate_left
  focus (intro w hSw; (try dsimp only at hSw); go_simp <;> with_reducible rfl)
  try simp only [Act.put, List.setIfInBounds_toArray, List.set_cons_zero, List.set_cons_succ]
  refine wpAnyH_ready (rs := [5]) (by kernel_rfl) (by simp) ?_
  refine AllReadyH.cons (o := { dst := some 50, op := Op.call { callee := Callee.value (Operand.func 23), args := #[Operand.tmp 45, Operand.tmp 46, Operand.tmp 49], argTypes := #[22, 26, 5] }, type := 4, pos := "law.go:67", after := #[{ on := 0, ground := Ground.data }, { on := 1, ground := Ground.data }, { on := 4, ground := Ground.data }], guard := none }) rfl (fun K hK => ?_) AllReadyH.nil
  go_simp
  refine (HC.out _ HY.out.1.drew).mono ?_
  rintro e y1 ⟨rfl, hk1⟩
  have hS1 : Keep [] w y1 ∧ y1.cell? ⟨w.heap.size, 0, none⟩ = some (.slice none 0 0) ∧ y1.cell? ⟨w.heap.size + 1, 2, none⟩ = some (.int .u32 W) := ⟨hHeld.1.trans hk1, hk1.cell c0 (by simp), hk1.cell c3 (by simp)⟩
  clear hk1
  go_wp2_with fail
  refine shut_grow (fun x => Keep [] w x ∧ x.cell? ⟨w.heap.size, 0, none⟩ = some (.slice none 0 0) ∧ x.cell? ⟨w.heap.size + 1, 2, none⟩ = some (.int .u32 W)) hK (fun _ h => h) hS1 (fun hHeld => ?_)
  clear hK K
  skip
  refine wpAnyH_ready (rs := [11]) (by kernel_rfl) (by simp) ?_
  refine AllReadyH.cons (o := { dst := some 56, op := Op.call { callee := Callee.value (Operand.func 35), args := #[Operand.tmp 51, Operand.tmp 52, Operand.tmp 55], argTypes := #[35, 26, 5] }, type := 4, pos := "law.go:67", after := #[{ on := 6, ground := Ground.data }, { on := 7, ground := Ground.data }, { on := 10, ground := Ground.data }, { on := 5, ground := Ground.chain }], guard := none }) rfl (fun K hK => ?_) AllReadyH.nil
  go_simp
  refine (HD.out _ hS1.1).mono ?_
  rintro e y2 ⟨rfl, hk2⟩
  have HF := Lib.hid (hS1.1.trans hk2)
  have hS2 : Keep [] w y2 ∧ y2.cell? ⟨w.heap.size, 0, none⟩ = some (.slice none 0 0) ∧ y2.cell? ⟨w.heap.size + 1, 2, none⟩ = some (.int .u32 W) := ⟨hS1.1.trans hk2, hk2.cell hS1.2.1 (by simp), hk2.cell hS1.2.2 (by simp)⟩
  clear hk2
  go_wp2_with fail
  refine shut_grow (fun x => x = y2) hK (fun _ h => by rw [h]; exact hS2) rfl (fun hHeld => ?_)
  clear hK K
  refine wpAnyH_take (i := 12) (oi := { dst := some 57, op := Op.binOp BinOp.eql 4 (Operand.tmp 50) (Operand.tmp 56) 4, type := 4, pos := "law.go:67", after := #[{ on := 5, ground := Ground.data }, { on := 11, ground := Ground.data }], guard := none }) (v := ?_) rfl (by kernel_rfl) (by kernel_rfl) (by kernel_rfl) (fun _ _ _ h => h) (Or.inl ⟨by rfl, ?_⟩) (by assumption) ?_
  rotate_left
  focus (intro w hSw; (try dsimp only at hSw); go_simp <;> with_reducible rfl)
  try simp only [Act.put, List.setIfInBounds_toArray, List.set_cons_zero, List.set_cons_succ]
  refine wpAnyH_take (i := 13) (oi := { dst := some 6, op := Op.assign (Operand.tmp 57), type := 4, pos := "law.go:67", after := #[{ on := 12, ground := Ground.data }, { on := 11, ground := Ground.chain }, { on := 0, ground := Ground.phase }, { on := 1, ground := Ground.phase }, { on := 2, ground := Ground.phase }, { on := 3, ground := Ground.phase }, { on := 4, ground := Ground.phase }, { on := 5, ground := Ground.phase }, { on := 6, ground := Ground.phase }, { on := 7, ground := Ground.phase }, { on := 8, ground := Ground.phase }, { on := 9, ground := Ground.phase }, { on := 10, ground := Ground.phase }, { on := 11, ground := Ground.phase }, { on := 12, ground := Ground.phase }], guard := none }) (v := ?_) rfl (by kernel_rfl) (by kernel_rfl) (by kernel_rfl) (fun _ _ _ h => h) (Or.inl ⟨by rfl, ?_⟩) (by assumption) ?_
  rotate_left
  focus (intro w hSw; (try dsimp only at hSw); go_simp <;> with_reducible rfl)
  try simp only [Act.put, List.setIfInBounds_toArray, List.set_cons_zero, List.set_cons_succ]
  refine wpAnyH_done (by kernel_rfl) ?_ _
  go_wp2_with fail
  go_ret
  exact ⟨rfl, HF.out⟩
set_option maxRecDepth 100000 in
set_option maxHeartbeats 4000000 in
theorem nstep_2 {w : World} {v : Value} (h : Sz w v 0) (a W : Nat) (ha : a < 4294967296) (hW : W < 4294967296) {sb : Option Addr} {cb : Nat} {M : List Int} (hM : Row w sb cb M)
    (hm : M.length ≤ 9223372036854775807) (N : Int) (hN1 : -9223372036854775808 ≤ N) (hN2 : N ≤ 9223372036854775807) :
    Calls Try.prog 29 #[v, .agg #[.slice none 0 0], .agg #[.int .i64 2, .int .u32 a, .int .u32 W, .slice sb M.length cb, .int .i64 N]] w (OkPost true w) := by
  have H := Lib.hid (And.intro h hM)
  clear h hM
  go_enter Try.func29, Try.ntmps29
  go_wp2_with fail
  refine (near_at a ha _).mono ?_
  rintro e y0 ⟨rfl, rfl⟩
  have hA := near_lt ha
  generalize near a = A at hA
  obtain ⟨y, hy⟩ : ∃ y, y = (w.alloc (.cells #[.slice none 0 0] 35)).alloc (.cells #[.int .i64 2, .int .u32 a, .int .u32 W, .slice sb M.length cb, .int .i64 N] 48) := ⟨_, rfl⟩
  have HY : Hid (Keep [] w y ∧ Boxed0 y w.heap.size 2 a W sb M.length cb N) := Lib.hid (by
    subst hy
    have h1 := heap_alloc_other (.cells #[.int .i64 2, .int .u32 a, .int .u32 W, .slice sb M.length cb, .int .i64 N] 48) (heap_alloc_same w (.cells #[.slice none 0 0] 35))
    have h2 := heap_alloc_at (n := w.heap.size + 1) (.cells #[.int .i64 2, .int .u32 a, .int .u32 W, .slice sb M.length cb, .int .i64 N] 48) (show w.heap.size + 1 = (w.alloc (.cells #[.slice none 0 0] 35)).heap.size by simp)
    exact ⟨((Keep.refl _ _).alloc _).alloc _, cell_of h1 0 rfl, cell_of h2 0 rfl, cell_of h2 1 rfl, cell_of h2 2 rfl, cell_of h2 3 rfl, cell_of h2 4 rfl⟩)
  rw [← hy]
  clear hy
  have hcs := HY.out.2
  unfold Boxed0 at hcs
  obtain ⟨c0, c1, c2, c3, c4, c5⟩ := hcs
  have C1 := Lib.hid (nword (H.out.1.keep0 HY.out.1) A hA)
  have C2 := Lib.hid (fun x => nreword x A hA)
  go_wp2_with fail
  refine C1.out.mono ?_
  rintro e y1 ⟨rfl, hK1⟩
  have HK1 := Lib.hid (HY.out.1.trans hK1)
  have c0' := hK1.cell c0 (by simp)
  clear hK1 c0 c1 c2 c3 c4 c5
  go_wp2_with fail
  refine (C2.out _).mono ?_
  rintro e y2 ⟨rfl, hK2⟩
  have HF := Lib.hid (HK1.out.trans hK2)
  clear hK2
  go_wp2_with fail
  go_ret
  exact ⟨rfl, HF.out⟩
set_option maxRecDepth 100000 in
set_option maxHeartbeats 4000000 in
theorem nstep_3 {w : World} {v : Value} (h : Sz w v 0) (a W : Nat) (ha : a < 4294967296) (hW : W < 4294967296) {sb : Option Addr} {cb : Nat} {M : List Int} (hM : Row w sb cb M)
    (hm : M.length ≤ 9223372036854775807) (N : Int) (hN1 : -9223372036854775808 ≤ N) (hN2 : N ≤ 9223372036854775807) :
    Calls Try.prog 29 #[v, .agg #[.slice none 0 0], .agg #[.int .i64 3, .int .u32 a, .int .u32 W, .slice sb M.length cb, .int .i64 N]] w (OkPost true w) := by
  have H := Lib.hid (And.intro h hM)
  clear h hM
  go_enter Try.func29, Try.ntmps29
  go_wp2_with fail
  refine (near_at a ha _).mono ?_
  rintro e y0 ⟨rfl, rfl⟩
  have hA := near_lt ha
  generalize near a = A at hA
  obtain ⟨y, hy⟩ : ∃ y, y = (w.alloc (.cells #[.slice none 0 0] 35)).alloc (.cells #[.int .i64 3, .int .u32 a, .int .u32 W, .slice sb M.length cb, .int .i64 N] 48) := ⟨_, rfl⟩
  have HY : Hid (Keep [] w y ∧ Boxed0 y w.heap.size 3 a W sb M.length cb N) := Lib.hid (by
    subst hy
    have h1 := heap_alloc_other (.cells #[.int .i64 3, .int .u32 a, .int .u32 W, .slice sb M.length cb, .int .i64 N] 48) (heap_alloc_same w (.cells #[.slice none 0 0] 35))
    have h2 := heap_alloc_at (n := w.heap.size + 1) (.cells #[.int .i64 3, .int .u32 a, .int .u32 W, .slice sb M.length cb, .int .i64 N] 48) (show w.heap.size + 1 = (w.alloc (.cells #[.slice none 0 0] 35)).heap.size by simp)
    exact ⟨((Keep.refl _ _).alloc _).alloc _, cell_of h1 0 rfl, cell_of h2 0 rfl, cell_of h2 1 rfl, cell_of h2 2 rfl, cell_of h2 3 rfl, cell_of h2 4 rfl⟩)
  rw [← hy]
  clear hy
  have hcs := HY.out.2
  unfold Boxed0 at hcs
  obtain ⟨c0, c1, c2, c3, c4, c5⟩ := hcs
  obtain ⟨fls, hfl⟩ : ∃ fls, fls = false := ⟨_, rfl⟩
  have HC : Hid (∀ x, Keep [] w x → Calls Try.prog 25 #[v, .int .u32 A, .int .u32 W] x (OkPost fls x)) := Lib.hid fun x hx => by rw [hfl]; exact nsetword (H.out.1.keep0 hx) A hA W hW
  have HD : Hid (∀ x, Keep [] w x → Calls Try.prog 49 #[.agg #[.slice none 0 0], .int .u32 A, .int .u32 W] x (OkPost fls x)) := Lib.hid fun x hx => by rw [hfl]; exact (fsetword_no (ref_none x) A hA (.inr (by simp)) W).mono fun _ _ => ok_of
  clear hfl
  go_wp2_with fail
  refine wp_region_held_drew (S := fun x => Keep [] w x ∧ x.cell? ⟨w.heap.size, 0, none⟩ = some (.slice none 0 0) ∧ x.cell? ⟨w.heap.size + 1, 2, none⟩ = some (.int .u32 W)) (by kernel_rfl) ⟨HY.out.1.drew, c0, c3⟩ (fun hHeld => ?_)
  skip
  refine wpAnyH_take (i := 0) (oi := { dst := some 82, op := Op.move (Operand.tmp 0), type := 22, pos := "law.go:73", after := #[], guard := none }) (v := ?_) rfl (by kernel_rfl) (by kernel_rfl) (by kernel_rfl) (fun _ _ _ h => h) (Or.inl ⟨by rfl, ?_⟩) (by assumption) ?_
  rotate_left
  focus (intro w hSw; (try dsimp only at hSw); go_simp <;> with_reducible rfl)
  try simp only [Act.put, List.setIfInBounds_toArray, List.set_cons_zero, List.set_cons_succ]
  refine wpAnyH_take (i := 1) (oi := { dst := some 83, op := Op.move (Operand.tmp 7), type := 26, pos := "law.go:73", after := #[], guard := none }) (v := ?_) rfl (by kernel_rfl) (by kernel_rfl) (by kernel_rfl) (fun _ _ _ h => h) (Or.inl ⟨by rfl, ?_⟩) (by assumption) ?_
  rotate_left
  focus (intro w hSw; (try dsimp only at hSw); go_simp <;> with_reducible rfl)
  try simp only [Act.put, List.setIfInBounds_toArray, List.set_cons_zero, List.set_cons_succ]
  refine wpAnyH_take (i := 2) (oi := { dst := some 84, op := Op.fieldAddr 48 (Operand.tmp 5) 2, type := 0, pos := "law.go:73", after := #[], guard := none }) (v := ?_) rfl (by kernel_rfl) (by kernel_rfl) (by kernel_rfl) (fun _ _ _ h => h) (Or.inl ⟨by rfl, ?_⟩) (by assumption) ?_
  rotate_left
  focus (intro w hSw; (try dsimp only at hSw); go_simp <;> with_reducible rfl)
  try simp only [Act.put, List.setIfInBounds_toArray, List.set_cons_zero, List.set_cons_succ]
  refine wpAnyH_take (i := 3) (oi := { dst := some 85, op := Op.load 26 (Operand.tmp 84), type := 26, pos := "law.go:73", after := #[{ on := 2, ground := Ground.data }], guard := none }) (v := ?_) rfl (by kernel_rfl) (by kernel_rfl) (by kernel_rfl) (fun _ _ _ h => h) (Or.inl ⟨by rfl, ?_⟩) (by assumption) ?_
  rotate_left
  focus (intro w hSw; (try dsimp only at hSw); go_simp <;> with_reducible rfl)
  try simp only [Act.put, List.setIfInBounds_toArray, List.set_cons_zero, List.set_cons_succ]
  refine wpAnyH_take (i := 5) (oi := { dst := some 87, op := Op.load 35 (Operand.tmp 4), type := 35, pos := "law.go:73", after := #[], guard := none }) (v := ?_) rfl (by kernel_rfl) (by kernel_rfl) (by kernel_rfl) (fun _ _ _ h => h) (Or.inl ⟨by rfl, ?_⟩) (by assumption) ?_
  rotate_left
  focus (intro w hSw; (try dsimp only at hSw); go_simp <;> with_reducible rfl)
  try simp only [Act.put, List.setIfInBounds_toArray, List.set_cons_zero, List.set_cons_succ]
  refine wpAnyH_take (i := 6) (oi := { dst := some 88, op := Op.move (Operand.tmp 7), type := 26, pos := "law.go:73", after := #[], guard := none }) (v := ?_) rfl (by kernel_rfl) (by kernel_rfl) (by kernel_rfl) (fun _ _ _ h => h) (Or.inl ⟨by rfl, ?_⟩) (by assumption) ?_
  rotate_left
  focus (intro w hSw; (try dsimp only at hSw); go_simp <;> with_reducible rfl)
  try simp only [Act.put, List.setIfInBounds_toArray, List.set_cons_zero, List.set_cons_succ]
  refine wpAnyH_take (i := 7) (oi := { dst := some 89, op := Op.fieldAddr 48 (Operand.tmp 5) 2, type := 0, pos := "law.go:73", after := #[], guard := none }) (v := ?_) rfl (by kernel_rfl) (by kernel_rfl) (by kernel_rfl) (fun _ _ _ h => h) (Or.inl ⟨by rfl, ?_⟩) (by assumption) ?_
  rotate_left
  focus (intro w hSw; (try dsimp only at hSw); go_simp <;> with_reducible rfl)
  try simp only [Act.put, List.setIfInBounds_toArray, List.set_cons_zero, List.set_cons_succ]
  refine wpAnyH_take (i := 8) (oi := { dst := some 90, op := Op.load 26 (Operand.tmp 89), type := 26, pos := "law.go:73", after := #[{ on := 7, ground := Ground.data }], guard := none }) (v := ?_) rfl (by kernel_rfl) (by kernel_rfl) (by kernel_rfl) (fun _ _ _ h => h) (Or.inl ⟨by rfl, ?_⟩) (by assumption) ?_
  rotate_left
  focus (intro w hSw; (try dsimp only at hSw); go_simp <;> with_reducible rfl)
  try simp only [Act.put, List.setIfInBounds_toArray, List.set_cons_zero, List.set_cons_succ]
  refine wpAnyH_ready (rs := [4]) (by kernel_rfl) (by simp) ?_
  refine AllReadyH.cons (o := { dst := some 86, op := Op.call { callee := Callee.value (Operand.func 25), args := #[Operand.tmp 82, Operand.tmp 83, Operand.tmp 85], argTypes := #[22, 26, 26] }, type := 4, pos := "law.go:73", after := #[{ on := 0, ground := Ground.data }, { on := 1, ground := Ground.data }, { on := 3, ground := Ground.data }], guard := none }) rfl (fun K hK => ?_) AllReadyH.nil
  go_simp
  refine (HC.out _ HY.out.1.drew).mono ?_
  rintro e y1 ⟨rfl, hk1⟩
  have hS1 : Keep [] w y1 ∧ y1.cell? ⟨w.heap.size, 0, none⟩ = some (.slice none 0 0) ∧ y1.cell? ⟨w.heap.size + 1, 2, none⟩ = some (.int .u32 W) := ⟨hHeld.1.trans hk1, hk1.cell c0 (by simp), hk1.cell c3 (by simp)⟩
  clear hk1
  go_wp2_with fail
  refine shut_grow (fun x => Keep [] w x ∧ x.cell? ⟨w.heap.size, 0, none⟩ = some (.slice none 0 0) ∧ x.cell? ⟨w.heap.size + 1, 2, none⟩ = some (.int .u32 W)) hK (fun _ h => h) hS1 (fun hHeld => ?_)
  clear hK K
  skip
  refine wpAnyH_ready (rs := [9]) (by kernel_rfl) (by simp) ?_
  refine AllReadyH.cons (o := { dst := some 91, op := Op.call { callee := Callee.value (Operand.func 49), args := #[Operand.tmp 87, Operand.tmp 88, Operand.tmp 90], argTypes := #[35, 26, 26] }, type := 4, pos := "law.go:73", after := #[{ on := 5, ground := Ground.data }, { on := 6, ground := Ground.data }, { on := 8, ground := Ground.data }, { on := 4, ground := Ground.chain }], guard := none }) rfl (fun K hK => ?_) AllReadyH.nil
  go_simp
  refine (HD.out _ hS1.1).mono ?_
  rintro e y2 ⟨rfl, hk2⟩
  have HF := Lib.hid (hS1.1.trans hk2)
  have hS2 : Keep [] w y2 ∧ y2.cell? ⟨w.heap.size, 0, none⟩ = some (.slice none 0 0) ∧ y2.cell? ⟨w.heap.size + 1, 2, none⟩ = some (.int .u32 W) := ⟨hS1.1.trans hk2, hk2.cell hS1.2.1 (by simp), hk2.cell hS1.2.2 (by simp)⟩
  clear hk2
  go_wp2_with fail
  refine shut_grow (fun x => x = y2) hK (fun _ h => by rw [h]; exact hS2) rfl (fun hHeld => ?_)
  clear hK K
  refine wpAnyH_take (i := 10) (oi := { dst := some 92, op := Op.binOp BinOp.eql 4 (Operand.tmp 86) (Operand.tmp 91) 4, type := 4, pos := "law.go:73", after := #[{ on := 4, ground := Ground.data }, { on := 9, ground := Ground.data }], guard := none }) (v := ?_) rfl (by kernel_rfl) (by kernel_rfl) (by kernel_rfl) (fun _ _ _ h => h) (Or.inl ⟨by rfl, ?_⟩) (by assumption) ?_
  rotate_left
  focus (intro w hSw; (try dsimp only at hSw); go_simp <;> with_reducible rfl)
  try simp only [Act.put, List.setIfInBounds_toArray, List.set_cons_zero, List.set_cons_succ]
  refine wpAnyH_take (i := 11) (oi := { dst := some 6, op := Op.assign (Operand.tmp 92), type := 4, pos := "law.go:73", after := #[{ on := 10, ground := Ground.data }, { on := 9, ground := Ground.chain }, { on := 0, ground := Ground.phase }, { on := 1, ground := Ground.phase }, { on := 2, ground := Ground.phase }, { on := 3, ground := Ground.phase }, { on := 4, ground := Ground.phase }, { on := 5, ground := Ground.phase }, { on := 6, ground := Ground.phase }, { on := 7, ground := Ground.phase }, { on := 8, ground := Ground.phase }, { on := 9, ground := Ground.phase }, { on := 10, ground := Ground.phase }], guard := none }) (v := ?_) rfl (by kernel_rfl) (by kernel_rfl) (by kernel_rfl) (fun _ _ _ h => h) (Or.inl ⟨by rfl, ?_⟩) (by assumption) ?_
  rotate_left
  focus (intro w hSw; (try dsimp only at hSw); go_simp <;> with_reducible rfl)
  try simp only [Act.put, List.setIfInBounds_toArray, List.set_cons_zero, List.set_cons_succ]
  refine wpAnyH_done (by kernel_rfl) ?_ _
  go_wp2_with fail
  go_ret
  exact ⟨rfl, HF.out⟩
set_option maxRecDepth 100000 in
set_option maxHeartbeats 4000000 in
theorem nstep_4 {w : World} {v : Value} (h : Sz w v 0) (a W : Nat) (ha : a < 4294967296) (hW : W < 4294967296) {sb : Option Addr} {cb : Nat} {M : List Int} (hM : Row w sb cb M)
    (hm : M.length ≤ 9223372036854775807) (N : Int) (hN1 : -9223372036854775808 ≤ N) (hN2 : N ≤ 9223372036854775807) :
    Calls Try.prog 29 #[v, .agg #[.slice none 0 0], .agg #[.int .i64 4, .int .u32 a, .int .u32 W, .slice sb M.length cb, .int .i64 N]] w (OkPost true w) := by
  have H := Lib.hid (And.intro h hM)
  clear h hM
  go_enter Try.func29, Try.ntmps29
  go_wp2_with fail
  refine (near_at a ha _).mono ?_
  rintro e y0 ⟨rfl, rfl⟩
  have hA := near_lt ha
  generalize near a = A at hA
  obtain ⟨y, hy⟩ : ∃ y, y = (w.alloc (.cells #[.slice none 0 0] 35)).alloc (.cells #[.int .i64 4, .int .u32 a, .int .u32 W, .slice sb M.length cb, .int .i64 N] 48) := ⟨_, rfl⟩
  have HY : Hid (Keep [] w y ∧ Boxed0 y w.heap.size 4 a W sb M.length cb N) := Lib.hid (by
    subst hy
    have h1 := heap_alloc_other (.cells #[.int .i64 4, .int .u32 a, .int .u32 W, .slice sb M.length cb, .int .i64 N] 48) (heap_alloc_same w (.cells #[.slice none 0 0] 35))
    have h2 := heap_alloc_at (n := w.heap.size + 1) (.cells #[.int .i64 4, .int .u32 a, .int .u32 W, .slice sb M.length cb, .int .i64 N] 48) (show w.heap.size + 1 = (w.alloc (.cells #[.slice none 0 0] 35)).heap.size by simp)
    exact ⟨((Keep.refl _ _).alloc _).alloc _, cell_of h1 0 rfl, cell_of h2 0 rfl, cell_of h2 1 rfl, cell_of h2 2 rfl, cell_of h2 3 rfl, cell_of h2 4 rfl⟩)
  rw [← hy]
  clear hy
  have hcs := HY.out.2
  unfold Boxed0 at hcs
  obtain ⟨c0, c1, c2, c3, c4, c5⟩ := hcs

  have HC : Hid (∀ x, Keep [] w x → Calls Try.prog 24 #[v, .int .u32 A, .slice sb M.length cb] x (OkPost (layB 0 A M.length 1) x)) := Lib.hid fun x hx => nfill (H.out.1.keep0 hx) A hA hm
  have HD : Hid (∀ x, Keep [] w x → Calls Try.prog 50 #[.agg #[.slice none 0 0], .int .u32 A, .slice sb M.length cb] x (OkPost (layB 0 A M.length 1) x)) := Lib.hid fun x hx => nrefill x A hA (H.out.2.keep0 hx) hm
  generalize (layB 0 A M.length 1) = ok at HC HD
  go_wp2_with fail
  refine wp_region_held_drew (S := fun x => Keep [] w x ∧ x.cell? ⟨w.heap.size, 0, none⟩ = some (.slice none 0 0) ∧ x.cell? ⟨w.heap.size + 1, 3, none⟩ = some (.slice sb M.length cb)) (by kernel_rfl) ⟨HY.out.1.drew, c0, c4⟩ (fun hHeld => ?_)
  skip
  refine wpAnyH_take (i := 0) (oi := { dst := some 95, op := Op.move (Operand.tmp 0), type := 22, pos := "law.go:75", after := #[], guard := none }) (v := ?_) rfl (by kernel_rfl) (by kernel_rfl) (by kernel_rfl) (fun _ _ _ h => h) (Or.inl ⟨by rfl, ?_⟩) (by assumption) ?_
  rotate_left
  focus (intro w hSw; (try dsimp only at hSw); go_simp <;> with_reducible rfl)
  try simp only [Act.put, List.setIfInBounds_toArray, List.set_cons_zero, List.set_cons_succ]
  refine wpAnyH_take (i := 1) (oi := { dst := some 96, op := Op.move (Operand.tmp 7), type := 26, pos := "law.go:75", after := #[], guard := none }) (v := ?_) rfl (by kernel_rfl) (by kernel_rfl) (by kernel_rfl) (fun _ _ _ h => h) (Or.inl ⟨by rfl, ?_⟩) (by assumption) ?_
  rotate_left
  focus (intro w hSw; (try dsimp only at hSw); go_simp <;> with_reducible rfl)
  try simp only [Act.put, List.setIfInBounds_toArray, List.set_cons_zero, List.set_cons_succ]
  refine wpAnyH_take (i := 2) (oi := { dst := some 97, op := Op.fieldAddr 48 (Operand.tmp 5) 3, type := 0, pos := "law.go:75", after := #[], guard := none }) (v := ?_) rfl (by kernel_rfl) (by kernel_rfl) (by kernel_rfl) (fun _ _ _ h => h) (Or.inl ⟨by rfl, ?_⟩) (by assumption) ?_
  rotate_left
  focus (intro w hSw; (try dsimp only at hSw); go_simp <;> with_reducible rfl)
  try simp only [Act.put, List.setIfInBounds_toArray, List.set_cons_zero, List.set_cons_succ]
  refine wpAnyH_take (i := 3) (oi := { dst := some 98, op := Op.load 30 (Operand.tmp 97), type := 30, pos := "law.go:75", after := #[{ on := 2, ground := Ground.data }], guard := none }) (v := ?_) rfl (by kernel_rfl) (by kernel_rfl) (by kernel_rfl) (fun _ _ _ h => h) (Or.inl ⟨by rfl, ?_⟩) (by assumption) ?_
  rotate_left
  focus (intro w hSw; (try dsimp only at hSw); go_simp <;> with_reducible rfl)
  try simp only [Act.put, List.setIfInBounds_toArray, List.set_cons_zero, List.set_cons_succ]
  refine wpAnyH_take (i := 5) (oi := { dst := some 100, op := Op.load 35 (Operand.tmp 4), type := 35, pos := "law.go:75", after := #[], guard := none }) (v := ?_) rfl (by kernel_rfl) (by kernel_rfl) (by kernel_rfl) (fun _ _ _ h => h) (Or.inl ⟨by rfl, ?_⟩) (by assumption) ?_
  rotate_left
  focus (intro w hSw; (try dsimp only at hSw); go_simp <;> with_reducible rfl)
  try simp only [Act.put, List.setIfInBounds_toArray, List.set_cons_zero, List.set_cons_succ]
  refine wpAnyH_take (i := 6) (oi := { dst := some 101, op := Op.move (Operand.tmp 7), type := 26, pos := "law.go:75", after := #[], guard := none }) (v := ?_) rfl (by kernel_rfl) (by kernel_rfl) (by kernel_rfl) (fun _ _ _ h => h) (Or.inl ⟨by rfl, ?_⟩) (by assumption) ?_
  rotate_left
  focus (intro w hSw; (try dsimp only at hSw); go_simp <;> with_reducible rfl)
  try simp only [Act.put, List.setIfInBounds_toArray, List.set_cons_zero, List.set_cons_succ]
  refine wpAnyH_take (i := 7) (oi := { dst := some 102, op := Op.fieldAddr 48 (Operand.tmp 5) 3, type := 0, pos := "law.go:75", after := #[], guard := none }) (v := ?_) rfl (by kernel_rfl) (by kernel_rfl) (by kernel_rfl) (fun _ _ _ h => h) (Or.inl ⟨by rfl, ?_⟩) (by assumption) ?_
  rotate_left
  focus (intro w hSw; (try dsimp only at hSw); go_simp <;> with_reducible rfl)
  try simp only [Act.put, List.setIfInBounds_toArray, List.set_cons_zero, List.set_cons_succ]
  refine wpAnyH_take (i := 8) (oi := { dst := some 103, op := Op.load 30 (Operand.tmp 102), type := 30, pos := "law.go:75", after := #[{ on := 7, ground := Ground.data }], guard := none }) (v := ?_) rfl (by kernel_rfl) (by kernel_rfl) (by kernel_rfl) (fun _ _ _ h => h) (Or.inl ⟨by rfl, ?_⟩) (by assumption) ?_
  rotate_left
  focus (intro w hSw; (try dsimp only at hSw); go_simp <;> with_reducible rfl)
  try simp only [Act.put, List.setIfInBounds_toArray, List.set_cons_zero, List.set_cons_succ]
  refine wpAnyH_ready (rs := [4]) (by kernel_rfl) (by simp) ?_
  refine AllReadyH.cons (o := { dst := some 99, op := Op.call { callee := Callee.value (Operand.func 24), args := #[Operand.tmp 95, Operand.tmp 96, Operand.tmp 98], argTypes := #[22, 26, 30] }, type := 4, pos := "law.go:75", after := #[{ on := 0, ground := Ground.data }, { on := 1, ground := Ground.data }, { on := 3, ground := Ground.data }], guard := none }) rfl (fun K hK => ?_) AllReadyH.nil
  go_simp
  refine (HC.out _ HY.out.1.drew).mono ?_
  rintro e y1 ⟨rfl, hk1⟩
  have hS1 : Keep [] w y1 ∧ y1.cell? ⟨w.heap.size, 0, none⟩ = some (.slice none 0 0) ∧ y1.cell? ⟨w.heap.size + 1, 3, none⟩ = some (.slice sb M.length cb) := ⟨hHeld.1.trans hk1, hk1.cell c0 (by simp), hk1.cell c4 (by simp)⟩
  clear hk1
  go_wp2_with fail
  refine shut_grow (fun x => Keep [] w x ∧ x.cell? ⟨w.heap.size, 0, none⟩ = some (.slice none 0 0) ∧ x.cell? ⟨w.heap.size + 1, 3, none⟩ = some (.slice sb M.length cb)) hK (fun _ h => h) hS1 (fun hHeld => ?_)
  clear hK K
  skip
  refine wpAnyH_ready (rs := [9]) (by kernel_rfl) (by simp) ?_
  refine AllReadyH.cons (o := { dst := some 104, op := Op.call { callee := Callee.value (Operand.func 50), args := #[Operand.tmp 100, Operand.tmp 101, Operand.tmp 103], argTypes := #[35, 26, 30] }, type := 4, pos := "law.go:75", after := #[{ on := 5, ground := Ground.data }, { on := 6, ground := Ground.data }, { on := 8, ground := Ground.data }, { on := 4, ground := Ground.chain }], guard := none }) rfl (fun K hK => ?_) AllReadyH.nil
  go_simp
  refine (HD.out _ hS1.1).mono ?_
  rintro e y2 ⟨rfl, hk2⟩
  have HF := Lib.hid (hS1.1.trans hk2)
  have hS2 : Keep [] w y2 ∧ y2.cell? ⟨w.heap.size, 0, none⟩ = some (.slice none 0 0) ∧ y2.cell? ⟨w.heap.size + 1, 3, none⟩ = some (.slice sb M.length cb) := ⟨hS1.1.trans hk2, hk2.cell hS1.2.1 (by simp), hk2.cell hS1.2.2 (by simp)⟩
  clear hk2
  go_wp2_with fail
  refine shut_grow (fun x => x = y2) hK (fun _ h => by rw [h]; exact hS2) rfl (fun hHeld => ?_)
  clear hK K
  refine wpAnyH_take (i := 10) (oi := { dst := some 105, op := Op.binOp BinOp.eql 4 (Operand.tmp 99) (Operand.tmp 104) 4, type := 4, pos := "law.go:75", after := #[{ on := 4, ground := Ground.data }, { on := 9, ground := Ground.data }], guard := none }) (v := ?_) rfl (by kernel_rfl) (by kernel_rfl) (by kernel_rfl) (fun _ _ _ h => h) (Or.inl ⟨by rfl, ?_⟩) (by assumption) ?_
  rotate_left
  focus (intro w hSw; (try dsimp only at hSw); go_simp <;> with_reducible rfl)
  try simp only [Act.put, List.setIfInBounds_toArray, List.set_cons_zero, List.set_cons_succ]
  refine wpAnyH_take (i := 11) (oi := { dst := some 6, op := Op.assign (Operand.tmp 105), type := 4, pos := "law.go:75", after := #[{ on := 10, ground := Ground.data }, { on := 9, ground := Ground.chain }, { on := 0, ground := Ground.phase }, { on := 1, ground := Ground.phase }, { on := 2, ground := Ground.phase }, { on := 3, ground := Ground.phase }, { on := 4, ground := Ground.phase }, { on := 5, ground := Ground.phase }, { on := 6, ground := Ground.phase }, { on := 7, ground := Ground.phase }, { on := 8, ground := Ground.phase }, { on := 9, ground := Ground.phase }, { on := 10, ground := Ground.phase }], guard := none }) (v := ?_) rfl (by kernel_rfl) (by kernel_rfl) (by kernel_rfl) (fun _ _ _ h => h) (Or.inl ⟨by rfl, ?_⟩) (by assumption) ?_
  rotate_left
  focus (intro w hSw; (try dsimp only at hSw); go_simp <;> with_reducible rfl)
  try simp only [Act.put, List.setIfInBounds_toArray, List.set_cons_zero, List.set_cons_succ]
  refine wpAnyH_done (by kernel_rfl) ?_ _
  go_wp2_with fail
  go_ret
  exact ⟨rfl, HF.out⟩
set_option maxRecDepth 100000 in
set_option maxHeartbeats 4000000 in
theorem nstep_5 {w : World} {v : Value} (h : Sz w v 0) (a W : Nat) (ha : a < 4294967296) (hW : W < 4294967296) {sb : Option Addr} {cb : Nat} {M : List Int} (hM : Row w sb cb M)
    (hm : M.length ≤ 9223372036854775807) (N : Int) (hN1 : -9223372036854775808 ≤ N) (hN2 : N ≤ 9223372036854775807) :
    Calls Try.prog 29 #[v, .agg #[.slice none 0 0], .agg #[.int .i64 5, .int .u32 a, .int .u32 W, .slice sb M.length cb, .int .i64 N]] w (OkPost true w) := by
  have H := Lib.hid (And.intro h hM)
  clear h hM
  go_enter Try.func29, Try.ntmps29
  go_wp2_with fail
  refine (near_at a ha _).mono ?_
  rintro e y0 ⟨rfl, rfl⟩
  have hA := near_lt ha
  generalize near a = A at hA
  obtain ⟨y, hy⟩ : ∃ y, y = (w.alloc (.cells #[.slice none 0 0] 35)).alloc (.cells #[.int .i64 5, .int .u32 a, .int .u32 W, .slice sb M.length cb, .int .i64 N] 48) := ⟨_, rfl⟩
  have HY : Hid (Keep [] w y ∧ Boxed0 y w.heap.size 5 a W sb M.length cb N) := Lib.hid (by
    subst hy
    have h1 := heap_alloc_other (.cells #[.int .i64 5, .int .u32 a, .int .u32 W, .slice sb M.length cb, .int .i64 N] 48) (heap_alloc_same w (.cells #[.slice none 0 0] 35))
    have h2 := heap_alloc_at (n := w.heap.size + 1) (.cells #[.int .i64 5, .int .u32 a, .int .u32 W, .slice sb M.length cb, .int .i64 N] 48) (show w.heap.size + 1 = (w.alloc (.cells #[.slice none 0 0] 35)).heap.size by simp)
    exact ⟨((Keep.refl _ _).alloc _).alloc _, cell_of h1 0 rfl, cell_of h2 0 rfl, cell_of h2 1 rfl, cell_of h2 2 rfl, cell_of h2 3 rfl, cell_of h2 4 rfl⟩)
  rw [← hy]
  clear hy
  have hcs := HY.out.2
  unfold Boxed0 at hcs
  obtain ⟨c0, c1, c2, c3, c4, c5⟩ := hcs
  have C1 := Lib.hid (nframe (H.out.1.keep0 HY.out.1.drew) N hN1 hN2)
  have C2 := Lib.hid (fun x (hx : Keep [] w x) => nreframe x N hN1 hN2)
  obtain ⟨F, hF⟩ : ∃ F : List Int, F = [] := ⟨_, rfl⟩
  rw [← hF] at C1 C2
  clear hF
  go_wp2_with fail
  refine wp_region_held_drew (S := fun x => Keep [] w x ∧ x.cell? ⟨w.heap.size, 0, none⟩ = some (.slice none 0 0) ∧ x.cell? ⟨w.heap.size + 1, 4, none⟩ = some (.int .i64 N)) (by kernel_rfl) ⟨HY.out.1.drew, c0, c5⟩ (fun hHeld => ?_)
  skip
  refine wpAnyH_take (i := 0) (oi := { dst := some 108, op := Op.move (Operand.tmp 0), type := 22, pos := "law.go:77", after := #[], guard := none }) (v := ?_) rfl (by kernel_rfl) (by kernel_rfl) (by kernel_rfl) (fun _ _ _ h => h) (Or.inl ⟨by rfl, ?_⟩) (by assumption) ?_
  rotate_left
  focus (intro w hSw; (try dsimp only at hSw); go_simp <;> with_reducible rfl)
  try simp only [Act.put, List.setIfInBounds_toArray, List.set_cons_zero, List.set_cons_succ]
  refine wpAnyH_take (i := 1) (oi := { dst := some 109, op := Op.fieldAddr 48 (Operand.tmp 5) 4, type := 0, pos := "law.go:77", after := #[], guard := none }) (v := ?_) rfl (by kernel_rfl) (by kernel_rfl) (by kernel_rfl) (fun _ _ _ h => h) (Or.inl ⟨by rfl, ?_⟩) (by assumption) ?_
  rotate_left
  focus (intro w hSw; (try dsimp only at hSw); go_simp <;> with_reducible rfl)
  try simp only [Act.put, List.setIfInBounds_toArray, List.set_cons_zero, List.set_cons_succ]
  refine wpAnyH_take (i := 2) (oi := { dst := some 110, op := Op.load 3 (Operand.tmp 109), type := 3, pos := "law.go:77", after := #[{ on := 1, ground := Ground.data }], guard := none }) (v := ?_) rfl (by kernel_rfl) (by kernel_rfl) (by kernel_rfl) (fun _ _ _ h => h) (Or.inl ⟨by rfl, ?_⟩) (by assumption) ?_
  rotate_left
  focus (intro w hSw; (try dsimp only at hSw); go_simp <;> with_reducible rfl)
  try simp only [Act.put, List.setIfInBounds_toArray, List.set_cons_zero, List.set_cons_succ]
  refine wpAnyH_take (i := 5) (oi := { dst := some 113, op := Op.load 35 (Operand.tmp 4), type := 35, pos := "law.go:77", after := #[], guard := none }) (v := ?_) rfl (by kernel_rfl) (by kernel_rfl) (by kernel_rfl) (fun _ _ _ h => h) (Or.inl ⟨by rfl, ?_⟩) (by assumption) ?_
  rotate_left
  focus (intro w hSw; (try dsimp only at hSw); go_simp <;> with_reducible rfl)
  try simp only [Act.put, List.setIfInBounds_toArray, List.set_cons_zero, List.set_cons_succ]
  refine wpAnyH_take (i := 6) (oi := { dst := some 114, op := Op.fieldAddr 48 (Operand.tmp 5) 4, type := 0, pos := "law.go:77", after := #[], guard := none }) (v := ?_) rfl (by kernel_rfl) (by kernel_rfl) (by kernel_rfl) (fun _ _ _ h => h) (Or.inl ⟨by rfl, ?_⟩) (by assumption) ?_
  rotate_left
  focus (intro w hSw; (try dsimp only at hSw); go_simp <;> with_reducible rfl)
  try simp only [Act.put, List.setIfInBounds_toArray, List.set_cons_zero, List.set_cons_succ]
  refine wpAnyH_take (i := 7) (oi := { dst := some 115, op := Op.load 3 (Operand.tmp 114), type := 3, pos := "law.go:77", after := #[{ on := 6, ground := Ground.data }], guard := none }) (v := ?_) rfl (by kernel_rfl) (by kernel_rfl) (by kernel_rfl) (fun _ _ _ h => h) (Or.inl ⟨by rfl, ?_⟩) (by assumption) ?_
  rotate_left
  focus (intro w hSw; (try dsimp only at hSw); go_simp <;> with_reducible rfl)
  try simp only [Act.put, List.setIfInBounds_toArray, List.set_cons_zero, List.set_cons_succ]
  refine wpAnyH_ready (rs := [3]) (by kernel_rfl) (by simp) ?_
  refine AllReadyH.cons (o := { dst := some 111, op := Op.call { callee := Callee.value (Operand.func 20), args := #[Operand.tmp 108, Operand.tmp 110], argTypes := #[22, 3] }, type := 30, pos := "law.go:77", after := #[{ on := 0, ground := Ground.data }, { on := 2, ground := Ground.data }], guard := none }) rfl (fun K hK => ?_) AllReadyH.nil
  go_simp
  refine C1.out.mono ?_
  rintro e y1 ⟨b1, k1, rfl, hR1, hK1⟩
  have hq := Lib.hid hR1
  have hS1 : Keep [] w y1 ∧ y1.cell? ⟨w.heap.size, 0, none⟩ = some (.slice none 0 0) ∧ y1.cell? ⟨w.heap.size + 1, 4, none⟩ = some (.int .i64 N) := ⟨hHeld.1.trans hK1, hK1.cell c0 (by simp), hK1.cell c5 (by simp)⟩
  clear hR1 hK1
  go_wp2_with fail
  refine shut_grow (fun x => (Keep [] w x ∧ x.cell? ⟨w.heap.size, 0, none⟩ = some (.slice none 0 0) ∧ x.cell? ⟨w.heap.size + 1, 4, none⟩ = some (.int .i64 N)) ∧ (convert 30 9 (.slice b1 F.length k1)).run Try.prog x = .ok (.string (strOfNums F)) x) hK (fun _ h => h.1) ⟨hS1, str_of hq.out rfl⟩ (fun hHeld => ?_)
  clear hK K
  refine wpAnyH_take (i := 4) (oi := { dst := some 112, op := Op.convert 30 9 (Operand.tmp 111), type := 9, pos := "law.go:77", after := #[{ on := 3, ground := Ground.data }], guard := none }) (v := ?_) rfl (by kernel_rfl) (by kernel_rfl) (by kernel_rfl) (fun _ _ _ h => h) (Or.inl ⟨by rfl, ?_⟩) (by assumption) ?_
  rotate_left
  focus (intro w hSw; (try dsimp only at hSw); go_simp <;> with_reducible rfl)
  try simp only [Act.put, List.setIfInBounds_toArray, List.set_cons_zero, List.set_cons_succ]
  refine wpAnyH_ready (rs := [8]) (by kernel_rfl) (by simp) ?_
  refine AllReadyH.cons (o := { dst := some 116, op := Op.call { callee := Callee.value (Operand.func 36), args := #[Operand.tmp 113, Operand.tmp 115], argTypes := #[35, 3] }, type := 30, pos := "law.go:77", after := #[{ on := 5, ground := Ground.data }, { on := 7, ground := Ground.data }, { on := 3, ground := Ground.chain }], guard := none }) rfl (fun K hK => ?_) AllReadyH.nil
  go_simp
  refine (C2.out _ hS1.1).mono ?_
  rintro e y2 ⟨b2, k2, rfl, hR2, hK2⟩
  have HF := Lib.hid (hS1.1.trans hK2)
  have hp := Lib.hid (And.intro hR2 hK2)
  have hS2 : Keep [] w y2 ∧ y2.cell? ⟨w.heap.size, 0, none⟩ = some (.slice none 0 0) ∧ y2.cell? ⟨w.heap.size + 1, 4, none⟩ = some (.int .i64 N) := ⟨hS1.1.trans hK2, hK2.cell hS1.2.1 (by simp), hK2.cell hS1.2.2 (by simp)⟩
  clear hR2 hK2
  go_wp2_with fail
  refine shut_grow (fun x => x = y2 ∧ (convert 30 9 (.slice b1 F.length k1)).run Try.prog x = .ok (.string (strOfNums F)) x ∧ (convert 30 9 (.slice b2 F.length k2)).run Try.prog x = .ok (.string (strOfNums F)) x) hK (fun x h => ⟨by rw [h.1]; exact hS2, h.2.1⟩) ⟨rfl, str_of (hq.out.keep0 hp.out.2) rfl, str_of hp.out.1 rfl⟩ (fun hHeld => ?_)
  clear hK K
  refine wpAnyH_take (i := 9) (oi := { dst := some 117, op := Op.convert 30 9 (Operand.tmp 116), type := 9, pos := "law.go:77", after := #[{ on := 8, ground := Ground.data }], guard := none }) (v := ?_) rfl (by kernel_rfl) (by kernel_rfl) (by kernel_rfl) (fun _ _ _ h => h) (Or.inl ⟨by rfl, ?_⟩) (by assumption) ?_
  rotate_left
  focus (intro w hSw; (try dsimp only at hSw); go_simp <;> with_reducible rfl)
  try simp only [Act.put, List.setIfInBounds_toArray, List.set_cons_zero, List.set_cons_succ]
  refine wpAnyH_take (i := 10) (oi := { dst := some 118, op := Op.binOp BinOp.eql 9 (Operand.tmp 112) (Operand.tmp 117) 9, type := 4, pos := "law.go:77", after := #[{ on := 4, ground := Ground.data }, { on := 9, ground := Ground.data }], guard := none }) (v := ?_) rfl (by kernel_rfl) (by kernel_rfl) (by kernel_rfl) (fun _ _ _ h => h) (Or.inl ⟨by rfl, ?_⟩) (by assumption) ?_
  rotate_left
  focus (intro w hSw; (try dsimp only at hSw); go_simp <;> with_reducible rfl)
  try simp only [Act.put, List.setIfInBounds_toArray, List.set_cons_zero, List.set_cons_succ]
  refine wpAnyH_take (i := 11) (oi := { dst := some 6, op := Op.assign (Operand.tmp 118), type := 4, pos := "law.go:77", after := #[{ on := 10, ground := Ground.data }, { on := 8, ground := Ground.chain }, { on := 0, ground := Ground.phase }, { on := 1, ground := Ground.phase }, { on := 2, ground := Ground.phase }, { on := 3, ground := Ground.phase }, { on := 4, ground := Ground.phase }, { on := 5, ground := Ground.phase }, { on := 6, ground := Ground.phase }, { on := 7, ground := Ground.phase }, { on := 8, ground := Ground.phase }, { on := 9, ground := Ground.phase }, { on := 10, ground := Ground.phase }], guard := none }) (v := ?_) rfl (by kernel_rfl) (by kernel_rfl) (by kernel_rfl) (fun _ _ _ h => h) (Or.inl ⟨by rfl, ?_⟩) (by assumption) ?_
  rotate_left
  focus (intro w hSw; (try dsimp only at hSw); go_simp <;> with_reducible rfl)
  try simp only [Act.put, List.setIfInBounds_toArray, List.set_cons_zero, List.set_cons_succ]
  refine wpAnyH_done (by kernel_rfl) ?_ _
  go_wp2_with fail
  go_ret
  exact ⟨rfl, HF.out⟩
set_option maxRecDepth 100000 in
set_option maxHeartbeats 4000000 in
theorem nstep_other {w : World} {v : Value} (h : Sz w v 0) (kind : Int) (hk : kind ≠ 0 ∧ kind ≠ 1 ∧ kind ≠ 2 ∧ kind ≠ 3 ∧ kind ≠ 4 ∧ kind ≠ 5) (a W : Nat) (ha : a < 4294967296) (hW : W < 4294967296) {sb : Option Addr} {cb : Nat} {M : List Int} (hM : Row w sb cb M)
    (hm : M.length ≤ 9223372036854775807) (N : Int) (hN1 : -9223372036854775808 ≤ N) (hN2 : N ≤ 9223372036854775807) :
    Calls Try.prog 29 #[v, .agg #[.slice none 0 0], .agg #[.int .i64 kind, .int .u32 a, .int .u32 W, .slice sb M.length cb, .int .i64 N]] w (OkPost true w) := by
  have H := Lib.hid (And.intro h hM)
  clear h hM
  go_enter Try.func29, Try.ntmps29
  go_wp2_with fail
  refine (near_at a ha _).mono ?_
  rintro e y0 ⟨rfl, rfl⟩
  have hA := near_lt ha
  generalize near a = A at hA
  obtain ⟨y, hy⟩ : ∃ y, y = (w.alloc (.cells #[.slice none 0 0] 35)).alloc (.cells #[.int .i64 kind, .int .u32 a, .int .u32 W, .slice sb M.length cb, .int .i64 N] 48) := ⟨_, rfl⟩
  have HY : Hid (Keep [] w y ∧ Boxed0 y w.heap.size kind a W sb M.length cb N) := Lib.hid (by
    subst hy
    have h1 := heap_alloc_other (.cells #[.int .i64 kind, .int .u32 a, .int .u32 W, .slice sb M.length cb, .int .i64 N] 48) (heap_alloc_same w (.cells #[.slice none 0 0] 35))
    have h2 := heap_alloc_at (n := w.heap.size + 1) (.cells #[.int .i64 kind, .int .u32 a, .int .u32 W, .slice sb M.length cb, .int .i64 N] 48) (show w.heap.size + 1 = (w.alloc (.cells #[.slice none 0 0] 35)).heap.size by simp)
    exact ⟨((Keep.refl _ _).alloc _).alloc _, cell_of h1 0 rfl, cell_of h2 0 rfl, cell_of h2 1 rfl, cell_of h2 2 rfl, cell_of h2 3 rfl, cell_of h2 4 rfl⟩)
  rw [← hy]
  clear hy
  have hcs := HY.out.2
  unfold Boxed0 at hcs
  obtain ⟨c0, c1, c2, c3, c4, c5⟩ := hcs
  have e0 : (kind == 0) = false := beq_eq_false_iff_ne.2 hk.1
  have e1 : (kind == 1) = false := beq_eq_false_iff_ne.2 hk.2.1
  have e2 : (kind == 2) = false := beq_eq_false_iff_ne.2 hk.2.2.1
  have e3 : (kind == 3) = false := beq_eq_false_iff_ne.2 hk.2.2.2.1
  have e4 : (kind == 4) = false := beq_eq_false_iff_ne.2 hk.2.2.2.2.1
  have e5 : (kind == 5) = false := beq_eq_false_iff_ne.2 hk.2.2.2.2.2
  have HF := Lib.hid (HY.out.1)
  clear hk hN1 hN2 hW
  go_wp2_with fail
  go_ret
  exact ⟨rfl, HF.out⟩
theorem nstep_at {w : World} {v : Value} (h : Sz w v 0) (kind : Int) (a W : Nat) (ha : a < 4294967296) (hW : W < 4294967296) {sb : Option Addr} {cb : Nat} {M : List Int} (hM : Row w sb cb M)
    (hm : M.length ≤ 9223372036854775807) (N : Int) (hN1 : -9223372036854775808 ≤ N) (hN2 : N ≤ 9223372036854775807) :
    Calls Try.prog 29 #[v, .agg #[.slice none 0 0], .agg #[.int .i64 kind, .int .u32 a, .int .u32 W, .slice sb M.length cb, .int .i64 N]] w (OkPost true w) := by
  by_cases h0 : kind = 0
  · subst h0; exact nstep_0 h a W ha hW hM hm N hN1 hN2
  by_cases h1 : kind = 1
  · subst h1; exact nstep_1 h a W ha hW hM hm N hN1 hN2
  by_cases h2 : kind = 2
  · subst h2; exact nstep_2 h a W ha hW hM hm N hN1 hN2
  by_cases h3 : kind = 3
  · subst h3; exact nstep_3 h a W ha hW hM hm N hN1 hN2
  by_cases h4 : kind = 4
  · subst h4; exact nstep_4 h a W ha hW hM hm N hN1 hN2
  by_cases h5 : kind = 5
  · subst h5; exact nstep_5 h a W ha hW hM hm N hN1 hN2
  · exact nstep_other h kind ⟨h0, h1, h2, h3, h4, h5⟩ a W ha hW hM hm N hN1 hN2
end Go.Proofs.Yteoanahfbfflbaa
