/- A step: both memories answer alike. -/
import Derived.Test.YteoanahfbfflbaaRamP6
import Derived.Outline
namespace Go.Proofs.Yteoanahfbfflbaa
open Go.RowKit Go.Mum
set_option linter.unusedVariables false

/-- What a step leaves. -/
def StepPost (r fb g q n : Nat) (w : World) (e : Ending) (w' : World) : Prop := e = .returned (.bool true) ∧ ∃ L', Both w' r fb g q n L' ∧ Keep [g, q] w w'

theorem step_quiet {r fb g q n : Nat} {L : List Int} {w x : World} (h : Both w r fb g q n L) (hk : Keep [] w x) : StepPost r fb g q n w (.returned (.bool true)) x := ⟨rfl, L, h.keep0 hk, hk.weaken (by simp)⟩

/-- Both have laid the same bytes. -/
theorem step_laid {r fb g q n a al : Nat} {L M : List Int} {w x y z : World} (h : Both w r fb g q n L) (hk : Keep [] w x) (hr : RamAt y r fb g (List.range n) (laid n L a M al)) (hg : Keep [g] x y) (hd : RefAt z (some ⟨q, 0, none⟩) (laid n L a M al)) (hq : Keep [q] y z) :
    StepPost r fb g q n w (.returned (.bool true)) z := by
  have hl := laid_length (a := a) (M := M) (al := al) h.len
  have hr' := hr.keep hq (by simpa using h.qs.1.symm) (by simpa using h.qs.2.1.symm) (by simpa using h.qs.2.2.symm)
  obtain ⟨q', e, hqd⟩ := hd.some_of (by rw [hl, h.len]; have := h.n1; omega)
  cases e
  exact ⟨rfl, _, h.set hl hr' hqd, ((hk.weaken (l' := [g, q]) (by simp)).trans (hg.weaken (l' := [g, q]) (by simp))).trans (hq.weaken (l' := [g, q]) (by simp))⟩

theorem row_none {w x : World} {a : Option Addr} {c : Nat} (h : Row w a c []) : Row x a c [] := by
  refine ⟨h.bytes, h.cap, ?_⟩
  rcases h.at' with h | h | ⟨b, off, e, _⟩
  · exact .inl h
  · exact .inr (.inl h)
  · exact .inr (.inl ⟨rfl, _, e⟩)

theorem fill_later {w x : World} {g q n : Nat} {L M : List Int} {sb : Option Addr} {cb : Nat} (h : RefN x q n L) (hM : Row w sb cb M) (hx : Keep [g] w x) (hsrc : M = [] ∨ ∀ b, sb = some b → b.block ≠ g ∧ b.block ≠ q) (a : Nat) (ha : a < 4294967296) (hm : M.length ≤ 9223372036854775807) :
    Calls Try.prog 50 #[.agg #[.slice (some ⟨q, 0, none⟩) (64 * n) (64 * n)], .int .u32 a, .slice sb M.length cb] x (DPost q n L a M 1 x) := by
  rcases hsrc with h0 | hs
  · subst h0
    exact bfill_d h a ha (row_none hM) (.inl rfl) hm
  · exact bfill_d h a ha (hM.keep hx (fun b hb => by simpa using (hs b hb).1)) (.inr fun b hb => (hs b hb).2) hm

/-- What stands in the two boxes. -/
def Boxed (x : World) (b q n : Nat) (kind : Int) (a W : Nat) (sb : Option Addr) (m cb : Nat) (N : Int) : Prop :=
  x.cell? ⟨b, 0, none⟩ = some (.slice (some ⟨q, 0, none⟩) (64 * n) (64 * n)) ∧ x.cell? ⟨b + 1, 0, none⟩ = some (.int .i64 kind) ∧ x.cell? ⟨b + 1, 1, none⟩ = some (.int .u32 a) ∧ x.cell? ⟨b + 1, 2, none⟩ = some (.int .u32 W) ∧ x.cell? ⟨b + 1, 3, none⟩ = some (.slice sb m cb) ∧ x.cell? ⟨b + 1, 4, none⟩ = some (.int .i64 N)

theorem boxed_keep {l : List Nat} {w x : World} {b q n : Nat} {kind : Int} {a W : Nat} {sb : Option Addr} {m cb : Nat} {N : Int} (h : Boxed w b q n kind a W sb m cb N) (hk : Keep l w x) (h1 : b ∉ l) (h2 : b + 1 ∉ l) : Boxed x b q n kind a W sb m cb N :=
  ⟨hk.cell h.1 h1, hk.cell h.2.1 h2, hk.cell h.2.2.1 h2, hk.cell h.2.2.2.1 h2, hk.cell h.2.2.2.2.1 h2, hk.cell h.2.2.2.2.2 h2⟩

set_option maxRecDepth 100000 in
set_option maxHeartbeats 4000000 in
theorem step_0 {w : World} {r fb g q n : Nat} {L : List Int} (h : Both w r fb g q n L) (a W : Nat) (ha : a < 4294967296) (hW : W < 4294967296) {sb : Option Addr} {cb : Nat} {M : List Int} (hM : Row w sb cb M) (hsrc : M = [] ∨ ∀ b, sb = some b → b.block ≠ g ∧ b.block ≠ q)
    (hm : M.length ≤ 9223372036854775807) (N : Int) (hN1 : -9223372036854775808 ≤ N) (hN2 : N ≤ 9223372036854775807) :
    Calls Try.prog 29 #[.pointer (some ⟨r, 0, none⟩), .agg #[.slice (some ⟨q, 0, none⟩) (64 * n) (64 * n)], .agg #[.int .i64 0, .int .u32 a, .int .u32 W, .slice sb M.length cb, .int .i64 N]] w (StepPost r fb g q n w) := by
  have hlt := h.lt
  have H := Lib.hid (And.intro h (And.intro hM hsrc))
  clear h hM hsrc
  go_enter Try.func29, Try.ntmps29
  go_wp2_with fail
  refine (near_at a ha _).mono ?_
  rintro e y0 ⟨rfl, rfl⟩
  have hA := near_lt ha
  generalize near a = A at hA
  obtain ⟨y, hy⟩ : ∃ y, y = (w.alloc (.cells #[.slice (some ⟨q, 0, none⟩) (64 * n) (64 * n)] 35)).alloc (.cells #[.int .i64 0, .int .u32 a, .int .u32 W, .slice sb M.length cb, .int .i64 N] 48) := ⟨_, rfl⟩
  have HY : Hid (Keep [] w y ∧ Boxed y w.heap.size q n 0 a W sb M.length cb N) := Lib.hid (by
    subst hy
    have h1 := heap_alloc_other (.cells #[.int .i64 0, .int .u32 a, .int .u32 W, .slice sb M.length cb, .int .i64 N] 48) (heap_alloc_same w (.cells #[.slice (some ⟨q, 0, none⟩) (64 * n) (64 * n)] 35))
    have h2 := heap_alloc_at (n := w.heap.size + 1) (.cells #[.int .i64 0, .int .u32 a, .int .u32 W, .slice sb M.length cb, .int .i64 N] 48) (show w.heap.size + 1 = (w.alloc (.cells #[.slice (some ⟨q, 0, none⟩) (64 * n) (64 * n)] 35)).heap.size by simp)
    exact ⟨((Keep.refl _ _).alloc _).alloc _, cell_of h1 0 rfl, cell_of h2 0 rfl, cell_of h2 1 rfl, cell_of h2 2 rfl, cell_of h2 3 rfl, cell_of h2 4 rfl⟩)
  rw [← hy]
  clear hy
  have hcs := HY.out.2
  unfold Boxed at hcs
  obtain ⟨c0, c1, c2, c3, c4, c5⟩ := hcs
  have C1 := Lib.hid (bbyte_r (H.out.1.keep0 HY.out.1) A hA)
  have C2 := Lib.hid (fun x (hx : Keep [] w x) => bbyte_d (H.out.1.keep0 hx).refN A hA)
  generalize byteAt (List.range n) L A = v at C1 C2
  generalize layB n A 1 1 = ok at C1 C2
  go_wp2_with fail
  refine C1.out.mono ?_
  rintro e y1 ⟨rfl, hK1⟩
  have HK1 := Lib.hid (HY.out.1.trans hK1)
  have c0' := hK1.cell c0 (by simp)
  clear hK1 c0 c1 c2 c3 c4 c5
  go_wp2_with fail
  refine (C2.out _ HK1.out).mono ?_
  rintro e y2 ⟨rfl, hK2⟩
  have HF := Lib.hid (step_quiet H.out.1 (HK1.out.trans hK2))
  clear hK2
  go_wp2_with fail
  go_ret
  exact HF.out
set_option maxRecDepth 100000 in
set_option maxHeartbeats 4000000 in
theorem step_1 {w : World} {r fb g q n : Nat} {L : List Int} (h : Both w r fb g q n L) (a W : Nat) (ha : a < 4294967296) (hW : W < 4294967296) {sb : Option Addr} {cb : Nat} {M : List Int} (hM : Row w sb cb M) (hsrc : M = [] ∨ ∀ b, sb = some b → b.block ≠ g ∧ b.block ≠ q)
    (hm : M.length ≤ 9223372036854775807) (N : Int) (hN1 : -9223372036854775808 ≤ N) (hN2 : N ≤ 9223372036854775807) :
    Calls Try.prog 29 #[.pointer (some ⟨r, 0, none⟩), .agg #[.slice (some ⟨q, 0, none⟩) (64 * n) (64 * n)], .agg #[.int .i64 1, .int .u32 a, .int .u32 W, .slice sb M.length cb, .int .i64 N]] w (StepPost r fb g q n w) := by
  have hlt := h.lt
  have H := Lib.hid (And.intro h (And.intro hM hsrc))
  clear h hM hsrc
  go_enter Try.func29, Try.ntmps29
  go_wp2_with fail
  refine (near_at a ha _).mono ?_
  rintro e y0 ⟨rfl, rfl⟩
  have hA := near_lt ha
  generalize near a = A at hA
  obtain ⟨y, hy⟩ : ∃ y, y = (w.alloc (.cells #[.slice (some ⟨q, 0, none⟩) (64 * n) (64 * n)] 35)).alloc (.cells #[.int .i64 1, .int .u32 a, .int .u32 W, .slice sb M.length cb, .int .i64 N] 48) := ⟨_, rfl⟩
  have HY : Hid (Keep [] w y ∧ Boxed y w.heap.size q n 1 a W sb M.length cb N) := Lib.hid (by
    subst hy
    have h1 := heap_alloc_other (.cells #[.int .i64 1, .int .u32 a, .int .u32 W, .slice sb M.length cb, .int .i64 N] 48) (heap_alloc_same w (.cells #[.slice (some ⟨q, 0, none⟩) (64 * n) (64 * n)] 35))
    have h2 := heap_alloc_at (n := w.heap.size + 1) (.cells #[.int .i64 1, .int .u32 a, .int .u32 W, .slice sb M.length cb, .int .i64 N] 48) (show w.heap.size + 1 = (w.alloc (.cells #[.slice (some ⟨q, 0, none⟩) (64 * n) (64 * n)] 35)).heap.size by simp)
    exact ⟨((Keep.refl _ _).alloc _).alloc _, cell_of h1 0 rfl, cell_of h2 0 rfl, cell_of h2 1 rfl, cell_of h2 2 rfl, cell_of h2 3 rfl, cell_of h2 4 rfl⟩)
  rw [← hy]
  clear hy
  have hcs := HY.out.2
  unfold Boxed at hcs
  obtain ⟨c0, c1, c2, c3, c4, c5⟩ := hcs
  obtain ⟨Z, hZe, hZ⟩ : ∃ Z : Int, IntKind.u8.wrap (W : Int) = Z ∧ 0 ≤ Z ∧ Z < 256 := ⟨_, rfl, by rw [IntKind.wrap_u8]; omega⟩
  have HC : Hid (∀ x, Keep [] w x → Calls Try.prog 23 #[.pointer (some ⟨r, 0, none⟩), .int .u32 A, .int .u8 Z] x (RPost r fb g n L A [Z] 1 x)) := Lib.hid fun x hx => bsetbyte_r (H.out.1.keep0 hx) A hA _ hZ
  have HD : Hid (∀ x, Keep [g] w x → Calls Try.prog 35 #[.agg #[.slice (some ⟨q, 0, none⟩) (64 * n) (64 * n)], .int .u32 A, .int .u8 Z] x (DPost q n L A [Z] 1 x)) := Lib.hid fun x hx => bsetbyte_d (RefN.mk (H.out.1.ref.keep hx (by simpa using H.out.1.qs.2.2)) H.out.1.len) A hA _ hZ
  go_wp2_with fail
  refine wp_region_held_drew (S := fun x => Keep [g, q] w x ∧ x.cell? ⟨w.heap.size, 0, none⟩ = some (.slice (some ⟨q, 0, none⟩) (64 * n) (64 * n)) ∧ x.cell? ⟨w.heap.size + 1, 2, none⟩ = some (.int .u32 W)) (by kernel_rfl) ⟨(HY.out.1.weaken (l' := [g, q]) (by simp)).drew, c0, c3⟩ (fun hHeld => ?_)
  skip
  refine wpAnyH_take (i := 0) (oi := { dst := some 45, op := Op.move (Operand.tmp 0), type := 22, pos := "law.go:67", after := #[], guard := none }) (v := ?_) rfl (by kernel_rfl) (by kernel_rfl) (by kernel_rfl) (fun _ _ _ h => h) (Or.inl ⟨by rfl, ?_⟩) (by assumption) ?_
  rotate_left
  focus (intro w hSw; (try dsimp only at hSw); go_simp <;> with_reducible rfl)
  try simp only [Act.put, List.setIfInBounds_toArray, List.set_cons_zero, List.set_cons_succ]
  refine wpAnyH_take (i := 1) (oi := { dst := some 46, op := Op.move (Operand.tmp 7), type := 26, pos := "law.go:67", after := #[], guard := none }) (v := ?_) rfl (by kernel_rfl) (by kernel_rfl) (by kernel_rfl) (fun _ _ _ h => h) (Or.inl ⟨by rfl, ?_⟩) (by assumption) ?_
  rotate_left
  focus (intro w hSw; (try dsimp only at hSw); go_simp <;> with_reducible rfl)
  try simp only [Act.put, List.setIfInBounds_toArray, List.set_cons_zero, List.set_cons_succ]
  refine wpAnyH_take (i := 2) (oi := { dst := some 47, op := Op.fieldAddr 48 (Operand.tmp 5) 2, type := 0, pos := "law.go:67", after := #[], guard := none }) (v := ?_) rfl (by kernel_rfl) (by kernel_rfl) (by kernel_rfl) (fun _ _ _ h => h) (Or.inl ⟨by rfl, ?_⟩) (by assumption) ?_
  rotate_left
  focus (intro w hSw; (try dsimp only at hSw); go_simp <;> with_reducible rfl)
  try simp only [Act.put, List.setIfInBounds_toArray, List.set_cons_zero, List.set_cons_succ]
  refine wpAnyH_take (i := 3) (oi := { dst := some 48, op := Op.load 26 (Operand.tmp 47), type := 26, pos := "law.go:67", after := #[{ on := 2, ground := Ground.data }], guard := none }) (v := ?_) rfl (by kernel_rfl) (by kernel_rfl) (by kernel_rfl) (fun _ _ _ h => h) (Or.inl ⟨by rfl, ?_⟩) (by assumption) ?_
  rotate_left
  focus (intro w hSw; (try dsimp only at hSw); go_simp <;> with_reducible rfl)
  try simp only [Act.put, List.setIfInBounds_toArray, List.set_cons_zero, List.set_cons_succ]
  refine wpAnyH_take (i := 4) (oi := { dst := some 49, op := Op.convert 26 5 (Operand.tmp 48), type := 5, pos := "law.go:67", after := #[{ on := 3, ground := Ground.data }], guard := none }) (v := ?_) rfl (by kernel_rfl) (by kernel_rfl) (by kernel_rfl) (fun _ _ _ h => h) (Or.inl ⟨by rfl, ?_⟩) (by assumption) ?_
  rotate_left
  focus (intro w hSw; (try dsimp only at hSw); go_simp <;> with_reducible rfl)
  try simp only [Act.put, List.setIfInBounds_toArray, List.set_cons_zero, List.set_cons_succ]
  refine wpAnyH_take (i := 6) (oi := { dst := some 51, op := Op.load 35 (Operand.tmp 4), type := 35, pos := "law.go:67", after := #[], guard := none }) (v := ?_) rfl (by kernel_rfl) (by kernel_rfl) (by kernel_rfl) (fun _ _ _ h => h) (Or.inl ⟨by rfl, ?_⟩) (by assumption) ?_
  rotate_left
  focus (intro w hSw; (try dsimp only at hSw); go_simp <;> with_reducible rfl)
  try simp only [Act.put, List.setIfInBounds_toArray, List.set_cons_zero, List.set_cons_succ]
  refine wpAnyH_take (i := 7) (oi := { dst := some 52, op := Op.move (Operand.tmp 7), type := 26, pos := "law.go:67", after := #[], guard := none }) (v := ?_) rfl (by kernel_rfl) (by kernel_rfl) (by kernel_rfl) (fun _ _ _ h => h) (Or.inl ⟨by rfl, ?_⟩) (by assumption) ?_
  rotate_left
  focus (intro w hSw; (try dsimp only at hSw); go_simp <;> with_reducible rfl)
  try simp only [Act.put, List.setIfInBounds_toArray, List.set_cons_zero, List.set_cons_succ]
  refine wpAnyH_take (i := 8) (oi := { dst := some 53, op := Op.fieldAddr 48 (Operand.tmp 5) 2, type := 0, pos := "law.go:67", after := #[], guard := none }) (v := ?_) rfl (by kernel_rfl) (by kernel_rfl) (by kernel_rfl) (fun _ _ _ h => h) (Or.inl ⟨by rfl, ?_⟩) (by assumption) ?_
  rotate_left
  focus (intro w hSw; (try dsimp only at hSw); go_simp <;> with_reducible rfl)
  try simp only [Act.put, List.setIfInBounds_toArray, List.set_cons_zero, List.set_cons_succ]
  refine wpAnyH_take (i := 9) (oi := { dst := some 54, op := Op.load 26 (Operand.tmp 53), type := 26, pos := "law.go:67", after := #[{ on := 8, ground := Ground.data }], guard := none }) (v := ?_) rfl (by kernel_rfl) (by kernel_rfl) (by kernel_rfl) (fun _ _ _ h => h) (Or.inl ⟨by rfl, ?_⟩) (by assumption) ?_
  rotate_left
  focus (intro w hSw; (try dsimp only at hSw); go_simp <;> with_reducible rfl)
  try simp only [Act.put, List.setIfInBounds_toArray, List.set_cons_zero, List.set_cons_succ]
  refine wpAnyH_take (i := 10) (oi := { dst := some 55, op := Op.convert 26 5 (Operand.tmp 54), type := 5, pos := "law.go:67", after := #[{ on := 9, ground := Ground.data }], guard := none }) (v := ?_) rfl (by kernel_rfl) (by kernel_rfl) (by kernel_rfl) (fun _ _ _ h => h) (Or.inl ⟨by rfl, ?_⟩) (by assumption) ?_
  rotate_left
  focus (intro w hSw; (try dsimp only at hSw); go_simp <;> with_reducible rfl)
  try simp only [Act.put, List.setIfInBounds_toArray, List.set_cons_zero, List.set_cons_succ]
  refine wpAnyH_ready (rs := [5]) (by kernel_rfl) (by simp) ?_
  refine AllReadyH.cons (o := { dst := some 50, op := Op.call { callee := Callee.value (Operand.func 23), args := #[Operand.tmp 45, Operand.tmp 46, Operand.tmp 49], argTypes := #[22, 26, 5] }, type := 4, pos := "law.go:67", after := #[{ on := 0, ground := Ground.data }, { on := 1, ground := Ground.data }, { on := 4, ground := Ground.data }], guard := none }) rfl (fun K hK => ?_) AllReadyH.nil
  go_simp
  refine (HC.out _ HY.out.1.drew).mono ?_
  rintro e y1 ⟨rfl, hr1, hk1⟩
  have H1 := Lib.hid (And.intro hr1 (And.intro hk1 (HY.out.1.drew.weaken (l' := [g]) (by simp))))
  have hS1 : Keep [g, q] w y1 ∧ y1.cell? ⟨w.heap.size, 0, none⟩ = some (.slice (some ⟨q, 0, none⟩) (64 * n) (64 * n)) ∧ y1.cell? ⟨w.heap.size + 1, 2, none⟩ = some (.int .u32 W) := ⟨hHeld.1.trans (hk1.weaken (by simp)), hk1.cell c0 (by simp; omega), hk1.cell c3 (by simp; omega)⟩
  clear hr1 hk1
  generalize hok : layB n A (List.length [Z]) 1 = ok
  go_wp2_with fail
  refine shut_grow (fun x => Keep [g, q] w x ∧ x.cell? ⟨w.heap.size, 0, none⟩ = some (.slice (some ⟨q, 0, none⟩) (64 * n) (64 * n)) ∧ x.cell? ⟨w.heap.size + 1, 2, none⟩ = some (.int .u32 W)) hK (fun _ h => h) hS1 (fun hHeld => ?_)
  clear hK K
  skip
  refine wpAnyH_ready (rs := [11]) (by kernel_rfl) (by simp) ?_
  refine AllReadyH.cons (o := { dst := some 56, op := Op.call { callee := Callee.value (Operand.func 35), args := #[Operand.tmp 51, Operand.tmp 52, Operand.tmp 55], argTypes := #[35, 26, 5] }, type := 4, pos := "law.go:67", after := #[{ on := 6, ground := Ground.data }, { on := 7, ground := Ground.data }, { on := 10, ground := Ground.data }, { on := 5, ground := Ground.chain }], guard := none }) rfl (fun K hK => ?_) AllReadyH.nil
  go_simp
  refine (HD.out _ (H1.out.2.2.trans H1.out.2.1)).mono ?_
  rintro e y2 ⟨rfl, hr2, hk2⟩
  rw [hok]
  have HF := Lib.hid (step_laid H.out.1 HY.out.1.drew H1.out.1 H1.out.2.1 hr2 hk2)
  have hS2 : Keep [g, q] w y2 ∧ y2.cell? ⟨w.heap.size, 0, none⟩ = some (.slice (some ⟨q, 0, none⟩) (64 * n) (64 * n)) ∧ y2.cell? ⟨w.heap.size + 1, 2, none⟩ = some (.int .u32 W) := ⟨hS1.1.trans (hk2.weaken (by simp)), hk2.cell hS1.2.1 (by simp; omega), hk2.cell hS1.2.2 (by simp; omega)⟩
  clear hr2 hk2
  go_wp2_with fail
  refine shut_grow (fun x => x = y2) hK (fun _ h => by rw [h]; exact hS2) rfl (fun hHeld => ?_)
  clear hK K
  refine wpAnyH_take (i := 12) (oi := { dst := some 57, op := Op.binOp BinOp.eql 4 (Operand.tmp 50) (Operand.tmp 56) 4, type := 4, pos := "law.go:67", after := #[{ on := 5, ground := Ground.data }, { on := 11, ground := Ground.data }], guard := none }) (v := ?_) rfl (by kernel_rfl) (by kernel_rfl) (by kernel_rfl) (fun _ _ _ h => h) (Or.inl ⟨by rfl, ?_⟩) (by assumption) ?_
  rotate_left
  focus (intro w hSw; (try dsimp only at hSw); go_simp <;> with_reducible rfl)
  try simp only [Act.put, List.setIfInBounds_toArray, List.set_cons_zero, List.set_cons_succ]
  refine wpAnyH_take (i := 13) (oi := { dst := some 6, op := Op.assign (Operand.tmp 57), type := 4, pos := "law.go:67", after := #[{ on := 12, ground := Ground.data }, { on := 11, ground := Ground.chain }, { on := 0, ground := Ground.phase }, { on := 1, ground := Ground.phase }, { on := 2, ground := Ground.phase }, { on := 3, ground := Ground.phase }, { on := 4, ground := Ground.phase }, { on := 5, ground := Ground.phase }, { on := 6, ground := Ground.phase }, { on := 7, ground := Ground.phase }, { on := 8, ground := Ground.phase }, { on := 9, ground := Ground.phase }, { on := 10, ground := Ground.phase }, { on := 11, ground := Ground.phase }, { on := 12, ground := Ground.phase }], guard := none }) (v := ?_) rfl (by kernel_rfl) (by kernel_rfl) (by kernel_rfl) (fun _ _ _ h => h) (Or.inl ⟨by rfl, ?_⟩) (by assumption) ?_
  rotate_left
  focus (intro w hSw; (try dsimp only at hSw); go_simp <;> with_reducible rfl)
  try simp only [Act.put, List.setIfInBounds_toArray, List.set_cons_zero, List.set_cons_succ]
  refine wpAnyH_done (by kernel_rfl) ?_ _
  go_wp2_with fail
  go_ret
  exact HF.out
set_option maxRecDepth 100000 in
set_option maxHeartbeats 4000000 in
theorem step_2 {w : World} {r fb g q n : Nat} {L : List Int} (h : Both w r fb g q n L) (a W : Nat) (ha : a < 4294967296) (hW : W < 4294967296) {sb : Option Addr} {cb : Nat} {M : List Int} (hM : Row w sb cb M) (hsrc : M = [] ∨ ∀ b, sb = some b → b.block ≠ g ∧ b.block ≠ q)
    (hm : M.length ≤ 9223372036854775807) (N : Int) (hN1 : -9223372036854775808 ≤ N) (hN2 : N ≤ 9223372036854775807) :
    Calls Try.prog 29 #[.pointer (some ⟨r, 0, none⟩), .agg #[.slice (some ⟨q, 0, none⟩) (64 * n) (64 * n)], .agg #[.int .i64 2, .int .u32 a, .int .u32 W, .slice sb M.length cb, .int .i64 N]] w (StepPost r fb g q n w) := by
  have hlt := h.lt
  have H := Lib.hid (And.intro h (And.intro hM hsrc))
  clear h hM hsrc
  go_enter Try.func29, Try.ntmps29
  go_wp2_with fail
  refine (near_at a ha _).mono ?_
  rintro e y0 ⟨rfl, rfl⟩
  have hA := near_lt ha
  generalize near a = A at hA
  obtain ⟨y, hy⟩ : ∃ y, y = (w.alloc (.cells #[.slice (some ⟨q, 0, none⟩) (64 * n) (64 * n)] 35)).alloc (.cells #[.int .i64 2, .int .u32 a, .int .u32 W, .slice sb M.length cb, .int .i64 N] 48) := ⟨_, rfl⟩
  have HY : Hid (Keep [] w y ∧ Boxed y w.heap.size q n 2 a W sb M.length cb N) := Lib.hid (by
    subst hy
    have h1 := heap_alloc_other (.cells #[.int .i64 2, .int .u32 a, .int .u32 W, .slice sb M.length cb, .int .i64 N] 48) (heap_alloc_same w (.cells #[.slice (some ⟨q, 0, none⟩) (64 * n) (64 * n)] 35))
    have h2 := heap_alloc_at (n := w.heap.size + 1) (.cells #[.int .i64 2, .int .u32 a, .int .u32 W, .slice sb M.length cb, .int .i64 N] 48) (show w.heap.size + 1 = (w.alloc (.cells #[.slice (some ⟨q, 0, none⟩) (64 * n) (64 * n)] 35)).heap.size by simp)
    exact ⟨((Keep.refl _ _).alloc _).alloc _, cell_of h1 0 rfl, cell_of h2 0 rfl, cell_of h2 1 rfl, cell_of h2 2 rfl, cell_of h2 3 rfl, cell_of h2 4 rfl⟩)
  rw [← hy]
  clear hy
  have hcs := HY.out.2
  unfold Boxed at hcs
  obtain ⟨c0, c1, c2, c3, c4, c5⟩ := hcs
  have C1 := Lib.hid (bword_r (H.out.1.keep0 HY.out.1) A hA)
  have C2 := Lib.hid (fun x (hx : Keep [] w x) => bword_d (H.out.1.keep0 hx).refN A hA)
  generalize wordAt n L A = v at C1 C2
  generalize layB n A 4 4 = ok at C1 C2
  go_wp2_with fail
  refine C1.out.mono ?_
  rintro e y1 ⟨rfl, hK1⟩
  have HK1 := Lib.hid (HY.out.1.trans hK1)
  have c0' := hK1.cell c0 (by simp)
  clear hK1 c0 c1 c2 c3 c4 c5
  go_wp2_with fail
  refine (C2.out _ HK1.out).mono ?_
  rintro e y2 ⟨rfl, hK2⟩
  have HF := Lib.hid (step_quiet H.out.1 (HK1.out.trans hK2))
  clear hK2
  go_wp2_with fail
  go_ret
  exact HF.out
set_option maxRecDepth 100000 in
set_option maxHeartbeats 4000000 in
theorem step_3 {w : World} {r fb g q n : Nat} {L : List Int} (h : Both w r fb g q n L) (a W : Nat) (ha : a < 4294967296) (hW : W < 4294967296) {sb : Option Addr} {cb : Nat} {M : List Int} (hM : Row w sb cb M) (hsrc : M = [] ∨ ∀ b, sb = some b → b.block ≠ g ∧ b.block ≠ q)
    (hm : M.length ≤ 9223372036854775807) (N : Int) (hN1 : -9223372036854775808 ≤ N) (hN2 : N ≤ 9223372036854775807) :
    Calls Try.prog 29 #[.pointer (some ⟨r, 0, none⟩), .agg #[.slice (some ⟨q, 0, none⟩) (64 * n) (64 * n)], .agg #[.int .i64 3, .int .u32 a, .int .u32 W, .slice sb M.length cb, .int .i64 N]] w (StepPost r fb g q n w) := by
  have hlt := h.lt
  have H := Lib.hid (And.intro h (And.intro hM hsrc))
  clear h hM hsrc
  go_enter Try.func29, Try.ntmps29
  go_wp2_with fail
  refine (near_at a ha _).mono ?_
  rintro e y0 ⟨rfl, rfl⟩
  have hA := near_lt ha
  generalize near a = A at hA
  obtain ⟨y, hy⟩ : ∃ y, y = (w.alloc (.cells #[.slice (some ⟨q, 0, none⟩) (64 * n) (64 * n)] 35)).alloc (.cells #[.int .i64 3, .int .u32 a, .int .u32 W, .slice sb M.length cb, .int .i64 N] 48) := ⟨_, rfl⟩
  have HY : Hid (Keep [] w y ∧ Boxed y w.heap.size q n 3 a W sb M.length cb N) := Lib.hid (by
    subst hy
    have h1 := heap_alloc_other (.cells #[.int .i64 3, .int .u32 a, .int .u32 W, .slice sb M.length cb, .int .i64 N] 48) (heap_alloc_same w (.cells #[.slice (some ⟨q, 0, none⟩) (64 * n) (64 * n)] 35))
    have h2 := heap_alloc_at (n := w.heap.size + 1) (.cells #[.int .i64 3, .int .u32 a, .int .u32 W, .slice sb M.length cb, .int .i64 N] 48) (show w.heap.size + 1 = (w.alloc (.cells #[.slice (some ⟨q, 0, none⟩) (64 * n) (64 * n)] 35)).heap.size by simp)
    exact ⟨((Keep.refl _ _).alloc _).alloc _, cell_of h1 0 rfl, cell_of h2 0 rfl, cell_of h2 1 rfl, cell_of h2 2 rfl, cell_of h2 3 rfl, cell_of h2 4 rfl⟩)
  rw [← hy]
  clear hy
  have hcs := HY.out.2
  unfold Boxed at hcs
  obtain ⟨c0, c1, c2, c3, c4, c5⟩ := hcs

  have HC : Hid (∀ x, Keep [] w x → Calls Try.prog 25 #[.pointer (some ⟨r, 0, none⟩), .int .u32 A, .int .u32 W] x (RPost r fb g n L A (le4 W) 4 x)) := Lib.hid fun x hx => bsetword_r (H.out.1.keep0 hx) A hA W hW
  have HD : Hid (∀ x, Keep [g] w x → Calls Try.prog 49 #[.agg #[.slice (some ⟨q, 0, none⟩) (64 * n) (64 * n)], .int .u32 A, .int .u32 W] x (DPost q n L A (le4 W) 4 x)) := Lib.hid fun x hx => bsetword_d (RefN.mk (H.out.1.ref.keep hx (by simpa using H.out.1.qs.2.2)) H.out.1.len) A hA W hW
  go_wp2_with fail
  refine wp_region_held_drew (S := fun x => Keep [g, q] w x ∧ x.cell? ⟨w.heap.size, 0, none⟩ = some (.slice (some ⟨q, 0, none⟩) (64 * n) (64 * n)) ∧ x.cell? ⟨w.heap.size + 1, 2, none⟩ = some (.int .u32 W)) (by kernel_rfl) ⟨(HY.out.1.weaken (l' := [g, q]) (by simp)).drew, c0, c3⟩ (fun hHeld => ?_)
  skip
  refine wpAnyH_take (i := 0) (oi := { dst := some 82, op := Op.move (Operand.tmp 0), type := 22, pos := "law.go:73", after := #[], guard := none }) (v := ?_) rfl (by kernel_rfl) (by kernel_rfl) (by kernel_rfl) (fun _ _ _ h => h) (Or.inl ⟨by rfl, ?_⟩) (by assumption) ?_
  rotate_left
  focus (intro w hSw; (try dsimp only at hSw); go_simp <;> with_reducible rfl)
  try simp only [Act.put, List.setIfInBounds_toArray, List.set_cons_zero, List.set_cons_succ]
  refine wpAnyH_take (i := 1) (oi := { dst := some 83, op := Op.move (Operand.tmp 7), type := 26, pos := "law.go:73", after := #[], guard := none }) (v := ?_) rfl (by kernel_rfl) (by kernel_rfl) (by kernel_rfl) (fun _ _ _ h => h) (Or.inl ⟨by rfl, ?_⟩) (by assumption) ?_
  rotate_left
  focus (intro w hSw; (try dsimp only at hSw); go_simp <;> with_reducible rfl)
  try simp only [Act.put, List.setIfInBounds_toArray, List.set_cons_zero, List.set_cons_succ]
  refine wpAnyH_take (i := 2) (oi := { dst := some 84, op := Op.fieldAddr 48 (Operand.tmp 5) 2, type := 0, pos := "law.go:73", after := #[], guard := none }) (v := ?_) rfl (by kernel_rfl) (by kernel_rfl) (by kernel_rfl) (fun _ _ _ h => h) (Or.inl ⟨by rfl, ?_⟩) (by assumption) ?_
  rotate_left
  focus (intro w hSw; (try dsimp only at hSw); go_simp <;> with_reducible rfl)
  try simp only [Act.put, List.setIfInBounds_toArray, List.set_cons_zero, List.set_cons_succ]
  refine wpAnyH_take (i := 3) (oi := { dst := some 85, op := Op.load 26 (Operand.tmp 84), type := 26, pos := "law.go:73", after := #[{ on := 2, ground := Ground.data }], guard := none }) (v := ?_) rfl (by kernel_rfl) (by kernel_rfl) (by kernel_rfl) (fun _ _ _ h => h) (Or.inl ⟨by rfl, ?_⟩) (by assumption) ?_
  rotate_left
  focus (intro w hSw; (try dsimp only at hSw); go_simp <;> with_reducible rfl)
  try simp only [Act.put, List.setIfInBounds_toArray, List.set_cons_zero, List.set_cons_succ]
  refine wpAnyH_take (i := 5) (oi := { dst := some 87, op := Op.load 35 (Operand.tmp 4), type := 35, pos := "law.go:73", after := #[], guard := none }) (v := ?_) rfl (by kernel_rfl) (by kernel_rfl) (by kernel_rfl) (fun _ _ _ h => h) (Or.inl ⟨by rfl, ?_⟩) (by assumption) ?_
  rotate_left
  focus (intro w hSw; (try dsimp only at hSw); go_simp <;> with_reducible rfl)
  try simp only [Act.put, List.setIfInBounds_toArray, List.set_cons_zero, List.set_cons_succ]
  refine wpAnyH_take (i := 6) (oi := { dst := some 88, op := Op.move (Operand.tmp 7), type := 26, pos := "law.go:73", after := #[], guard := none }) (v := ?_) rfl (by kernel_rfl) (by kernel_rfl) (by kernel_rfl) (fun _ _ _ h => h) (Or.inl ⟨by rfl, ?_⟩) (by assumption) ?_
  rotate_left
  focus (intro w hSw; (try dsimp only at hSw); go_simp <;> with_reducible rfl)
  try simp only [Act.put, List.setIfInBounds_toArray, List.set_cons_zero, List.set_cons_succ]
  refine wpAnyH_take (i := 7) (oi := { dst := some 89, op := Op.fieldAddr 48 (Operand.tmp 5) 2, type := 0, pos := "law.go:73", after := #[], guard := none }) (v := ?_) rfl (by kernel_rfl) (by kernel_rfl) (by kernel_rfl) (fun _ _ _ h => h) (Or.inl ⟨by rfl, ?_⟩) (by assumption) ?_
  rotate_left
  focus (intro w hSw; (try dsimp only at hSw); go_simp <;> with_reducible rfl)
  try simp only [Act.put, List.setIfInBounds_toArray, List.set_cons_zero, List.set_cons_succ]
  refine wpAnyH_take (i := 8) (oi := { dst := some 90, op := Op.load 26 (Operand.tmp 89), type := 26, pos := "law.go:73", after := #[{ on := 7, ground := Ground.data }], guard := none }) (v := ?_) rfl (by kernel_rfl) (by kernel_rfl) (by kernel_rfl) (fun _ _ _ h => h) (Or.inl ⟨by rfl, ?_⟩) (by assumption) ?_
  rotate_left
  focus (intro w hSw; (try dsimp only at hSw); go_simp <;> with_reducible rfl)
  try simp only [Act.put, List.setIfInBounds_toArray, List.set_cons_zero, List.set_cons_succ]
  refine wpAnyH_ready (rs := [4]) (by kernel_rfl) (by simp) ?_
  refine AllReadyH.cons (o := { dst := some 86, op := Op.call { callee := Callee.value (Operand.func 25), args := #[Operand.tmp 82, Operand.tmp 83, Operand.tmp 85], argTypes := #[22, 26, 26] }, type := 4, pos := "law.go:73", after := #[{ on := 0, ground := Ground.data }, { on := 1, ground := Ground.data }, { on := 3, ground := Ground.data }], guard := none }) rfl (fun K hK => ?_) AllReadyH.nil
  go_simp
  refine (HC.out _ HY.out.1.drew).mono ?_
  rintro e y1 ⟨rfl, hr1, hk1⟩
  have H1 := Lib.hid (And.intro hr1 (And.intro hk1 (HY.out.1.drew.weaken (l' := [g]) (by simp))))
  have hS1 : Keep [g, q] w y1 ∧ y1.cell? ⟨w.heap.size, 0, none⟩ = some (.slice (some ⟨q, 0, none⟩) (64 * n) (64 * n)) ∧ y1.cell? ⟨w.heap.size + 1, 2, none⟩ = some (.int .u32 W) := ⟨hHeld.1.trans (hk1.weaken (by simp)), hk1.cell c0 (by simp; omega), hk1.cell c3 (by simp; omega)⟩
  clear hr1 hk1
  generalize hok : layB n A (List.length (le4 W)) 4 = ok
  go_wp2_with fail
  refine shut_grow (fun x => Keep [g, q] w x ∧ x.cell? ⟨w.heap.size, 0, none⟩ = some (.slice (some ⟨q, 0, none⟩) (64 * n) (64 * n)) ∧ x.cell? ⟨w.heap.size + 1, 2, none⟩ = some (.int .u32 W)) hK (fun _ h => h) hS1 (fun hHeld => ?_)
  clear hK K
  skip
  refine wpAnyH_ready (rs := [9]) (by kernel_rfl) (by simp) ?_
  refine AllReadyH.cons (o := { dst := some 91, op := Op.call { callee := Callee.value (Operand.func 49), args := #[Operand.tmp 87, Operand.tmp 88, Operand.tmp 90], argTypes := #[35, 26, 26] }, type := 4, pos := "law.go:73", after := #[{ on := 5, ground := Ground.data }, { on := 6, ground := Ground.data }, { on := 8, ground := Ground.data }, { on := 4, ground := Ground.chain }], guard := none }) rfl (fun K hK => ?_) AllReadyH.nil
  go_simp
  refine (HD.out _ (H1.out.2.2.trans H1.out.2.1)).mono ?_
  rintro e y2 ⟨rfl, hr2, hk2⟩
  rw [hok]
  have HF := Lib.hid (step_laid H.out.1 HY.out.1.drew H1.out.1 H1.out.2.1 hr2 hk2)
  have hS2 : Keep [g, q] w y2 ∧ y2.cell? ⟨w.heap.size, 0, none⟩ = some (.slice (some ⟨q, 0, none⟩) (64 * n) (64 * n)) ∧ y2.cell? ⟨w.heap.size + 1, 2, none⟩ = some (.int .u32 W) := ⟨hS1.1.trans (hk2.weaken (by simp)), hk2.cell hS1.2.1 (by simp; omega), hk2.cell hS1.2.2 (by simp; omega)⟩
  clear hr2 hk2
  go_wp2_with fail
  refine shut_grow (fun x => x = y2) hK (fun _ h => by rw [h]; exact hS2) rfl (fun hHeld => ?_)
  clear hK K
  refine wpAnyH_take (i := 10) (oi := { dst := some 92, op := Op.binOp BinOp.eql 4 (Operand.tmp 86) (Operand.tmp 91) 4, type := 4, pos := "law.go:73", after := #[{ on := 4, ground := Ground.data }, { on := 9, ground := Ground.data }], guard := none }) (v := ?_) rfl (by kernel_rfl) (by kernel_rfl) (by kernel_rfl) (fun _ _ _ h => h) (Or.inl ⟨by rfl, ?_⟩) (by assumption) ?_
  rotate_left
  focus (intro w hSw; (try dsimp only at hSw); go_simp <;> with_reducible rfl)
  try simp only [Act.put, List.setIfInBounds_toArray, List.set_cons_zero, List.set_cons_succ]
  refine wpAnyH_take (i := 11) (oi := { dst := some 6, op := Op.assign (Operand.tmp 92), type := 4, pos := "law.go:73", after := #[{ on := 10, ground := Ground.data }, { on := 9, ground := Ground.chain }, { on := 0, ground := Ground.phase }, { on := 1, ground := Ground.phase }, { on := 2, ground := Ground.phase }, { on := 3, ground := Ground.phase }, { on := 4, ground := Ground.phase }, { on := 5, ground := Ground.phase }, { on := 6, ground := Ground.phase }, { on := 7, ground := Ground.phase }, { on := 8, ground := Ground.phase }, { on := 9, ground := Ground.phase }, { on := 10, ground := Ground.phase }], guard := none }) (v := ?_) rfl (by kernel_rfl) (by kernel_rfl) (by kernel_rfl) (fun _ _ _ h => h) (Or.inl ⟨by rfl, ?_⟩) (by assumption) ?_
  rotate_left
  focus (intro w hSw; (try dsimp only at hSw); go_simp <;> with_reducible rfl)
  try simp only [Act.put, List.setIfInBounds_toArray, List.set_cons_zero, List.set_cons_succ]
  refine wpAnyH_done (by kernel_rfl) ?_ _
  go_wp2_with fail
  go_ret
  exact HF.out
set_option maxRecDepth 100000 in
set_option maxHeartbeats 4000000 in
theorem step_4 {w : World} {r fb g q n : Nat} {L : List Int} (h : Both w r fb g q n L) (a W : Nat) (ha : a < 4294967296) (hW : W < 4294967296) {sb : Option Addr} {cb : Nat} {M : List Int} (hM : Row w sb cb M) (hsrc : M = [] ∨ ∀ b, sb = some b → b.block ≠ g ∧ b.block ≠ q)
    (hm : M.length ≤ 9223372036854775807) (N : Int) (hN1 : -9223372036854775808 ≤ N) (hN2 : N ≤ 9223372036854775807) :
    Calls Try.prog 29 #[.pointer (some ⟨r, 0, none⟩), .agg #[.slice (some ⟨q, 0, none⟩) (64 * n) (64 * n)], .agg #[.int .i64 4, .int .u32 a, .int .u32 W, .slice sb M.length cb, .int .i64 N]] w (StepPost r fb g q n w) := by
  have hlt := h.lt
  have H := Lib.hid (And.intro h (And.intro hM hsrc))
  clear h hM hsrc
  go_enter Try.func29, Try.ntmps29
  go_wp2_with fail
  refine (near_at a ha _).mono ?_
  rintro e y0 ⟨rfl, rfl⟩
  have hA := near_lt ha
  generalize near a = A at hA
  obtain ⟨y, hy⟩ : ∃ y, y = (w.alloc (.cells #[.slice (some ⟨q, 0, none⟩) (64 * n) (64 * n)] 35)).alloc (.cells #[.int .i64 4, .int .u32 a, .int .u32 W, .slice sb M.length cb, .int .i64 N] 48) := ⟨_, rfl⟩
  have HY : Hid (Keep [] w y ∧ Boxed y w.heap.size q n 4 a W sb M.length cb N) := Lib.hid (by
    subst hy
    have h1 := heap_alloc_other (.cells #[.int .i64 4, .int .u32 a, .int .u32 W, .slice sb M.length cb, .int .i64 N] 48) (heap_alloc_same w (.cells #[.slice (some ⟨q, 0, none⟩) (64 * n) (64 * n)] 35))
    have h2 := heap_alloc_at (n := w.heap.size + 1) (.cells #[.int .i64 4, .int .u32 a, .int .u32 W, .slice sb M.length cb, .int .i64 N] 48) (show w.heap.size + 1 = (w.alloc (.cells #[.slice (some ⟨q, 0, none⟩) (64 * n) (64 * n)] 35)).heap.size by simp)
    exact ⟨((Keep.refl _ _).alloc _).alloc _, cell_of h1 0 rfl, cell_of h2 0 rfl, cell_of h2 1 rfl, cell_of h2 2 rfl, cell_of h2 3 rfl, cell_of h2 4 rfl⟩)
  rw [← hy]
  clear hy
  have hcs := HY.out.2
  unfold Boxed at hcs
  obtain ⟨c0, c1, c2, c3, c4, c5⟩ := hcs

  have HC : Hid (∀ x, Keep [] w x → Calls Try.prog 24 #[.pointer (some ⟨r, 0, none⟩), .int .u32 A, .slice sb M.length cb] x (RPost r fb g n L A M 1 x)) := Lib.hid fun x hx => bfill_r (H.out.1.keep0 hx) A hA (H.out.2.1.keep0 hx) (H.out.2.2.imp id fun hs b hb => (hs b hb).1) hm
  have HD : Hid (∀ x, Keep [g] w x → Calls Try.prog 50 #[.agg #[.slice (some ⟨q, 0, none⟩) (64 * n) (64 * n)], .int .u32 A, .slice sb M.length cb] x (DPost q n L A M 1 x)) := Lib.hid fun x hx => fill_later (RefN.mk (H.out.1.ref.keep hx (by simpa using H.out.1.qs.2.2)) H.out.1.len) H.out.2.1 hx H.out.2.2 A hA hm
  go_wp2_with fail
  refine wp_region_held_drew (S := fun x => Keep [g, q] w x ∧ x.cell? ⟨w.heap.size, 0, none⟩ = some (.slice (some ⟨q, 0, none⟩) (64 * n) (64 * n)) ∧ x.cell? ⟨w.heap.size + 1, 3, none⟩ = some (.slice sb M.length cb)) (by kernel_rfl) ⟨(HY.out.1.weaken (l' := [g, q]) (by simp)).drew, c0, c4⟩ (fun hHeld => ?_)
  skip
  refine wpAnyH_take (i := 0) (oi := { dst := some 95, op := Op.move (Operand.tmp 0), type := 22, pos := "law.go:75", after := #[], guard := none }) (v := ?_) rfl (by kernel_rfl) (by kernel_rfl) (by kernel_rfl) (fun _ _ _ h => h) (Or.inl ⟨by rfl, ?_⟩) (by assumption) ?_
  rotate_left
  focus (intro w hSw; (try dsimp only at hSw); go_simp <;> with_reducible rfl)
  try simp only [Act.put, List.setIfInBounds_toArray, List.set_cons_zero, List.set_cons_succ]
  refine wpAnyH_take (i := 1) (oi := { dst := some 96, op := Op.move (Operand.tmp 7), type := 26, pos := "law.go:75", after := #[], guard := none }) (v := ?_) rfl (by kernel_rfl) (by kernel_rfl) (by kernel_rfl) (fun _ _ _ h => h) (Or.inl ⟨by rfl, ?_⟩) (by assumption) ?_
  rotate_left
  focus (intro w hSw; (try dsimp only at hSw); go_simp <;> with_reducible rfl)
  try simp only [Act.put, List.setIfInBounds_toArray, List.set_cons_zero, List.set_cons_succ]
  refine wpAnyH_take (i := 2) (oi := { dst := some 97, op := Op.fieldAddr 48 (Operand.tmp 5) 3, type := 0, pos := "law.go:75", after := #[], guard := none }) (v := ?_) rfl (by kernel_rfl) (by kernel_rfl) (by kernel_rfl) (fun _ _ _ h => h) (Or.inl ⟨by rfl, ?_⟩) (by assumption) ?_
  rotate_left
  focus (intro w hSw; (try dsimp only at hSw); go_simp <;> with_reducible rfl)
  try simp only [Act.put, List.setIfInBounds_toArray, List.set_cons_zero, List.set_cons_succ]
  refine wpAnyH_take (i := 3) (oi := { dst := some 98, op := Op.load 30 (Operand.tmp 97), type := 30, pos := "law.go:75", after := #[{ on := 2, ground := Ground.data }], guard := none }) (v := ?_) rfl (by kernel_rfl) (by kernel_rfl) (by kernel_rfl) (fun _ _ _ h => h) (Or.inl ⟨by rfl, ?_⟩) (by assumption) ?_
  rotate_left
  focus (intro w hSw; (try dsimp only at hSw); go_simp <;> with_reducible rfl)
  try simp only [Act.put, List.setIfInBounds_toArray, List.set_cons_zero, List.set_cons_succ]
  refine wpAnyH_take (i := 5) (oi := { dst := some 100, op := Op.load 35 (Operand.tmp 4), type := 35, pos := "law.go:75", after := #[], guard := none }) (v := ?_) rfl (by kernel_rfl) (by kernel_rfl) (by kernel_rfl) (fun _ _ _ h => h) (Or.inl ⟨by rfl, ?_⟩) (by assumption) ?_
  rotate_left
  focus (intro w hSw; (try dsimp only at hSw); go_simp <;> with_reducible rfl)
  try simp only [Act.put, List.setIfInBounds_toArray, List.set_cons_zero, List.set_cons_succ]
  refine wpAnyH_take (i := 6) (oi := { dst := some 101, op := Op.move (Operand.tmp 7), type := 26, pos := "law.go:75", after := #[], guard := none }) (v := ?_) rfl (by kernel_rfl) (by kernel_rfl) (by kernel_rfl) (fun _ _ _ h => h) (Or.inl ⟨by rfl, ?_⟩) (by assumption) ?_
  rotate_left
  focus (intro w hSw; (try dsimp only at hSw); go_simp <;> with_reducible rfl)
  try simp only [Act.put, List.setIfInBounds_toArray, List.set_cons_zero, List.set_cons_succ]
  refine wpAnyH_take (i := 7) (oi := { dst := some 102, op := Op.fieldAddr 48 (Operand.tmp 5) 3, type := 0, pos := "law.go:75", after := #[], guard := none }) (v := ?_) rfl (by kernel_rfl) (by kernel_rfl) (by kernel_rfl) (fun _ _ _ h => h) (Or.inl ⟨by rfl, ?_⟩) (by assumption) ?_
  rotate_left
  focus (intro w hSw; (try dsimp only at hSw); go_simp <;> with_reducible rfl)
  try simp only [Act.put, List.setIfInBounds_toArray, List.set_cons_zero, List.set_cons_succ]
  refine wpAnyH_take (i := 8) (oi := { dst := some 103, op := Op.load 30 (Operand.tmp 102), type := 30, pos := "law.go:75", after := #[{ on := 7, ground := Ground.data }], guard := none }) (v := ?_) rfl (by kernel_rfl) (by kernel_rfl) (by kernel_rfl) (fun _ _ _ h => h) (Or.inl ⟨by rfl, ?_⟩) (by assumption) ?_
  rotate_left
  focus (intro w hSw; (try dsimp only at hSw); go_simp <;> with_reducible rfl)
  try simp only [Act.put, List.setIfInBounds_toArray, List.set_cons_zero, List.set_cons_succ]
  refine wpAnyH_ready (rs := [4]) (by kernel_rfl) (by simp) ?_
  refine AllReadyH.cons (o := { dst := some 99, op := Op.call { callee := Callee.value (Operand.func 24), args := #[Operand.tmp 95, Operand.tmp 96, Operand.tmp 98], argTypes := #[22, 26, 30] }, type := 4, pos := "law.go:75", after := #[{ on := 0, ground := Ground.data }, { on := 1, ground := Ground.data }, { on := 3, ground := Ground.data }], guard := none }) rfl (fun K hK => ?_) AllReadyH.nil
  go_simp
  refine (HC.out _ HY.out.1.drew).mono ?_
  rintro e y1 ⟨rfl, hr1, hk1⟩
  have H1 := Lib.hid (And.intro hr1 (And.intro hk1 (HY.out.1.drew.weaken (l' := [g]) (by simp))))
  have hS1 : Keep [g, q] w y1 ∧ y1.cell? ⟨w.heap.size, 0, none⟩ = some (.slice (some ⟨q, 0, none⟩) (64 * n) (64 * n)) ∧ y1.cell? ⟨w.heap.size + 1, 3, none⟩ = some (.slice sb M.length cb) := ⟨hHeld.1.trans (hk1.weaken (by simp)), hk1.cell c0 (by simp; omega), hk1.cell c4 (by simp; omega)⟩
  clear hr1 hk1
  generalize hok : layB n A (List.length M) 1 = ok
  go_wp2_with fail
  refine shut_grow (fun x => Keep [g, q] w x ∧ x.cell? ⟨w.heap.size, 0, none⟩ = some (.slice (some ⟨q, 0, none⟩) (64 * n) (64 * n)) ∧ x.cell? ⟨w.heap.size + 1, 3, none⟩ = some (.slice sb M.length cb)) hK (fun _ h => h) hS1 (fun hHeld => ?_)
  clear hK K
  skip
  refine wpAnyH_ready (rs := [9]) (by kernel_rfl) (by simp) ?_
  refine AllReadyH.cons (o := { dst := some 104, op := Op.call { callee := Callee.value (Operand.func 50), args := #[Operand.tmp 100, Operand.tmp 101, Operand.tmp 103], argTypes := #[35, 26, 30] }, type := 4, pos := "law.go:75", after := #[{ on := 5, ground := Ground.data }, { on := 6, ground := Ground.data }, { on := 8, ground := Ground.data }, { on := 4, ground := Ground.chain }], guard := none }) rfl (fun K hK => ?_) AllReadyH.nil
  go_simp
  refine (HD.out _ (H1.out.2.2.trans H1.out.2.1)).mono ?_
  rintro e y2 ⟨rfl, hr2, hk2⟩
  rw [hok]
  have HF := Lib.hid (step_laid H.out.1 HY.out.1.drew H1.out.1 H1.out.2.1 hr2 hk2)
  have hS2 : Keep [g, q] w y2 ∧ y2.cell? ⟨w.heap.size, 0, none⟩ = some (.slice (some ⟨q, 0, none⟩) (64 * n) (64 * n)) ∧ y2.cell? ⟨w.heap.size + 1, 3, none⟩ = some (.slice sb M.length cb) := ⟨hS1.1.trans (hk2.weaken (by simp)), hk2.cell hS1.2.1 (by simp; omega), hk2.cell hS1.2.2 (by simp; omega)⟩
  clear hr2 hk2
  go_wp2_with fail
  refine shut_grow (fun x => x = y2) hK (fun _ h => by rw [h]; exact hS2) rfl (fun hHeld => ?_)
  clear hK K
  refine wpAnyH_take (i := 10) (oi := { dst := some 105, op := Op.binOp BinOp.eql 4 (Operand.tmp 99) (Operand.tmp 104) 4, type := 4, pos := "law.go:75", after := #[{ on := 4, ground := Ground.data }, { on := 9, ground := Ground.data }], guard := none }) (v := ?_) rfl (by kernel_rfl) (by kernel_rfl) (by kernel_rfl) (fun _ _ _ h => h) (Or.inl ⟨by rfl, ?_⟩) (by assumption) ?_
  rotate_left
  focus (intro w hSw; (try dsimp only at hSw); go_simp <;> with_reducible rfl)
  try simp only [Act.put, List.setIfInBounds_toArray, List.set_cons_zero, List.set_cons_succ]
  refine wpAnyH_take (i := 11) (oi := { dst := some 6, op := Op.assign (Operand.tmp 105), type := 4, pos := "law.go:75", after := #[{ on := 10, ground := Ground.data }, { on := 9, ground := Ground.chain }, { on := 0, ground := Ground.phase }, { on := 1, ground := Ground.phase }, { on := 2, ground := Ground.phase }, { on := 3, ground := Ground.phase }, { on := 4, ground := Ground.phase }, { on := 5, ground := Ground.phase }, { on := 6, ground := Ground.phase }, { on := 7, ground := Ground.phase }, { on := 8, ground := Ground.phase }, { on := 9, ground := Ground.phase }, { on := 10, ground := Ground.phase }], guard := none }) (v := ?_) rfl (by kernel_rfl) (by kernel_rfl) (by kernel_rfl) (fun _ _ _ h => h) (Or.inl ⟨by rfl, ?_⟩) (by assumption) ?_
  rotate_left
  focus (intro w hSw; (try dsimp only at hSw); go_simp <;> with_reducible rfl)
  try simp only [Act.put, List.setIfInBounds_toArray, List.set_cons_zero, List.set_cons_succ]
  refine wpAnyH_done (by kernel_rfl) ?_ _
  go_wp2_with fail
  go_ret
  exact HF.out
set_option maxRecDepth 100000 in
set_option maxHeartbeats 4000000 in
theorem step_5 {w : World} {r fb g q n : Nat} {L : List Int} (h : Both w r fb g q n L) (a W : Nat) (ha : a < 4294967296) (hW : W < 4294967296) {sb : Option Addr} {cb : Nat} {M : List Int} (hM : Row w sb cb M) (hsrc : M = [] ∨ ∀ b, sb = some b → b.block ≠ g ∧ b.block ≠ q)
    (hm : M.length ≤ 9223372036854775807) (N : Int) (hN1 : -9223372036854775808 ≤ N) (hN2 : N ≤ 9223372036854775807) :
    Calls Try.prog 29 #[.pointer (some ⟨r, 0, none⟩), .agg #[.slice (some ⟨q, 0, none⟩) (64 * n) (64 * n)], .agg #[.int .i64 5, .int .u32 a, .int .u32 W, .slice sb M.length cb, .int .i64 N]] w (StepPost r fb g q n w) := by
  have hlt := h.lt
  have H := Lib.hid (And.intro h (And.intro hM hsrc))
  clear h hM hsrc
  go_enter Try.func29, Try.ntmps29
  go_wp2_with fail
  refine (near_at a ha _).mono ?_
  rintro e y0 ⟨rfl, rfl⟩
  have hA := near_lt ha
  generalize near a = A at hA
  obtain ⟨y, hy⟩ : ∃ y, y = (w.alloc (.cells #[.slice (some ⟨q, 0, none⟩) (64 * n) (64 * n)] 35)).alloc (.cells #[.int .i64 5, .int .u32 a, .int .u32 W, .slice sb M.length cb, .int .i64 N] 48) := ⟨_, rfl⟩
  have HY : Hid (Keep [] w y ∧ Boxed y w.heap.size q n 5 a W sb M.length cb N) := Lib.hid (by
    subst hy
    have h1 := heap_alloc_other (.cells #[.int .i64 5, .int .u32 a, .int .u32 W, .slice sb M.length cb, .int .i64 N] 48) (heap_alloc_same w (.cells #[.slice (some ⟨q, 0, none⟩) (64 * n) (64 * n)] 35))
    have h2 := heap_alloc_at (n := w.heap.size + 1) (.cells #[.int .i64 5, .int .u32 a, .int .u32 W, .slice sb M.length cb, .int .i64 N] 48) (show w.heap.size + 1 = (w.alloc (.cells #[.slice (some ⟨q, 0, none⟩) (64 * n) (64 * n)] 35)).heap.size by simp)
    exact ⟨((Keep.refl _ _).alloc _).alloc _, cell_of h1 0 rfl, cell_of h2 0 rfl, cell_of h2 1 rfl, cell_of h2 2 rfl, cell_of h2 3 rfl, cell_of h2 4 rfl⟩)
  rw [← hy]
  clear hy
  have hcs := HY.out.2
  unfold Boxed at hcs
  obtain ⟨c0, c1, c2, c3, c4, c5⟩ := hcs
  have C1 := Lib.hid (bframe_r (H.out.1.keep0 HY.out.1.drew) N hN1 hN2)
  have C2 := Lib.hid (fun x (hx : Keep [] w x) => bframe_d (H.out.1.keep0 hx).refN N hN1 hN2)
  generalize frameAt n L N = F at C1 C2
  go_wp2_with fail
  refine wp_region_held_drew (S := fun x => Keep [] w x ∧ x.cell? ⟨w.heap.size, 0, none⟩ = some (.slice (some ⟨q, 0, none⟩) (64 * n) (64 * n)) ∧ x.cell? ⟨w.heap.size + 1, 4, none⟩ = some (.int .i64 N)) (by kernel_rfl) ⟨HY.out.1.drew, c0, c5⟩ (fun hHeld => ?_)
  skip
  refine wpAnyH_take (i := 0) (oi := { dst := some 108, op := Op.move (Operand.tmp 0), type := 22, pos := "law.go:77", after := #[], guard := none }) (v := ?_) rfl (by kernel_rfl) (by kernel_rfl) (by kernel_rfl) (fun _ _ _ h => h) (Or.inl ⟨by rfl, ?_⟩) (by assumption) ?_
  rotate_left
  focus (intro w hSw; (try dsimp only at hSw); go_simp <;> with_reducible rfl)
  try simp only [Act.put, List.setIfInBounds_toArray, List.set_cons_zero, List.set_cons_succ]
  refine wpAnyH_take (i := 1) (oi := { dst := some 109, op := Op.fieldAddr 48 (Operand.tmp 5) 4, type := 0, pos := "law.go:77", after := #[], guard := none }) (v := ?_) rfl (by kernel_rfl) (by kernel_rfl) (by kernel_rfl) (fun _ _ _ h => h) (Or.inl ⟨by rfl, ?_⟩) (by assumption) ?_
  rotate_left
  focus (intro w hSw; (try dsimp only at hSw); go_simp <;> with_reducible rfl)
  try simp only [Act.put, List.setIfInBounds_toArray, List.set_cons_zero, List.set_cons_succ]
  refine wpAnyH_take (i := 2) (oi := { dst := some 110, op := Op.load 3 (Operand.tmp 109), type := 3, pos := "law.go:77", after := #[{ on := 1, ground := Ground.data }], guard := none }) (v := ?_) rfl (by kernel_rfl) (by kernel_rfl) (by kernel_rfl) (fun _ _ _ h => h) (Or.inl ⟨by rfl, ?_⟩) (by assumption) ?_
  rotate_left
  focus (intro w hSw; (try dsimp only at hSw); go_simp <;> with_reducible rfl)
  try simp only [Act.put, List.setIfInBounds_toArray, List.set_cons_zero, List.set_cons_succ]
  refine wpAnyH_take (i := 5) (oi := { dst := some 113, op := Op.load 35 (Operand.tmp 4), type := 35, pos := "law.go:77", after := #[], guard := none }) (v := ?_) rfl (by kernel_rfl) (by kernel_rfl) (by kernel_rfl) (fun _ _ _ h => h) (Or.inl ⟨by rfl, ?_⟩) (by assumption) ?_
  rotate_left
  focus (intro w hSw; (try dsimp only at hSw); go_simp <;> with_reducible rfl)
  try simp only [Act.put, List.setIfInBounds_toArray, List.set_cons_zero, List.set_cons_succ]
  refine wpAnyH_take (i := 6) (oi := { dst := some 114, op := Op.fieldAddr 48 (Operand.tmp 5) 4, type := 0, pos := "law.go:77", after := #[], guard := none }) (v := ?_) rfl (by kernel_rfl) (by kernel_rfl) (by kernel_rfl) (fun _ _ _ h => h) (Or.inl ⟨by rfl, ?_⟩) (by assumption) ?_
  rotate_left
  focus (intro w hSw; (try dsimp only at hSw); go_simp <;> with_reducible rfl)
  try simp only [Act.put, List.setIfInBounds_toArray, List.set_cons_zero, List.set_cons_succ]
  refine wpAnyH_take (i := 7) (oi := { dst := some 115, op := Op.load 3 (Operand.tmp 114), type := 3, pos := "law.go:77", after := #[{ on := 6, ground := Ground.data }], guard := none }) (v := ?_) rfl (by kernel_rfl) (by kernel_rfl) (by kernel_rfl) (fun _ _ _ h => h) (Or.inl ⟨by rfl, ?_⟩) (by assumption) ?_
  rotate_left
  focus (intro w hSw; (try dsimp only at hSw); go_simp <;> with_reducible rfl)
  try simp only [Act.put, List.setIfInBounds_toArray, List.set_cons_zero, List.set_cons_succ]
  refine wpAnyH_ready (rs := [3]) (by kernel_rfl) (by simp) ?_
  refine AllReadyH.cons (o := { dst := some 111, op := Op.call { callee := Callee.value (Operand.func 20), args := #[Operand.tmp 108, Operand.tmp 110], argTypes := #[22, 3] }, type := 30, pos := "law.go:77", after := #[{ on := 0, ground := Ground.data }, { on := 2, ground := Ground.data }], guard := none }) rfl (fun K hK => ?_) AllReadyH.nil
  go_simp
  refine C1.out.mono ?_
  rintro e y1 ⟨b1, k1, rfl, hR1, hK1⟩
  have hq := Lib.hid hR1
  have hS1 : Keep [] w y1 ∧ y1.cell? ⟨w.heap.size, 0, none⟩ = some (.slice (some ⟨q, 0, none⟩) (64 * n) (64 * n)) ∧ y1.cell? ⟨w.heap.size + 1, 4, none⟩ = some (.int .i64 N) := ⟨hHeld.1.trans hK1, hK1.cell c0 (by simp), hK1.cell c5 (by simp)⟩
  clear hR1 hK1
  go_wp2_with fail
  refine shut_grow (fun x => (Keep [] w x ∧ x.cell? ⟨w.heap.size, 0, none⟩ = some (.slice (some ⟨q, 0, none⟩) (64 * n) (64 * n)) ∧ x.cell? ⟨w.heap.size + 1, 4, none⟩ = some (.int .i64 N)) ∧ (convert 30 9 (.slice b1 F.length k1)).run Try.prog x = .ok (.string (strOfNums F)) x) hK (fun _ h => h.1) ⟨hS1, str_of hq.out rfl⟩ (fun hHeld => ?_)
  clear hK K
  refine wpAnyH_take (i := 4) (oi := { dst := some 112, op := Op.convert 30 9 (Operand.tmp 111), type := 9, pos := "law.go:77", after := #[{ on := 3, ground := Ground.data }], guard := none }) (v := ?_) rfl (by kernel_rfl) (by kernel_rfl) (by kernel_rfl) (fun _ _ _ h => h) (Or.inl ⟨by rfl, ?_⟩) (by assumption) ?_
  rotate_left
  focus (intro w hSw; (try dsimp only at hSw); go_simp <;> with_reducible rfl)
  try simp only [Act.put, List.setIfInBounds_toArray, List.set_cons_zero, List.set_cons_succ]
  refine wpAnyH_ready (rs := [8]) (by kernel_rfl) (by simp) ?_
  refine AllReadyH.cons (o := { dst := some 116, op := Op.call { callee := Callee.value (Operand.func 36), args := #[Operand.tmp 113, Operand.tmp 115], argTypes := #[35, 3] }, type := 30, pos := "law.go:77", after := #[{ on := 5, ground := Ground.data }, { on := 7, ground := Ground.data }, { on := 3, ground := Ground.chain }], guard := none }) rfl (fun K hK => ?_) AllReadyH.nil
  go_simp
  refine (C2.out _ hS1.1).mono ?_
  rintro e y2 ⟨b2, k2, rfl, hR2, hK2⟩
  have HF := Lib.hid (step_quiet H.out.1 (hS1.1.trans hK2))
  have hp := Lib.hid (And.intro hR2 hK2)
  have hS2 : Keep [] w y2 ∧ y2.cell? ⟨w.heap.size, 0, none⟩ = some (.slice (some ⟨q, 0, none⟩) (64 * n) (64 * n)) ∧ y2.cell? ⟨w.heap.size + 1, 4, none⟩ = some (.int .i64 N) := ⟨hS1.1.trans hK2, hK2.cell hS1.2.1 (by simp), hK2.cell hS1.2.2 (by simp)⟩
  clear hR2 hK2
  go_wp2_with fail
  refine shut_grow (fun x => x = y2 ∧ (convert 30 9 (.slice b1 F.length k1)).run Try.prog x = .ok (.string (strOfNums F)) x ∧ (convert 30 9 (.slice b2 F.length k2)).run Try.prog x = .ok (.string (strOfNums F)) x) hK (fun x h => ⟨by rw [h.1]; exact hS2, h.2.1⟩) ⟨rfl, str_of (hq.out.keep0 hp.out.2) rfl, str_of hp.out.1 rfl⟩ (fun hHeld => ?_)
  clear hK K
  refine wpAnyH_take (i := 9) (oi := { dst := some 117, op := Op.convert 30 9 (Operand.tmp 116), type := 9, pos := "law.go:77", after := #[{ on := 8, ground := Ground.data }], guard := none }) (v := ?_) rfl (by kernel_rfl) (by kernel_rfl) (by kernel_rfl) (fun _ _ _ h => h) (Or.inl ⟨by rfl, ?_⟩) (by assumption) ?_
  rotate_left
  focus (intro w hSw; (try dsimp only at hSw); go_simp <;> with_reducible rfl)
  try simp only [Act.put, List.setIfInBounds_toArray, List.set_cons_zero, List.set_cons_succ]
  refine wpAnyH_take (i := 10) (oi := { dst := some 118, op := Op.binOp BinOp.eql 9 (Operand.tmp 112) (Operand.tmp 117) 9, type := 4, pos := "law.go:77", after := #[{ on := 4, ground := Ground.data }, { on := 9, ground := Ground.data }], guard := none }) (v := ?_) rfl (by kernel_rfl) (by kernel_rfl) (by kernel_rfl) (fun _ _ _ h => h) (Or.inl ⟨by rfl, ?_⟩) (by assumption) ?_
  rotate_left
  focus (intro w hSw; (try dsimp only at hSw); go_simp <;> with_reducible rfl)
  try simp only [Act.put, List.setIfInBounds_toArray, List.set_cons_zero, List.set_cons_succ]
  refine wpAnyH_take (i := 11) (oi := { dst := some 6, op := Op.assign (Operand.tmp 118), type := 4, pos := "law.go:77", after := #[{ on := 10, ground := Ground.data }, { on := 8, ground := Ground.chain }, { on := 0, ground := Ground.phase }, { on := 1, ground := Ground.phase }, { on := 2, ground := Ground.phase }, { on := 3, ground := Ground.phase }, { on := 4, ground := Ground.phase }, { on := 5, ground := Ground.phase }, { on := 6, ground := Ground.phase }, { on := 7, ground := Ground.phase }, { on := 8, ground := Ground.phase }, { on := 9, ground := Ground.phase }, { on := 10, ground := Ground.phase }], guard := none }) (v := ?_) rfl (by kernel_rfl) (by kernel_rfl) (by kernel_rfl) (fun _ _ _ h => h) (Or.inl ⟨by rfl, ?_⟩) (by assumption) ?_
  rotate_left
  focus (intro w hSw; (try dsimp only at hSw); go_simp <;> with_reducible rfl)
  try simp only [Act.put, List.setIfInBounds_toArray, List.set_cons_zero, List.set_cons_succ]
  refine wpAnyH_done (by kernel_rfl) ?_ _
  go_wp2_with fail
  go_ret
  exact HF.out
set_option maxRecDepth 100000 in
set_option maxHeartbeats 4000000 in
theorem step_other {w : World} {r fb g q n : Nat} {L : List Int} (h : Both w r fb g q n L) (kind : Int) (hk : kind ≠ 0 ∧ kind ≠ 1 ∧ kind ≠ 2 ∧ kind ≠ 3 ∧ kind ≠ 4 ∧ kind ≠ 5) (a W : Nat) (ha : a < 4294967296) (hW : W < 4294967296) {sb : Option Addr} {cb : Nat} {M : List Int} (hM : Row w sb cb M) (hsrc : M = [] ∨ ∀ b, sb = some b → b.block ≠ g ∧ b.block ≠ q)
    (hm : M.length ≤ 9223372036854775807) (N : Int) (hN1 : -9223372036854775808 ≤ N) (hN2 : N ≤ 9223372036854775807) :
    Calls Try.prog 29 #[.pointer (some ⟨r, 0, none⟩), .agg #[.slice (some ⟨q, 0, none⟩) (64 * n) (64 * n)], .agg #[.int .i64 kind, .int .u32 a, .int .u32 W, .slice sb M.length cb, .int .i64 N]] w (StepPost r fb g q n w) := by
  have hlt := h.lt
  have H := Lib.hid (And.intro h (And.intro hM hsrc))
  clear h hM hsrc
  go_enter Try.func29, Try.ntmps29
  go_wp2_with fail
  refine (near_at a ha _).mono ?_
  rintro e y0 ⟨rfl, rfl⟩
  have hA := near_lt ha
  generalize near a = A at hA
  obtain ⟨y, hy⟩ : ∃ y, y = (w.alloc (.cells #[.slice (some ⟨q, 0, none⟩) (64 * n) (64 * n)] 35)).alloc (.cells #[.int .i64 kind, .int .u32 a, .int .u32 W, .slice sb M.length cb, .int .i64 N] 48) := ⟨_, rfl⟩
  have HY : Hid (Keep [] w y ∧ Boxed y w.heap.size q n kind a W sb M.length cb N) := Lib.hid (by
    subst hy
    have h1 := heap_alloc_other (.cells #[.int .i64 kind, .int .u32 a, .int .u32 W, .slice sb M.length cb, .int .i64 N] 48) (heap_alloc_same w (.cells #[.slice (some ⟨q, 0, none⟩) (64 * n) (64 * n)] 35))
    have h2 := heap_alloc_at (n := w.heap.size + 1) (.cells #[.int .i64 kind, .int .u32 a, .int .u32 W, .slice sb M.length cb, .int .i64 N] 48) (show w.heap.size + 1 = (w.alloc (.cells #[.slice (some ⟨q, 0, none⟩) (64 * n) (64 * n)] 35)).heap.size by simp)
    exact ⟨((Keep.refl _ _).alloc _).alloc _, cell_of h1 0 rfl, cell_of h2 0 rfl, cell_of h2 1 rfl, cell_of h2 2 rfl, cell_of h2 3 rfl, cell_of h2 4 rfl⟩)
  rw [← hy]
  clear hy
  have hcs := HY.out.2
  unfold Boxed at hcs
  obtain ⟨c0, c1, c2, c3, c4, c5⟩ := hcs
  have e0 : (kind == 0) = false := beq_eq_false_iff_ne.2 hk.1
  have e1 : (kind == 1) = false := beq_eq_false_iff_ne.2 hk.2.1
  have e2 : (kind == 2) = false := beq_eq_false_iff_ne.2 hk.2.2.1
  have e3 : (kind == 3) = false := beq_eq_false_iff_ne.2 hk.2.2.2.1
  have e4 : (kind == 4) = false := beq_eq_false_iff_ne.2 hk.2.2.2.2.1
  have e5 : (kind == 5) = false := beq_eq_false_iff_ne.2 hk.2.2.2.2.2
  have HF := Lib.hid (step_quiet H.out.1 HY.out.1)
  clear hk hN1 hN2 hW
  go_wp2_with fail
  go_ret
  exact HF.out
theorem step_at {w : World} {r fb g q n : Nat} {L : List Int} (h : Both w r fb g q n L) (kind : Int) (a W : Nat) (ha : a < 4294967296) (hW : W < 4294967296) {sb : Option Addr} {cb : Nat} {M : List Int} (hM : Row w sb cb M) (hsrc : M = [] ∨ ∀ b, sb = some b → b.block ≠ g ∧ b.block ≠ q)
    (hm : M.length ≤ 9223372036854775807) (N : Int) (hN1 : -9223372036854775808 ≤ N) (hN2 : N ≤ 9223372036854775807) :
    Calls Try.prog 29 #[.pointer (some ⟨r, 0, none⟩), .agg #[.slice (some ⟨q, 0, none⟩) (64 * n) (64 * n)], .agg #[.int .i64 kind, .int .u32 a, .int .u32 W, .slice sb M.length cb, .int .i64 N]] w (StepPost r fb g q n w) := by
  by_cases h0 : kind = 0
  · subst h0; exact step_0 h a W ha hW hM hsrc hm N hN1 hN2
  by_cases h1 : kind = 1
  · subst h1; exact step_1 h a W ha hW hM hsrc hm N hN1 hN2
  by_cases h2 : kind = 2
  · subst h2; exact step_2 h a W ha hW hM hsrc hm N hN1 hN2
  by_cases h3 : kind = 3
  · subst h3; exact step_3 h a W ha hW hM hsrc hm N hN1 hN2
  by_cases h4 : kind = 4
  · subst h4; exact step_4 h a W ha hW hM hsrc hm N hN1 hN2
  by_cases h5 : kind = 5
  · subst h5; exact step_5 h a W ha hW hM hsrc hm N hN1 hN2
  exact step_other h kind ⟨h0, h1, h2, h3, h4, h5⟩ a W ha hW hM hsrc hm N hN1 hN2
end Go.Proofs.Yteoanahfbfflbaa
