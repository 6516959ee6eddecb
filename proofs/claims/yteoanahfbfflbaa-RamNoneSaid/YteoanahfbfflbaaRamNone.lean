/- The law RamNone, walked. -/
import Derived.Test.YteoanahfbfflbaaRamN2
import Derived.Test.YteoanahfbfflbaaFits2
import Derived.RegionTactic
import Derived.Outline
namespace Go.Proofs.Yteoanahfbfflbaa
open Go.RowKit Go.Mum
set_option linter.unusedVariables false

theorem nstep_of_cells {w : World} {B m : Nat} {ds : List Value} (hd : ds.length = 5) (hf : Fits Try.prog w B m 48 ds) :
    ∃ (kind : Int) (a W : Nat) (sb : Option Addr) (cb : Nat) (M : List Int) (N : Int), ds = [.int .i64 kind, .int .u32 a, .int .u32 W, .slice sb M.length cb, .int .i64 N] ∧ a < 4294967296 ∧ W < 4294967296 ∧ Row w sb cb M ∧ M.length ≤ 9223372036854775807 ∧ -9223372036854775808 ≤ N ∧ N ≤ 9223372036854775807 := by
  obtain ⟨m2, hl, hfs⟩ := hf.struct Try.underlying48
  match ds, hd with
  | [d0, d1, d2, d3, d4], _ =>
    have q1 : Try.prog.cellsOf 3 = 1 := by kernel_rfl
    have q2 : Try.prog.cellsOf 26 = 1 := by kernel_rfl
    have q3 : Try.prog.cellsOf 30 = 1 := by kernel_rfl
    obtain ⟨z0, e0, _⟩ := (hfs _ (.head _)).int Try.underlying3
    obtain ⟨z1, e1, g1⟩ := (hfs _ (.tail _ (.head _))).int Try.underlying26
    obtain ⟨z2, e2, g2⟩ := (hfs _ (.tail _ (.tail _ (.head _)))).int Try.underlying26
    have f3 := hfs _ (.tail _ (.tail _ (.tail _ (.head _))))
    obtain ⟨z4, e4, g4⟩ := (hfs _ (.tail _ (.tail _ (.tail _ (.tail _ (.head _)))))).int Try.underlying3
    simp [q1, q2] at e0 e1 e2 e4
    simp [q3] at f3
    subst e0 e1 e2 e4
    obtain ⟨sb, len, cb, rfl⟩ : ∃ a l c, d3 = .slice a l c := by
      cases m2 with
      | zero => exact f3.elim
      | succ k =>
        unfold Fits at f3
        rw [Try.underlying30] at f3
        rcases f3 with h | ⟨a, l, c, h, _⟩
        · simp at h; exact ⟨_, _, _, h⟩
        · simp at h; exact ⟨_, _, _, h⟩
    obtain ⟨M, rfl, hR, _⟩ := row_of_fits f3
    have h1 := wf_u32 g1
    have h2 := wf_u32 g2
    have h4 := wf_i64 g4
    refine ⟨z0, z1.toNat, z2.toNat, sb, cb, M, z4, by rw [Int.toNat_of_nonneg h1.1, Int.toNat_of_nonneg h2.1], by omega, by omega, hR, ?_, h4.1, h4.2⟩
    have := hR.cap
    unfold maxLen at this
    omega


theorem nsize {w : World} {v : Value} (h : Sz w v 0) : Calls Try.prog 18 #[v] w fun e w' => e = .returned (.int .u32 0) ∧ w = w' := by simpa using rsize_any h

set_option maxRecDepth 100000 in
set_option maxHeartbeats 4000000 in
theorem RamNone_walk (c0 : Array Value) (n0 : Nat) (w : World) (w0 : Fits Try.prog w maxLen n0 48 c0.toList) :
    Calls Try.prog 12 #[.agg c0] w fun e w' => e = .returned (.bool true) ∧ Below w.heap.size w w' := by
  obtain ⟨m2, hl5, -⟩ := w0.struct Try.underlying48
  obtain ⟨kind, a, W, sb, cb, M, N, hc0, ha, hW, hM, hm, hN1, hN2⟩ := nstep_of_cells (by rw [hl5]; kernel_rfl) w0
  obtain rfl : c0 = #[.int .i64 kind, .int .u32 a, .int .u32 W, .slice sb M.length cb, .int .i64 N] := by
    obtain ⟨l⟩ := c0
    simp only at hc0
    rw [hc0]
  have HM := Lib.hid hM
  clear hc0 w0 hM hl5
  go_enter Try.func12, Try.ntmps12
  go_wp2_with fail
  obtain ⟨sx, hsx⟩ : ∃ sx, sx = w.heap.size := ⟨_, rfl⟩
  rw [← hsx]
  generalize hx : w.alloc _ = x
  have HX : Hid (Keep [] w x ∧ x.cell? ⟨sx, 0, none⟩ = some (.int .i64 kind) ∧ x.cell? ⟨sx, 1, none⟩ = some (.int .u32 a) ∧ x.cell? ⟨sx, 2, none⟩ = some (.int .u32 W) ∧ x.cell? ⟨sx, 3, none⟩ = some (.slice sb M.length cb) ∧ x.cell? ⟨sx, 4, none⟩ = some (.int .i64 N)) := Lib.hid (by
    subst hx hsx
    exact ⟨(Keep.refl [] w).alloc _, cell_of (heap_alloc_same w _) 0 rfl, cell_of (heap_alloc_same w _) 1 rfl, cell_of (heap_alloc_same w _) 2 rfl, cell_of (heap_alloc_same w _) 3 rfl, cell_of (heap_alloc_same w _) 4 rfl⟩)
  clear hx hsx
  refine (rnew_good 1 _ (by omega) (by omega)).mono ?_
  rintro e y ⟨r, fb, g, hr, hfb, hg, rfl, hA, hK⟩
  have HZ := Lib.hid (rsize_any hA.sz)
  have HY := Lib.hid (HX.out.1.trans hK)
  have HC := Lib.hid (fun z (hz : Keep [] y z) => And.intro ((hK.trans hz).cell HX.out.2.1 (by simp)) (And.intro ((hK.trans hz).cell HX.out.2.2.1 (by simp)) (And.intro ((hK.trans hz).cell HX.out.2.2.2.1 (by simp)) (And.intro ((hK.trans hz).cell HX.out.2.2.2.2.1 (by simp)) ((hK.trans hz).cell HX.out.2.2.2.2.2 (by simp))))))
  clear hA hK hr hfb hg
  go_wp2_with fail
  refine HZ.out.mono ?_
  rintro e y' ⟨rfl, rfl⟩
  simp only [List.length_range]
  go_wp2_with fail
  obtain ⟨bx, hbx⟩ : ∃ bx, bx = y.heap.size := ⟨_, rfl⟩
  rw [← hbx]
  generalize hz : World.alloc _ _ = z
  have HD : Hid (Keep [] y z ∧ z.cell? ⟨bx, 0, none⟩ = some (.slice none 0 0) ∧ z.cell? ⟨bx + 1, 0, none⟩ = some (.pointer none) ∧ z.cell? ⟨bx + 1, 1, none⟩ = some (.pointer (some ⟨bx, 0, none⟩))) := Lib.hid (by
    subst hz hbx
    generalize hy1 : y.alloc _ = y1
    have k1 : Keep [] y y1 := by subst hy1; exact (Keep.refl _ _).alloc _
    have s1 : y1.heap.size = y.heap.size + 1 := by subst hy1; simp
    have d0 : y1.cell? ⟨y.heap.size, 0, none⟩ = some (.slice none 0 0) := by subst hy1; exact cell_of (heap_alloc_same y _) 0 rfl
    clear hy1
    refine ⟨k1.alloc _, ((Keep.refl [] y1).alloc _).cell d0 (by simp), ?_, ?_⟩
    · rw [← s1]; exact cell_of (heap_alloc_same y1 _) 0 rfl
    · rw [← s1]; exact cell_of (heap_alloc_same y1 _) 1 rfl)
  clear hz hbx
  go_loopw [7, 8, 9] (fun kv _ _ wr => ∃ k : Nat, kv = .int .i64 k ∧ k ≤ 2 ∧ Keep [] z wr) (fun kv _ _ _ => 2 - (intOf kv).toNat)
  case atStart => exact ⟨0, rfl, by omega, Keep.refl _ _⟩
  case round =>
    obtain ⟨k, rfl, hk, hK⟩ := hrel
    by_cases hlt : k < 2
    · obtain ⟨v, hv, hM⟩ : ∃ v, wr.cell? ⟨bx + 1, k, none⟩ = some v ∧ ∀ x, Keep [] wr x → Sz x v 0 := by
        obtain ⟨-, d4, d5, d6⟩ := HD.out
        match k, hlt with
        | 0, _ => exact ⟨_, hK.cell d5 (by simp), fun x hx => .inl ⟨rfl, rfl⟩⟩
        | 1, _ => exact ⟨_, hK.cell d6 (by simp), fun x hx => .inr ⟨_, _, _, rfl, (hK.trans hx).cell d4 (by simp), by omega⟩⟩
      have HK := Lib.hid hK
      have HW := Lib.hid (fun x hx (s : Option Addr) => nwindow (hM x hx) (s := s) (m := 1) (c := 1))
      have HS := Lib.hid (fun x hx => nstep_at (hM x hx) kind a W ha hW (HM.out.keep0 ((HY.out.trans (HD.out.1.trans hK)).trans hx)) hm N hN1 hN2)
      have HN := Lib.hid (fun x hx => nsize (hM x hx))
      have HP := Lib.hid (fun x hx => rcopy_none (hM x hx))
      clear hM hK
      go_wp2_with fail
      refine (HW.out _ ((Keep.refl [] wr).alloc _) _).mono ?_
      rintro e y2 ⟨rfl, rfl⟩
      generalize hw2 : wr.alloc _ = w2
      have H2 : Hid (Keep [] wr w2 ∧ w2.cell? ⟨bx + 1, k, none⟩ = some v ∧ w2.cell? ⟨sx, 0, none⟩ = some (.int .i64 kind) ∧ w2.cell? ⟨sx, 1, none⟩ = some (.int .u32 a) ∧ w2.cell? ⟨sx, 2, none⟩ = some (.int .u32 W) ∧ w2.cell? ⟨sx, 3, none⟩ = some (.slice sb M.length cb) ∧ w2.cell? ⟨sx, 4, none⟩ = some (.int .i64 N)) := Lib.hid (by
        subst hw2
        have hk := fun o => (Keep.refl [] wr).alloc o
        exact ⟨hk _, (hk _).cell hv (by simp), HC.out _ (HD.out.1.trans (HK.out.trans (hk _)))⟩)
      clear hw2 hv
      have HR := Lib.hid (fun x (hx : Keep [] w2 x) => (show Keep [] wr x ∧ x.cell? ⟨bx + 1, k, none⟩ = some v ∧ x.cell? ⟨sx, 0, none⟩ = some (.int .i64 kind) ∧ x.cell? ⟨sx, 1, none⟩ = some (.int .u32 a) ∧ x.cell? ⟨sx, 2, none⟩ = some (.int .u32 W) ∧ x.cell? ⟨sx, 3, none⟩ = some (.slice sb M.length cb) ∧ x.cell? ⟨sx, 4, none⟩ = some (.int .i64 N) from ⟨H2.out.1.trans hx, hx.cell H2.out.2.1 (by simp), HC.out _ (HD.out.1.trans (HK.out.trans (H2.out.1.trans hx)))⟩))
      go_wp2_with fail
      refine wp_region_held_drew (S := fun x => Keep [] wr x ∧ x.cell? ⟨bx + 1, k, none⟩ = some v ∧ x.cell? ⟨sx, 0, none⟩ = some (.int .i64 kind) ∧ x.cell? ⟨sx, 1, none⟩ = some (.int .u32 a) ∧ x.cell? ⟨sx, 2, none⟩ = some (.int .u32 W) ∧ x.cell? ⟨sx, 3, none⟩ = some (.slice sb M.length cb) ∧ x.cell? ⟨sx, 4, none⟩ = some (.int .i64 N)) (by kernel_rfl) (HR.out _ (Keep.refl [] w2).drew) (fun hHeld => ?_)
      skip
      refine wpAnyH_take (i := 0) (oi := { dst := some 46, op := Op.move (Operand.tmp 6), type := 76, pos := "law.go:129", after := #[], guard := none }) (v := ?_) rfl (by kernel_rfl) (by kernel_rfl) (by kernel_rfl) (fun _ _ _ h => h) (Or.inl ⟨by rfl, ?_⟩) (by assumption) ?_
      rotate_left
      focus (intro w hSw; (try dsimp only at hSw); go_simp <;> with_reducible rfl)
      try simp only [Act.put, List.setIfInBounds_toArray, List.set_cons_zero, List.set_cons_succ]
      refine wpAnyH_take (i := 1) (oi := { dst := some 47, op := Op.move (Operand.tmp 7), type := 3, pos := "law.go:129", after := #[], guard := none }) (v := ?_) rfl (by kernel_rfl) (by kernel_rfl) (by kernel_rfl) (fun _ _ _ h => h) (Or.inl ⟨by rfl, ?_⟩) (by assumption) ?_
      rotate_left
      focus (intro w hSw; (try dsimp only at hSw); go_simp <;> with_reducible rfl)
      try simp only [Act.put, List.setIfInBounds_toArray, List.set_cons_zero, List.set_cons_succ]
      refine wpAnyH_take (i := 2) (oi := { dst := some 48, op := Op.indexAddr 76 (Operand.tmp 46) (Operand.tmp 47), type := 0, pos := "law.go:129", after := #[{ on := 0, ground := Ground.data }, { on := 1, ground := Ground.data }], guard := none }) (v := ?_) rfl (by kernel_rfl) (by kernel_rfl) (by kernel_rfl) (fun _ _ _ h => h) (Or.inl ⟨by rfl, ?_⟩) (by assumption) ?_
      rotate_left
      focus (intro w hSw; (try dsimp only at hSw); go_simp <;> with_reducible rfl)
      try simp only [Act.put, List.setIfInBounds_toArray, List.set_cons_zero, List.set_cons_succ]
      refine wpAnyH_take (i := 3) (oi := { dst := some 49, op := Op.load 22 (Operand.tmp 48), type := 22, pos := "law.go:129", after := #[{ on := 2, ground := Ground.data }], guard := none }) (v := ?_) rfl (by kernel_rfl) (by kernel_rfl) (by kernel_rfl) (fun _ _ _ h => h) (Or.inl ⟨by rfl, ?_⟩) (by assumption) ?_
      rotate_left
      focus (intro w hSw; (try dsimp only at hSw); go_simp <;> with_reducible rfl)
      try simp only [Act.put, List.setIfInBounds_toArray, List.set_cons_zero, List.set_cons_succ]
      refine wpAnyH_take (i := 4) (oi := { dst := some 50, op := Op.build 35 #[], type := 35, pos := "law.go:129", after := #[], guard := none }) (v := ?_) rfl (by kernel_rfl) (by kernel_rfl) (by kernel_rfl) (fun _ _ _ h => h) (Or.inl ⟨by rfl, ?_⟩) (by assumption) ?_
      rotate_left
      focus (intro w hSw; (try dsimp only at hSw); go_simp <;> with_reducible rfl)
      try simp only [Act.put, List.setIfInBounds_toArray, List.set_cons_zero, List.set_cons_succ]
      refine wpAnyH_take (i := 5) (oi := { dst := some 51, op := Op.load 48 (Operand.tmp 1), type := 48, pos := "law.go:129", after := #[], guard := none }) (v := ?_) rfl (by kernel_rfl) (by kernel_rfl) (by kernel_rfl) (fun _ _ _ h => h) (Or.inl ⟨by rfl, ?_⟩) (by assumption) ?_
      rotate_left
      focus (intro w hSw; (try dsimp only at hSw); go_simp <;> with_reducible rfl)
      try simp only [Act.put, List.setIfInBounds_toArray, List.set_cons_zero, List.set_cons_succ]
      refine wpAnyH_ready (rs := [6]) (by kernel_rfl) (by simp) ?_
      refine AllReadyH.cons (o := { dst := some 52, op := Op.call { callee := Callee.value (Operand.func 29), args := #[Operand.tmp 49, Operand.tmp 50, Operand.tmp 51], argTypes := #[22, 35, 48] }, type := 4, pos := "law.go:129", after := #[{ on := 3, ground := Ground.data }, { on := 4, ground := Ground.data }, { on := 5, ground := Ground.data }], guard := none }) rfl (fun K hK => ?_) AllReadyH.nil
      go_simp
      refine (HS.out _ hHeld.1).mono ?_
      rintro e y3 ⟨rfl, hk3⟩
      have H3 := Lib.hid (((Keep.refl [] w2).drew).trans hk3)
      clear hk3
      go_wp2_with fail
      refine shut_grow (fun x => Keep [] wr x ∧ x.cell? ⟨bx + 1, k, none⟩ = some v ∧ x.cell? ⟨sx, 0, none⟩ = some (.int .i64 kind) ∧ x.cell? ⟨sx, 1, none⟩ = some (.int .u32 a) ∧ x.cell? ⟨sx, 2, none⟩ = some (.int .u32 W) ∧ x.cell? ⟨sx, 3, none⟩ = some (.slice sb M.length cb) ∧ x.cell? ⟨sx, 4, none⟩ = some (.int .i64 N)) hK (fun _ h => h) (HR.out _ H3.out) (fun hHeld => ?_)
      clear hK K
      refine wpAnyH_take (i := 7) (oi := { dst := some 53, op := Op.unOp UnOp.not 4 (Operand.tmp 52), type := 4, pos := "law.go:129", after := #[{ on := 6, ground := Ground.data }], guard := none }) (v := ?_) rfl (by kernel_rfl) (by kernel_rfl) (by kernel_rfl) (fun _ _ _ h => h) (Or.inl ⟨by rfl, ?_⟩) (by assumption) ?_
      rotate_left
      focus (intro w hSw; (try dsimp only at hSw); go_simp <;> with_reducible rfl)
      try simp only [Act.put, List.setIfInBounds_toArray, List.set_cons_zero, List.set_cons_succ]
      refine wpAnyH_take (i := 8) (oi := { dst := some 54, op := Op.move (Operand.tmp 53), type := 4, pos := "law.go:129", after := #[{ on := 7, ground := Ground.data }, { on := 6, ground := Ground.chain }], guard := none }) (v := ?_) rfl (by kernel_rfl) (by kernel_rfl) (by kernel_rfl) (fun _ _ _ h => h) (Or.inl ⟨by rfl, ?_⟩) (by assumption) ?_
      rotate_left
      focus (intro w hSw; (try dsimp only at hSw); go_simp <;> with_reducible rfl)
      try simp only [Act.put, List.setIfInBounds_toArray, List.set_cons_zero, List.set_cons_succ]
      refine wpAnyH_take (i := 9) (oi := { dst := some 55, op := Op.move (Operand.tmp 6), type := 76, pos := "law.go:129", after := #[{ on := 8, ground := Ground.guard }], guard := some (8, false) }) (v := ?_) rfl (by kernel_rfl) (by kernel_rfl) (by kernel_rfl) (fun _ _ _ h => h) (Or.inl ⟨by rfl, ?_⟩) (by assumption) ?_
      rotate_left
      focus (intro w hSw; (try dsimp only at hSw); go_simp <;> with_reducible rfl)
      try simp only [Act.put, List.setIfInBounds_toArray, List.set_cons_zero, List.set_cons_succ]
      refine wpAnyH_take (i := 10) (oi := { dst := some 56, op := Op.move (Operand.tmp 7), type := 3, pos := "law.go:129", after := #[{ on := 8, ground := Ground.guard }], guard := some (8, false) }) (v := ?_) rfl (by kernel_rfl) (by kernel_rfl) (by kernel_rfl) (fun _ _ _ h => h) (Or.inl ⟨by rfl, ?_⟩) (by assumption) ?_
      rotate_left
      focus (intro w hSw; (try dsimp only at hSw); go_simp <;> with_reducible rfl)
      try simp only [Act.put, List.setIfInBounds_toArray, List.set_cons_zero, List.set_cons_succ]
      refine wpAnyH_take (i := 11) (oi := { dst := some 57, op := Op.indexAddr 76 (Operand.tmp 55) (Operand.tmp 56), type := 0, pos := "law.go:129", after := #[{ on := 9, ground := Ground.data }, { on := 10, ground := Ground.data }, { on := 8, ground := Ground.guard }], guard := some (8, false) }) (v := ?_) rfl (by kernel_rfl) (by kernel_rfl) (by kernel_rfl) (fun _ _ _ h => h) (Or.inl ⟨by rfl, ?_⟩) (by assumption) ?_
      rotate_left
      focus (intro w hSw; (try dsimp only at hSw); go_simp <;> with_reducible rfl)
      try simp only [Act.put, List.setIfInBounds_toArray, List.set_cons_zero, List.set_cons_succ]
      refine wpAnyH_take (i := 12) (oi := { dst := some 58, op := Op.load 22 (Operand.tmp 57), type := 22, pos := "law.go:129", after := #[{ on := 11, ground := Ground.data }, { on := 8, ground := Ground.guard }], guard := some (8, false) }) (v := ?_) rfl (by kernel_rfl) (by kernel_rfl) (by kernel_rfl) (fun _ _ _ h => h) (Or.inl ⟨by rfl, ?_⟩) (by assumption) ?_
      rotate_left
      focus (intro w hSw; (try dsimp only at hSw); go_simp <;> with_reducible rfl)
      try simp only [Act.put, List.setIfInBounds_toArray, List.set_cons_zero, List.set_cons_succ]
      refine wpAnyH_ready (rs := [13]) (by kernel_rfl) (by simp) ?_
      refine AllReadyH.cons (o := { dst := some 59, op := Op.call { callee := Callee.value (Operand.func 18), args := #[Operand.tmp 58], argTypes := #[22] }, type := 26, pos := "law.go:129", after := #[{ on := 12, ground := Ground.data }, { on := 8, ground := Ground.chain }, { on := 8, ground := Ground.guard }], guard := some (8, false) }) rfl (fun K hK => ?_) AllReadyH.nil
      go_simp
      refine (HN.out _ hHeld.1).mono ?_
      rintro e y4 ⟨rfl, rfl⟩
      go_wp2_with fail
      refine shut_grow (fun x => Keep [] wr x ∧ x.cell? ⟨bx + 1, k, none⟩ = some v ∧ x.cell? ⟨sx, 0, none⟩ = some (.int .i64 kind) ∧ x.cell? ⟨sx, 1, none⟩ = some (.int .u32 a) ∧ x.cell? ⟨sx, 2, none⟩ = some (.int .u32 W) ∧ x.cell? ⟨sx, 3, none⟩ = some (.slice sb M.length cb) ∧ x.cell? ⟨sx, 4, none⟩ = some (.int .i64 N)) hK (fun _ h => h) hHeld (fun hHeld => ?_)
      clear hK K
      refine wpAnyH_take (i := 14) (oi := { dst := some 60, op := Op.binOp BinOp.neq 26 (Operand.tmp 59) (Operand.const (Value.int IntKind.u32 0)) 26, type := 4, pos := "law.go:129", after := #[{ on := 13, ground := Ground.data }, { on := 8, ground := Ground.guard }], guard := some (8, false) }) (v := ?_) rfl (by kernel_rfl) (by kernel_rfl) (by kernel_rfl) (fun _ _ _ h => h) (Or.inl ⟨by rfl, ?_⟩) (by assumption) ?_
      rotate_left
      focus (intro w hSw; (try dsimp only at hSw); go_simp <;> with_reducible rfl)
      try simp only [Act.put, List.setIfInBounds_toArray, List.set_cons_zero, List.set_cons_succ]
      refine wpAnyH_take (i := 15) (oi := { dst := some 61, op := Op.pick (Operand.tmp 54) (Operand.const (Value.bool true)) (Operand.tmp 60), type := 4, pos := "law.go:129", after := #[{ on := 8, ground := Ground.data }, { on := 14, ground := Ground.data }], guard := none }) (v := ?_) rfl (by kernel_rfl) (by kernel_rfl) (by kernel_rfl) (fun _ _ _ h => h) (Or.inl ⟨by rfl, ?_⟩) (by assumption) ?_
      rotate_left
      focus (intro w hSw; (try dsimp only at hSw); go_simp <;> with_reducible rfl)
      try simp only [Act.put, List.setIfInBounds_toArray, List.set_cons_zero, List.set_cons_succ]
      refine wpAnyH_take (i := 16) (oi := { dst := some 62, op := Op.move (Operand.tmp 61), type := 4, pos := "law.go:129", after := #[{ on := 15, ground := Ground.data }, { on := 13, ground := Ground.chain }], guard := none }) (v := ?_) rfl (by kernel_rfl) (by kernel_rfl) (by kernel_rfl) (fun _ _ _ h => h) (Or.inl ⟨by rfl, ?_⟩) (by assumption) ?_
      rotate_left
      focus (intro w hSw; (try dsimp only at hSw); go_simp <;> with_reducible rfl)
      try simp only [Act.put, List.setIfInBounds_toArray, List.set_cons_zero, List.set_cons_succ]
      refine wpAnyH_take (i := 17) (oi := { dst := some 63, op := Op.move (Operand.tmp 6), type := 76, pos := "law.go:129", after := #[{ on := 16, ground := Ground.guard }], guard := some (16, false) }) (v := ?_) rfl (by kernel_rfl) (by kernel_rfl) (by kernel_rfl) (fun _ _ _ h => h) (Or.inl ⟨by rfl, ?_⟩) (by assumption) ?_
      rotate_left
      focus (intro w hSw; (try dsimp only at hSw); go_simp <;> with_reducible rfl)
      try simp only [Act.put, List.setIfInBounds_toArray, List.set_cons_zero, List.set_cons_succ]
      refine wpAnyH_take (i := 18) (oi := { dst := some 64, op := Op.move (Operand.tmp 7), type := 3, pos := "law.go:129", after := #[{ on := 16, ground := Ground.guard }], guard := some (16, false) }) (v := ?_) rfl (by kernel_rfl) (by kernel_rfl) (by kernel_rfl) (fun _ _ _ h => h) (Or.inl ⟨by rfl, ?_⟩) (by assumption) ?_
      rotate_left
      focus (intro w hSw; (try dsimp only at hSw); go_simp <;> with_reducible rfl)
      try simp only [Act.put, List.setIfInBounds_toArray, List.set_cons_zero, List.set_cons_succ]
      refine wpAnyH_take (i := 19) (oi := { dst := some 65, op := Op.indexAddr 76 (Operand.tmp 63) (Operand.tmp 64), type := 0, pos := "law.go:129", after := #[{ on := 17, ground := Ground.data }, { on := 18, ground := Ground.data }, { on := 16, ground := Ground.guard }], guard := some (16, false) }) (v := ?_) rfl (by kernel_rfl) (by kernel_rfl) (by kernel_rfl) (fun _ _ _ h => h) (Or.inl ⟨by rfl, ?_⟩) (by assumption) ?_
      rotate_left
      focus (intro w hSw; (try dsimp only at hSw); go_simp <;> with_reducible rfl)
      try simp only [Act.put, List.setIfInBounds_toArray, List.set_cons_zero, List.set_cons_succ]
      refine wpAnyH_take (i := 20) (oi := { dst := some 66, op := Op.load 22 (Operand.tmp 65), type := 22, pos := "law.go:129", after := #[{ on := 19, ground := Ground.data }, { on := 16, ground := Ground.guard }], guard := some (16, false) }) (v := ?_) rfl (by kernel_rfl) (by kernel_rfl) (by kernel_rfl) (fun _ _ _ h => h) (Or.inl ⟨by rfl, ?_⟩) (by assumption) ?_
      rotate_left
      focus (intro w hSw; (try dsimp only at hSw); go_simp <;> with_reducible rfl)
      try simp only [Act.put, List.setIfInBounds_toArray, List.set_cons_zero, List.set_cons_succ]
      refine wpAnyH_ready (rs := [21]) (by kernel_rfl) (by simp) ?_
      refine AllReadyH.cons (o := { dst := some 67, op := Op.call { callee := Callee.value (Operand.func 27), args := #[Operand.tmp 66], argTypes := #[22] }, type := 22, pos := "law.go:129", after := #[{ on := 20, ground := Ground.data }, { on := 16, ground := Ground.chain }, { on := 16, ground := Ground.guard }], guard := some (16, false) }) rfl (fun K hK => ?_) AllReadyH.nil
      go_simp
      refine (HP.out _ hHeld.1).mono ?_
      rintro e y4 ⟨rfl, rfl⟩
      go_wp2_with fail
      refine shut_grow (fun x => Keep [] wr x ∧ x.cell? ⟨bx + 1, k, none⟩ = some v ∧ x.cell? ⟨sx, 0, none⟩ = some (.int .i64 kind) ∧ x.cell? ⟨sx, 1, none⟩ = some (.int .u32 a) ∧ x.cell? ⟨sx, 2, none⟩ = some (.int .u32 W) ∧ x.cell? ⟨sx, 3, none⟩ = some (.slice sb M.length cb) ∧ x.cell? ⟨sx, 4, none⟩ = some (.int .i64 N)) hK (fun _ h => h) hHeld (fun hHeld => ?_)
      clear hK K
      refine wpAnyH_take (i := 22) (oi := { dst := some 68, op := Op.binOp BinOp.neq 22 (Operand.tmp 67) (Operand.const (Value.pointer none)) 22, type := 4, pos := "law.go:129", after := #[{ on := 21, ground := Ground.data }, { on := 16, ground := Ground.guard }], guard := some (16, false) }) (v := ?_) rfl (by kernel_rfl) (by kernel_rfl) (by kernel_rfl) (fun _ _ _ h => h) (Or.inl ⟨by rfl, ?_⟩) (by assumption) ?_
      rotate_left
      focus (intro w hSw; (try dsimp only at hSw); go_simp <;> with_reducible rfl)
      try simp only [Act.put, List.setIfInBounds_toArray, List.set_cons_zero, List.set_cons_succ]
      refine wpAnyH_take (i := 23) (oi := { dst := some 69, op := Op.pick (Operand.tmp 62) (Operand.const (Value.bool true)) (Operand.tmp 68), type := 4, pos := "law.go:129", after := #[{ on := 16, ground := Ground.data }, { on := 22, ground := Ground.data }], guard := none }) (v := ?_) rfl (by kernel_rfl) (by kernel_rfl) (by kernel_rfl) (fun _ _ _ h => h) (Or.inl ⟨by rfl, ?_⟩) (by assumption) ?_
      rotate_left
      focus (intro w hSw; (try dsimp only at hSw); go_simp <;> with_reducible rfl)
      try simp only [Act.put, List.setIfInBounds_toArray, List.set_cons_zero, List.set_cons_succ]
      refine wpAnyH_done (by kernel_rfl) ?_ _
      have HE := Lib.hid (HK.out.trans (HR.out _ H3.out).1)
      clear hHeld
      go_wp2_with fail
      refine ⟨?_, ?_⟩
      · repeat apply Exists.intro
        refine ⟨⟨k + 1, by go_num, by omega, HE.out⟩, rfl⟩
      · simp [intOf]; omega
    · have hlt' : ¬ ((k : Int) < 2) := by omega
      have hF := Lib.hid (Keep.below (HY.out.trans (HD.out.1.trans hK)) (Nat.le_refl _) (by simp))
      go_wp2_with fail
      go_ret
      exact ⟨rfl, hF.out⟩
end Go.Proofs.Yteoanahfbfflbaa
