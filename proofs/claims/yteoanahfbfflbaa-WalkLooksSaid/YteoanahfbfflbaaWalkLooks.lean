/- The law WalkLooks, walked. -/
import Derived.Test.YteoanahfbfflbaaWalkA
namespace Go.Proofs.Yteoanahfbfflbaa
open Go.RowKit Go.Mum
set_option linter.unusedVariables false

set_option maxRecDepth 100000 in
set_option maxHeartbeats 4000000 in
theorem WalkLooks_walk (a0 : Int) (s1 : Option Addr) (len1 cap1 n1 : Nat) (c2 : Array Value) (n2 : Nat) (w : World) (w0 : (Lit.int .u8 a0).wf = true) (w1 : Fits Try.prog w maxLen n1 53 [.slice s1 len1 cap1]) (w2 : Fits Try.prog w maxLen n2 54 c2.toList) :
    Calls Try.prog 7 #[.int .u8 a0, .slice s1 len1 cap1, .agg c2] w fun e w' => e = .returned (.bool true) ∧ Below w.heap.size w w' := by
  obtain ⟨x0, x1, x2, rfl, h0, h1, h2⟩ := three_of_fits w2
  obtain ⟨n, es, hn4, hn10, HM⟩ := made_start w0 w1
  have HM := Lib.hid HM
  clear w0 w1 w2
  go_enter Try.func7, Try.ntmps7
  go_wp2_with fail
  obtain ⟨bx, hbx⟩ : ∃ bx, bx = w.heap.size := ⟨_, rfl⟩
  rw [← hbx]
  generalize hx : w.alloc _ = x
  have HX : Hid (Keep [] w x ∧ x.cell? ⟨bx, 0, none⟩ = some (.int .u32 x0) ∧ x.cell? ⟨bx, 1, none⟩ = some (.int .u32 x1) ∧ x.cell? ⟨bx, 2, none⟩ = some (.int .u32 x2)) := Lib.hid (by
    subst hx hbx
    exact ⟨(Keep.refl [] w).alloc _, cell_of (heap_alloc_same w _) 0 rfl, cell_of (heap_alloc_same w _) 1 rfl, cell_of (heap_alloc_same w _) 2 rfl⟩)
  clear hx hbx
  refine (HM.out x HX.out.1).mono ?_
  rintro e y ⟨r, fb, g, q, hr, hfb, hg, hq, rfl, hB, hK⟩
  have HY := Lib.hid (And.intro hB (And.intro (HX.out.1.trans hK) (And.intro (hK.cell HX.out.2.1 (by simp)) (And.intro (hK.cell HX.out.2.2.1 (by simp)) (hK.cell HX.out.2.2.2 (by simp))))))
  clear hB hK hr hfb hg hq HX HM
  generalize es.take 64 = es at HY
  generalize madeL n es = L at HY
  have hmod : ((x1 % 40 : Nat) : Int) = (x1 : Int) % 40 := by simp
  have L1 := fun z (hz : Keep [] y z) => look_at (HY.out.1.keep0 hz).mem x0 (x1 % 40) x2 h0 (by omega) h2
  have L2 := fun z (hz : Keep [] y z) => rlook_at (HY.out.1.keep0 hz).dmem x0 (x1 % 40) x2 h0 (by omega) h2
  rw [hmod] at L1 L2
  generalize lookF (rdOf n L) n x0 (x1 % 40) x2 = k at L1 L2
  have L1 := Lib.hid L1
  have L2 := Lib.hid L2
  clear hmod
  have c0 : (y.alloc (.cells #[.slice (some ⟨q, 0, none⟩) (64 * n) (64 * n)] 35)).cell? ⟨bx, 0, none⟩ = some (.int .u32 x0) := ((Keep.refl [] y).alloc _).cell HY.out.2.2.1 (by simp)
  have c1 : (y.alloc (.cells #[.slice (some ⟨q, 0, none⟩) (64 * n) (64 * n)] 35)).cell? ⟨bx, 1, none⟩ = some (.int .u32 x1) := ((Keep.refl [] y).alloc _).cell HY.out.2.2.2.1 (by simp)
  have c2 : (y.alloc (.cells #[.slice (some ⟨q, 0, none⟩) (64 * n) (64 * n)] 35)).cell? ⟨bx, 2, none⟩ = some (.int .u32 x2) := ((Keep.refl [] y).alloc _).cell HY.out.2.2.2.2 (by simp)
  go_wp2_with fail
  obtain ⟨dx, hdx⟩ : ∃ dx, dx = y.heap.size := ⟨_, rfl⟩
  rw [← hdx]
  generalize hy2 : y.alloc _ = y2 at c0 c1 c2 ⊢
  have HZ : Hid (Keep [] y y2 ∧ y2.cell? ⟨dx, 0, none⟩ = some (.slice (some ⟨q, 0, none⟩) (64 * n) (64 * n))) := Lib.hid (by
    subst hy2 hdx
    exact ⟨(Keep.refl [] y).alloc _, cell_of (heap_alloc_same y _) 0 rfl⟩)
  clear hy2 hdx
  have cd := HZ.out.2
  refine (L1.out _ HZ.out.1).mono ?_
  rintro e z ⟨rfl, hK⟩
  have HK := Lib.hid (HZ.out.1.trans hK)
  replace c0 := fun o => (hK.alloc o).cell c0 (by simp)
  replace c1 := fun o => (hK.alloc o).cell c1 (by simp)
  replace c2 := fun o => (hK.alloc o).cell c2 (by simp)
  replace cd := fun o => (hK.alloc o).cell cd (by simp)
  clear hK HZ
  cases k with
  | none =>
    simp only [wayV, Option.isSome_none]
    go_wp2_with fail
    refine (L2.out _ (HK.out.alloc _)).mono ?_
    rintro e u ⟨rfl, hK⟩
    simp only [wayV, Option.isSome_none]
    have hc := fun i v (h : (z.alloc (.cells #[.int .u32 0, .int .u32 0, .int .u32 0, .int .i64 0, .int .i64 0, .int .i64 0] 58)).cell? ⟨z.heap.size, i, none⟩ = some v) (o : Obj) => (hK.alloc o).cell h (by simp)
    have HU := Lib.hid ((HY.out.2.1.trans (HK.out.alloc _)).trans hK)
    have f0 := hc 0 _ (cell_of (heap_alloc_same z _) 0 rfl)
    have f1 := hc 1 _ (cell_of (heap_alloc_same z _) 1 rfl)
    have f2 := hc 2 _ (cell_of (heap_alloc_same z _) 2 rfl)
    have f3 := hc 3 _ (cell_of (heap_alloc_same z _) 3 rfl)
    have f4 := hc 4 _ (cell_of (heap_alloc_same z _) 4 rfl)
    have f5 := hc 5 _ (cell_of (heap_alloc_same z _) 5 rfl)
    have HW : Hid (∀ o, Calls Try.prog 33 #[] (u.alloc o) fun e w' => e = .returned (.bool true) ∧ Keep [] w w') := Lib.hid fun o => (works_at _).mono fun e x h => ⟨h.1, (HU.out.alloc o).trans h.2⟩
    clear hK hc c0 c1 c2 cd
    go_wp2_with fail
    refine (HW.out _).mono ?_
    rintro e y ⟨rfl, hK⟩
    have hF := Lib.hid (Keep.below hK (Nat.le_refl _) (by simp))
    clear hK
    go_wp2_with fail
    go_ret
    exact ⟨rfl, hF.out⟩
  | some k =>
    obtain ⟨k0, k1, k2, k3, k4, k5⟩ := k
    simp only [wayV, Option.isSome_some]
    go_wp2_with fail
    refine (L2.out _ (HK.out.alloc _)).mono ?_
    rintro e u ⟨rfl, hK⟩
    simp only [wayV, Option.isSome_some]
    have hc := fun i v (h : (z.alloc (.cells #[.int .u32 k0, .int .u32 k1, .int .u32 k2, .int .i64 k3, .int .i64 k4, .int .i64 k5] 58)).cell? ⟨z.heap.size, i, none⟩ = some v) (o : Obj) => (hK.alloc o).cell h (by simp)
    have HU := Lib.hid ((HY.out.2.1.trans (HK.out.alloc _)).trans hK)
    have f0 := hc 0 _ (cell_of (heap_alloc_same z _) 0 rfl)
    have f1 := hc 1 _ (cell_of (heap_alloc_same z _) 1 rfl)
    have f2 := hc 2 _ (cell_of (heap_alloc_same z _) 2 rfl)
    have f3 := hc 3 _ (cell_of (heap_alloc_same z _) 3 rfl)
    have f4 := hc 4 _ (cell_of (heap_alloc_same z _) 4 rfl)
    have f5 := hc 5 _ (cell_of (heap_alloc_same z _) 5 rfl)
    have HW : Hid (∀ o, Calls Try.prog 33 #[] (u.alloc o) fun e w' => e = .returned (.bool true) ∧ Keep [] w w') := Lib.hid fun o => (works_at _).mono fun e x h => ⟨h.1, (HU.out.alloc o).trans h.2⟩
    clear hK hc c0 c1 c2 cd
    go_wp2_with fail
    refine (HW.out _).mono ?_
    rintro e y ⟨rfl, hK⟩
    have hF := Lib.hid (Keep.below hK (Nat.le_refl _) (by simp))
    clear hK
    go_wp2_with fail
    go_ret
    exact ⟨rfl, hF.out⟩
end Go.Proofs.Yteoanahfbfflbaa
