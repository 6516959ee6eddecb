/- The law WalkComes, walked. -/
import Derived.Test.YteoanahfbfflbaaWalkA
import Derived.Test.YteoanahfbfflbaaWalk7
namespace Go.Proofs.Yteoanahfbfflbaa
open Go.RowKit Go.Mum
set_option linter.unusedVariables false

set_option maxRecDepth 100000 in
set_option maxHeartbeats 4000000 in
theorem WalkComes_walk (a0 : Int) (s1 : Option Addr) (len1 cap1 n1 : Nat) (c2 : Array Value) (n2 : Nat) (w : World) (w0 : (Lit.int .u8 a0).wf = true) (w1 : Fits Try.prog w maxLen n1 53 [.slice s1 len1 cap1]) (w2 : Fits Try.prog w maxLen n2 80 c2.toList) :
    Calls Try.prog 15 #[.int .u8 a0, .slice s1 len1 cap1, .agg c2] w fun e w' => e = .returned (.bool true) ∧ Below w.heap.size w w' := by
  obtain ⟨x0, x1, x2, x3, x4, rfl, h0, h1, h2, h3, h4⟩ := five_of_fits w2
  obtain ⟨n, es, hn4, hn10, HM⟩ := made_start w0 w1
  have HM := Lib.hid HM
  clear w0 w1 w2
  go_enter Try.func15, Try.ntmps15
  go_wp2_with fail
  obtain ⟨bx, hbx⟩ : ∃ bx, bx = w.heap.size := ⟨_, rfl⟩
  rw [← hbx]
  generalize hx : w.alloc _ = x
  have HX : Hid (Keep [] w x ∧ x.cell? ⟨bx, 0, none⟩ = some (.int .u32 x0) ∧ x.cell? ⟨bx, 1, none⟩ = some (.int .u32 x1) ∧ x.cell? ⟨bx, 2, none⟩ = some (.int .u32 x2) ∧ x.cell? ⟨bx, 3, none⟩ = some (.int .u32 x3)) := Lib.hid (by
    subst hx hbx
    exact ⟨(Keep.refl [] w).alloc _, cell_of (heap_alloc_same w _) 0 rfl, cell_of (heap_alloc_same w _) 1 rfl, cell_of (heap_alloc_same w _) 2 rfl, cell_of (heap_alloc_same w _) 3 rfl⟩)
  clear hx hbx
  refine (HM.out x HX.out.1).mono ?_
  rintro e y ⟨r, fb, g, q, hr, hfb, hg, hq, rfl, hB, hK⟩
  have c0 : ∀ o, (y.alloc o).cell? ⟨bx, 0, none⟩ = some (.int .u32 x0) := fun o => (hK.alloc o).cell HX.out.2.1 (by simp)
  have c1 : ∀ o, (y.alloc o).cell? ⟨bx, 1, none⟩ = some (.int .u32 x1) := fun o => (hK.alloc o).cell HX.out.2.2.1 (by simp)
  have c2 : ∀ o, (y.alloc o).cell? ⟨bx, 2, none⟩ = some (.int .u32 x2) := fun o => (hK.alloc o).cell HX.out.2.2.2.1 (by simp)
  have c3 : ∀ o, (y.alloc o).cell? ⟨bx, 3, none⟩ = some (.int .u32 x3) := fun o => (hK.alloc o).cell HX.out.2.2.2.2 (by simp)
  have HY := Lib.hid (And.intro hB (HX.out.1.trans hK))
  clear hB hK hr hfb hg hq HX HM
  generalize es.take 64 = es at HY
  generalize madeL n es = L at HY
  have hmod : ((x3 % 5 : Nat) : Int) = (x3 : Int) % 5 := by simp
  have L1 := fun z (hz : Keep [] y z) => to_at (HY.out.1.keep0 hz).mem x0 16 x1 x2 ((x3 % 5 : Nat) : Int) h0 (by omega) h1 h2 (by omega) (by omega)
  have L2 := fun z (hz : Keep [] y z) => rto_at (HY.out.1.keep0 hz).dmem x0 16 x1 x2 ((x3 % 5 : Nat) : Int) h0 (by omega) h1 h2 (by omega) (by omega)
  rw [hmod] at L1 L2
  generalize toF (rdOf n L) n x0 16 x1 x2 ((x3 : Int) % 5) = k at L1 L2
  have L1 := Lib.hid L1
  have L2 := Lib.hid L2
  clear hmod
  go_wp2_with fail
  obtain ⟨dx, hdx⟩ : ∃ dx, dx = y.heap.size := ⟨_, rfl⟩
  rw [← hdx]
  replace c0 := c0 (.cells #[.slice (some ⟨q, 0, none⟩) (64 * n) (64 * n)] 35)
  replace c1 := c1 (.cells #[.slice (some ⟨q, 0, none⟩) (64 * n) (64 * n)] 35)
  replace c2 := c2 (.cells #[.slice (some ⟨q, 0, none⟩) (64 * n) (64 * n)] 35)
  replace c3 := c3 (.cells #[.slice (some ⟨q, 0, none⟩) (64 * n) (64 * n)] 35)
  generalize hy2 : y.alloc _ = y2 at c0 c1 c2 c3 ⊢
  have HZ : Hid (Keep [] y y2 ∧ y2.cell? ⟨dx, 0, none⟩ = some (.slice (some ⟨q, 0, none⟩) (64 * n) (64 * n))) := Lib.hid (by
    subst hy2 hdx
    exact ⟨(Keep.refl [] y).alloc _, cell_of (heap_alloc_same y _) 0 rfl⟩)
  clear hy2 hdx
  have cd := HZ.out.2
  refine (L1.out _ HZ.out.1).mono ?_
  rintro e z ⟨rfl, hK⟩
  have HK := Lib.hid (HZ.out.1.trans hK)
  replace c0 := hK.cell c0 (by simp)
  replace c1 := hK.cell c1 (by simp)
  replace c2 := hK.cell c2 (by simp)
  replace c3 := hK.cell c3 (by simp)
  replace cd := hK.cell cd (by simp)
  clear hK HZ
  go_wp2_with fail
  refine (L2.out _ HK.out).mono ?_
  rintro e u ⟨rfl, hK⟩
  have HU := Lib.hid ((HY.out.2.trans HK.out).trans hK)
  have HW : Hid (Calls Try.prog 33 #[] u fun e w' => e = .returned (.bool true) ∧ Keep [] w w') := Lib.hid ((works_at _).mono fun e x h => ⟨h.1, HU.out.trans h.2⟩)
  clear hK c0 c1 c2 c3 cd
  go_wp2_with fail
  refine HW.out.mono ?_
  rintro e y ⟨rfl, hK⟩
  have hF := Lib.hid (Keep.below hK (Nat.le_refl _) (by simp))
  clear hK
  go_wp2_with fail
  go_ret
  exact ⟨rfl, hF.out⟩
end Go.Proofs.Yteoanahfbfflbaa
