/- The law WalkHangs, walked. -/
import Derived.Test.YteoanahfbfflbaaWalkB
namespace Go.Proofs.Yteoanahfbfflbaa
open Go.RowKit Go.Mum
set_option linter.unusedVariables false

set_option maxRecDepth 100000 in
set_option maxHeartbeats 4000000 in
theorem WalkHangs_walk (a0 : Int) (s1 : Option Addr) (len1 cap1 n1 : Nat) (c2 : Array Value) (n2 : Nat) (w : World) (w0 : (Lit.int .u8 a0).wf = true) (w1 : Fits Try.prog w maxLen n1 53 [.slice s1 len1 cap1]) (w2 : Fits Try.prog w maxLen n2 66 c2.toList) :
    Calls Try.prog 9 #[.int .u8 a0, .slice s1 len1 cap1, .agg c2] w fun e w' => e = .returned (.bool true) ∧ Below w.heap.size w w' := by
  obtain ⟨x0, x1, x2, x3, rfl, h0, h1, h2, h3⟩ := four_of_fits w2
  obtain ⟨n, es, hn4, hn10, HM⟩ := made_start w0 w1
  have HM := Lib.hid HM
  clear w0 w1 w2
  go_enter Try.func9, Try.ntmps9
  go_wp2_with fail
  obtain ⟨bx, hbx⟩ : ∃ bx, bx = w.heap.size := ⟨_, rfl⟩
  rw [← hbx]
  generalize hx : w.alloc _ = x
  have HX : Hid (Keep [] w x ∧ x.cell? ⟨bx, 0, none⟩ = some (.int .u32 x0) ∧ x.cell? ⟨bx, 1, none⟩ = some (.int .u32 x1) ∧ x.cell? ⟨bx, 2, none⟩ = some (.int .u32 x2) ∧ x.cell? ⟨bx, 3, none⟩ = some (.int .u32 x3) ∧ bx < x.heap.size ∧ w.heap.size ≤ bx) := Lib.hid (by
    subst hx hbx
    exact ⟨(Keep.refl [] w).alloc _, cell_of (heap_alloc_same w _) 0 rfl, cell_of (heap_alloc_same w _) 1 rfl, cell_of (heap_alloc_same w _) 2 rfl, cell_of (heap_alloc_same w _) 3 rfl, by simp, Nat.le_refl _⟩)
  clear hx hbx
  refine (HM.out x HX.out.1).mono ?_
  rintro e y ⟨r, fb, g, q, hr, hfb, hg, hq, rfl, hB, hK⟩
  have hgb : bx < g := by have := HX.out.2.2.2.2.2.1; omega
  have hgw : w.heap.size ≤ g := by have := HX.out.2.2.2.2.2.2; omega
  have c0 : ∀ o, (y.alloc o).cell? ⟨bx, 0, none⟩ = some (.int .u32 x0) := fun o => (hK.alloc o).cell HX.out.2.1 (by simp)
  have c1 : ∀ o, (y.alloc o).cell? ⟨bx, 1, none⟩ = some (.int .u32 x1) := fun o => (hK.alloc o).cell HX.out.2.2.1 (by simp)
  have c2 : ∀ o, (y.alloc o).cell? ⟨bx, 2, none⟩ = some (.int .u32 x2) := fun o => (hK.alloc o).cell HX.out.2.2.2.1 (by simp)
  have c3 : ∀ o, (y.alloc o).cell? ⟨bx, 3, none⟩ = some (.int .u32 x3) := fun o => (hK.alloc o).cell HX.out.2.2.2.2.1 (by simp)
  have HY := Lib.hid (And.intro hB (HX.out.1.trans hK))
  clear hB hK hr hfb hg hq HX HM
  generalize es.take 64 = es at HY
  generalize madeL n es = L at HY
  obtain ⟨at0, hat0⟩ : ∃ at0, at0 = x2 % (64 * n) := ⟨_, rfl⟩
  have hatl : at0 < 64 * n := by rw [hat0]; exact Nat.mod_lt _ (by omega)
  have hm : (x2 : Int) % (64 * (n : Int)) = (at0 : Int) := by rw [hat0]; simp
  clear hat0
  have ho : ((at0 / 4 * 4 : Nat) : Int) = (at0 : Int) - (at0 : Int) % 4 := by omega
  have L1 := Lib.hid (fun z (hz : Keep [] y z) => look_at (HY.out.1.keep0 hz).mem x0 16 x1 h0 (by omega) h1)
  have L2 := fun z (hz : Keep [] y z) => bsetword_r (HY.out.1.keep0 hz) (at0 / 4 * 4) (by omega) x3 h3
  have hly : layB n (at0 / 4 * 4) (le4 x3).length 4 = true := layB_yes (by show _ ∧ _ + 4 ≤ _; omega)
  have L2 := fun z hz => (L2 z hz).mono fun e z' (h : RPost r fb g n L (at0 / 4 * 4) (le4 x3) 4 z e z') => (show e = .returned (.bool true) ∧ RamAt z' r fb g (List.range n) (laid n L (at0 / 4 * 4) (le4 x3) 4) ∧ Keep [g] z z' from ⟨by rw [← hly]; exact h.1, h.2⟩)
  rw [ho] at L2
  have L2 := Lib.hid L2
  have hl2 := laid_length (a := at0 / 4 * 4) (M := le4 x3) (al := 4) HY.out.1.len
  have L3 := fun z (hz : RamAt z r fb g (List.range n) (laid n L (at0 / 4 * 4) (le4 x3) 4)) => look_at (mem_of_ram hz (by rw [hl2]; exact HY.out.1.len) (by omega)) x0 16 x1 h0 (by omega) h1
  have HQ : Hid (∀ b a e d t p, lookF (rdOf n L) n x0 16 x1 = some (b, a, e, d, t, p) → at0 / 64 ≠ d → at0 / 64 ≠ t → lookF (rdOf n (laid n L (at0 / 4 * 4) (le4 x3) 4)) n x0 16 x1 = some (b, a, e, d, t, p)) := Lib.hid (fun b a e d t p h hd ht => look_same h fun x hx => rd_other HY.out.1.len ⟨by omega, by omega⟩ (by omega))
  have L3 := Lib.hid L3
  clear hly ho hl2
  generalize hk : lookF (rdOf n L) n x0 16 x1 = k at L1 HQ
  clear hk
  generalize lookF (rdOf n (laid n L (at0 / 4 * 4) (le4 x3) 4)) n x0 16 x1 = k' at L3 HQ
  go_wp2_with fail
  obtain ⟨dx, hdx⟩ : ∃ dx, dx = y.heap.size := ⟨_, rfl⟩
  rw [← hdx]
  replace c0 := c0 (.cells #[.slice (some ⟨q, 0, none⟩) (64 * n) (64 * n)] 35)
  replace c1 := c1 (.cells #[.slice (some ⟨q, 0, none⟩) (64 * n) (64 * n)] 35)
  replace c2 := c2 (.cells #[.slice (some ⟨q, 0, none⟩) (64 * n) (64 * n)] 35)
  replace c3 := c3 (.cells #[.slice (some ⟨q, 0, none⟩) (64 * n) (64 * n)] 35)
  generalize hy2 : y.alloc _ = y2 at c0 c1 c2 c3 ⊢
  have HZ : Hid (Keep [] y y2 ∧ y2.cell? ⟨dx, 0, none⟩ = some (.slice (some ⟨q, 0, none⟩) (64 * n) (64 * n)) ∧ g < dx) := Lib.hid (by
    have := HY.out.1.lt
    subst hy2 hdx
    exact ⟨(Keep.refl [] y).alloc _, cell_of (heap_alloc_same y _) 0 rfl, this.2.2.1⟩)
  clear hy2 hdx
  have cd := HZ.out.2.1
  refine (L1.out _ HZ.out.1).mono ?_
  rintro e z ⟨rfl, hK⟩
  have HK := Lib.hid (HZ.out.1.trans hK)
  replace c0 := fun o => (hK.alloc o).cell c0 (by simp)
  replace c1 := fun o => (hK.alloc o).cell c1 (by simp)
  replace c2 := fun o => (hK.alloc o).cell c2 (by simp)
  replace c3 := fun o => (hK.alloc o).cell c3 (by simp)
  replace cd := fun o => (hK.alloc o).cell cd (by simp)
  have HW : Hid (∀ o, Calls Try.prog 33 #[] (z.alloc o) fun e w' => e = .returned (.bool true) ∧ Keep [] w w') := Lib.hid fun o => (works_at _).mono fun e x h => ⟨h.1, ((HY.out.2.trans HK.out).alloc o).trans h.2⟩
  clear hK
  cases k with
  | none =>
    simp only [wayV, Option.isSome_none]
    go_wp2_with fail
    refine (HW.out _).mono ?_
    rintro e y ⟨rfl, hK⟩
    have hF := Lib.hid (Keep.below hK (Nat.le_refl _) (by simp))
    clear hK
    go_wp2_with fail
    go_ret
    exact ⟨rfl, hF.out⟩
  | some k =>
    obtain ⟨k0, k1, k2, k3, k4, k5⟩ := k
    simp only [wayV, Option.isSome_some]
    by_cases hd : ((at0 : Int) - (at0 : Int) % 4) / 64 = (k3 : Int)
    · go_wp2_with fail
      refine (HW.out _).mono ?_
      rintro e y ⟨rfl, hK⟩
      have hF := Lib.hid (Keep.below hK (Nat.le_refl _) (by simp))
      clear hK
      go_wp2_with fail
      go_ret
      exact ⟨rfl, hF.out⟩
    · by_cases ht : ((at0 : Int) - (at0 : Int) % 4) / 64 = (k4 : Int)
      · go_wp2_with fail
        refine (HW.out _).mono ?_
        rintro e y ⟨rfl, hK⟩
        have hF := Lib.hid (Keep.below hK (Nat.le_refl _) (by simp))
        clear hK
        go_wp2_with fail
        go_ret
        exact ⟨rfl, hF.out⟩
      · obtain rfl := HQ.out _ _ _ _ _ _ rfl (by omega) (by omega)
        have hd' : (((at0 : Int) - (at0 : Int) % 4) / 64 == (k3 : Int)) = false := beq_eq_false_iff_ne.2 hd
        have ht' : (((at0 : Int) - (at0 : Int) % 4) / 64 == (k4 : Int)) = false := beq_eq_false_iff_ne.2 ht
        have hg1 := HZ.out.2.2
        have hsz := (HZ.out.1.size)
        have hzs := HK.out.size
        have hgz : g < z.heap.size := by have := HY.out.1.lt.2.2.1; omega
        clear hsz hzs
        go_wp2_with fail
        refine (L2.out _ (HK.out.alloc _)).mono ?_
        rintro e y' ⟨rfl, hR, hK⟩
        have hcw := fun i v (h : (z.alloc (.cells #[.int .u32 k0, .int .u32 k1, .int .u32 k2, .int .i64 k3, .int .i64 k4, .int .i64 k5] 58)).cell? ⟨z.heap.size, i, none⟩ = some v) => hK.cell h (by simp; omega)
        have f0 := hcw 0 _ (cell_of (heap_alloc_same z _) 0 rfl)
        have f1 := hcw 1 _ (cell_of (heap_alloc_same z _) 1 rfl)
        have f2 := hcw 2 _ (cell_of (heap_alloc_same z _) 2 rfl)
        have f3 := hcw 3 _ (cell_of (heap_alloc_same z _) 3 rfl)
        have f4 := hcw 4 _ (cell_of (heap_alloc_same z _) 4 rfl)
        have f5 := hcw 5 _ (cell_of (heap_alloc_same z _) 5 rfl)
        replace c0 := hK.cell (c0 _) (by simp; omega)
        replace c1 := hK.cell (c1 _) (by simp; omega)
        have HV : Hid (Keep [] w y') := Lib.hid ((HY.out.2.trans (HK.out.alloc _)).then hK (fun k hk hlt => by simp at hk; omega))
        have HR := Lib.hid (L3.out _ hR)
        clear hK hcw hR c2 c3 cd HW
        go_wp2_with fail
        refine HR.out.mono ?_
        rintro e u ⟨rfl, hK⟩
        replace f0 := fun o => (hK.alloc o).cell f0 (by simp)
        replace f1 := fun o => (hK.alloc o).cell f1 (by simp)
        replace f2 := fun o => (hK.alloc o).cell f2 (by simp)
        replace f3 := fun o => (hK.alloc o).cell f3 (by simp)
        replace f4 := fun o => (hK.alloc o).cell f4 (by simp)
        replace f5 := fun o => (hK.alloc o).cell f5 (by simp)
        have HW : Hid (∀ o, Calls Try.prog 33 #[] (u.alloc o) fun e w' => e = .returned (.bool true) ∧ Keep [] w w') := Lib.hid fun o => (works_at _).mono fun e x h => ⟨h.1, ((HV.out.trans hK).alloc o).trans h.2⟩
        clear hK HR c0 c1
        simp only [wayV, Option.isSome_some]
        go_wp2_with fail
        refine (HW.out _).mono ?_
        rintro e y ⟨rfl, hK⟩
        have hF := Lib.hid (Keep.below hK (Nat.le_refl _) (by simp))
        clear hK
        go_wp2_with fail
        go_ret
        exact ⟨rfl, hF.out⟩
end Go.Proofs.Yteoanahfbfflbaa
