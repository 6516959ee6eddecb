/- The law WalkPages, walked. -/
import Derived.Test.YteoanahfbfflbaaWalkA
namespace Go.Proofs.Yteoanahfbfflbaa
open Go.RowKit Go.Mum
set_option linter.unusedVariables false

theorem pages (rd : Nat → Option Nat) (n root va place : Nat) (hp : place < 64) :
    (lookF rd n root 16 va = none ∧ lookF rd n root 16 (va / 64 * 64 + place) = none) ∨
    ∃ b P e d t, P < n ∧ lookF rd n root 16 va = some (b, 64 * P + va % 64, e, d, t, P) ∧ lookF rd n root 16 (va / 64 * 64 + place) = some (b, 64 * P + place, e, d, t, P) := by
  have e1 : (va / 64 * 64 + place) / 1024 = va / 1024 := by omega
  have e2 : dirAt root (va / 64 * 64 + place) = dirAt root va := by unfold dirAt; rw [e1]
  have e3 : ∀ x, tabAt x (va / 64 * 64 + place) = tabAt x va := fun x => by
    have : (va / 64 * 64 + place) / 64 = va / 64 := by omega
    unfold tabAt; rw [this]
  have e4 : ∀ y, endAt y (va / 64 * 64 + place) = 64 * (y / 64) + place := fun y => by unfold endAt; omega
  have e5 : ∀ y, endAt y va = 64 * (y / 64) + va % 64 := fun y => by unfold endAt; omega
  unfold lookF
  rw [e1, e2]
  by_cases hd : 16 ≤ va / 1024
  · left; rw [if_pos hd]; exact ⟨rfl, if_pos hd⟩
  · rw [if_neg hd]
    cases h1 : rd (dirAt root va) with
    | none => left; exact ⟨rfl, if_neg hd⟩
    | some x =>
      simp only [e3]
      by_cases hx : x % 2 = 0
      · left; simp [hx]
      · cases h2 : rd (tabAt x va) with
        | none => left; simp
        | some y =>
          by_cases hy : y % 2 = 0
          · left; simp [hy]
          · by_cases hn : n ≤ y / 64
            · left; simp [e4, e5]; omega
            · right
              refine ⟨refBits x y, y / 64, tabAt x va, dirAt root va / 64, tabAt x va / 64, by omega, ?_, ?_⟩
              · simp only [if_neg hx, if_neg hy, e5]
                rw [if_neg (by omega), show (64 * (y / 64) + va % 64) / 64 = y / 64 by omega]
              · simp only [if_neg hx, if_neg hy, e4, if_neg hd]
                rw [if_neg (by omega), show (64 * (y / 64) + place) / 64 = y / 64 by omega]

set_option maxRecDepth 100000 in
set_option maxHeartbeats 4000000 in
theorem WalkPages_walk (a0 : Int) (s1 : Option Addr) (len1 cap1 n1 : Nat) (c2 : Array Value) (n2 : Nat) (w : World) (w0 : (Lit.int .u8 a0).wf = true) (w1 : Fits Try.prog w maxLen n1 53 [.slice s1 len1 cap1]) (w2 : Fits Try.prog w maxLen n2 54 c2.toList) :
    Calls Try.prog 8 #[.int .u8 a0, .slice s1 len1 cap1, .agg c2] w fun e w' => e = .returned (.bool true) ∧ Below w.heap.size w w' := by
  obtain ⟨x0, x1, x2, rfl, h0, h1, h2⟩ := three_of_fits w2
  obtain ⟨n, es, hn4, hn10, HM⟩ := made_start w0 w1
  have HM := Lib.hid HM
  clear w0 w1 w2
  go_enter Try.func8, Try.ntmps8
  go_wp2_with fail
  obtain ⟨bx, hbx⟩ : ∃ bx, bx = w.heap.size := ⟨_, rfl⟩
  rw [← hbx]
  generalize hx : w.alloc _ = x
  have HX : Hid (Keep [] w x ∧ x.cell? ⟨bx, 0, none⟩ = some (.int .u32 x0) ∧ x.cell? ⟨bx, 1, none⟩ = some (.int .u32 x1) ∧ x.cell? ⟨bx, 2, none⟩ = some (.int .u32 x2)) := Lib.hid (by
    subst hx hbx
    exact ⟨(Keep.refl [] w).alloc _, cell_of (heap_alloc_same w _) 0 rfl, cell_of (heap_alloc_same w _) 1 rfl, cell_of (heap_alloc_same w _) 2 rfl⟩)
  clear hx hbx
  refine (HM.out x HX.out.1).mono ?_
  rintro e y ⟨r, fb, g, q, hr, hfb, hg, hq, rfl, hB, hK⟩
  have HY := Lib.hid (And.intro hB (And.intro (HX.out.1.trans hK) (And.intro (hK.cell HX.out.2.1 (by simp)) (And.intro (hK.cell HX.out.2.2.1 (by simp)) (hK.cell HX.out.2.2.2 (by simp))))))
  clear hB hK hr hfb hg hq HX HM
  generalize es.take 64 = es at HY
  generalize madeL n es = L at HY
  have L1 := fun z (hz : Keep [] y z) => look_at (HY.out.1.keep0 hz).mem x0 16 x1 h0 (by omega) h1
  have L2 := fun z (hz : Keep [] y z) => look_at (HY.out.1.keep0 hz).mem x0 16 (x1 / 64 * 64 + x2 % 64) h0 (by omega) (by omega)
  have hp := pages (rdOf n L) n x0 x1 (x2 % 64) (by omega)
  generalize lookF (rdOf n L) n x0 16 x1 = k at L1 hp
  generalize lookF (rdOf n L) n x0 16 (x1 / 64 * 64 + x2 % 64) = k' at L2 hp
  have ho : ((x1 / 64 * 64 + x2 % 64 : Nat) : Int) = (x1 : Int) - (x1 : Int) % 64 + (x2 : Int) % 64 := by omega
  rw [ho] at L2
  clear ho
  have L1 := Lib.hid L1
  have L2 := Lib.hid L2
  have c0 : (y.alloc (.cells #[.slice (some ⟨q, 0, none⟩) (64 * n) (64 * n)] 35)).cell? ⟨bx, 0, none⟩ = some (.int .u32 x0) := ((Keep.refl [] y).alloc _).cell HY.out.2.2.1 (by simp)
  have c1 : (y.alloc (.cells #[.slice (some ⟨q, 0, none⟩) (64 * n) (64 * n)] 35)).cell? ⟨bx, 1, none⟩ = some (.int .u32 x1) := ((Keep.refl [] y).alloc _).cell HY.out.2.2.2.1 (by simp)
  have c2 : (y.alloc (.cells #[.slice (some ⟨q, 0, none⟩) (64 * n) (64 * n)] 35)).cell? ⟨bx, 2, none⟩ = some (.int .u32 x2) := ((Keep.refl [] y).alloc _).cell HY.out.2.2.2.2 (by simp)
  go_wp2_with fail
  go_quiet (fail)
  go_wp2_with fail
  obtain ⟨dx, hdx⟩ : ∃ dx, dx = y.heap.size := ⟨_, rfl⟩
  clear hdx
  generalize hy2 : y.alloc _ = y2 at c0 c1 c2 ⊢
  have HZ : Hid (Keep [] y y2) := Lib.hid (by
    subst hy2
    exact (Keep.refl [] y).alloc _)
  clear hy2
  refine (L1.out _ (HZ.out.drewN nq)).mono ?_
  rintro e z ⟨rfl, hK⟩
  have HK := Lib.hid ((HZ.out.drewN nq).trans hK)
  replace c0 := fun o => ((((Keep.refl [] y2).drewN nq).trans hK).alloc o).cell c0 (by simp)
  clear hK HZ c1 c2
  rcases hp with ⟨rfl, rfl⟩ | ⟨b, P, e, d, t, hP, rfl, rfl⟩
  · simp only [wayV, Option.isSome_none]
    go_wp2_with fail
    refine (L2.out _ (HK.out.alloc _)).mono ?_
    rintro e u ⟨rfl, hK⟩
    simp only [wayV, Option.isSome_none]
    have HU := Lib.hid ((HY.out.2.1.trans (HK.out.alloc _)).trans hK)
    have HW : Hid (∀ o, Calls Try.prog 33 #[] (u.alloc o) fun e w' => e = .returned (.bool true) ∧ Keep [] w w') := Lib.hid fun o => (works_at _).mono fun e x h => ⟨h.1, (HU.out.alloc o).trans h.2⟩
    clear hK c0
    go_wp2_with fail
    refine (HW.out _).mono ?_
    rintro e y ⟨rfl, hK⟩
    have hF := Lib.hid (Keep.below hK (Nat.le_refl _) (by simp))
    clear hK
    go_wp2_with fail
    go_ret
    exact ⟨rfl, hF.out⟩
  · simp only [wayV, Option.isSome_some]
    have hP2 : P < 4294967296 := by omega
    have ha1 : ((64 * P + x1 % 64 : Nat) : Int) / 64 = (P : Int) := by omega
    have ha2 : ((64 * P + x1 % 64 : Nat) : Int) % 64 = (x1 : Int) % 64 := by omega
    have hb1 : ((64 * P + x2 % 64 : Nat) : Int) / 64 = (P : Int) := by omega
    have hb2 : ((64 * P + x2 % 64 : Nat) : Int) % 64 = (x2 : Int) % 64 := by omega
    generalize 64 * P + x1 % 64 = a1 at *
    generalize 64 * P + x2 % 64 = a2 at *
    go_wp2_with fail
    refine (L2.out _ (HK.out.alloc _)).mono ?_
    rintro e' u ⟨rfl, hK⟩
    simp only [wayV, Option.isSome_some]
    have hc := fun i v (h : (z.alloc (.cells #[.int .u32 b, .int .u32 a1, .int .u32 e, .int .i64 d, .int .i64 t, .int .i64 P] 58)).cell? ⟨z.heap.size, i, none⟩ = some v) (o : Obj) => (hK.alloc o).cell h (by simp)
    have HU := Lib.hid ((HY.out.2.1.trans (HK.out.alloc _)).trans hK)
    have f0 := hc 0 _ (cell_of (heap_alloc_same z _) 0 rfl)
    have f1 := hc 1 _ (cell_of (heap_alloc_same z _) 1 rfl)
    have f3 := hc 3 _ (cell_of (heap_alloc_same z _) 3 rfl)
    have f4 := hc 4 _ (cell_of (heap_alloc_same z _) 4 rfl)
    have f5 := hc 5 _ (cell_of (heap_alloc_same z _) 5 rfl)
    have HW : Hid (∀ o, Calls Try.prog 33 #[] (u.alloc o) fun e w' => e = .returned (.bool true) ∧ Keep [] w w') := Lib.hid fun o => (works_at _).mono fun e x h => ⟨h.1, (HU.out.alloc o).trans h.2⟩
    clear hK c0 hc
    go_wp2_with fail
    refine (HW.out _).mono ?_
    rintro e' y' ⟨rfl, hK⟩
    have hF := Lib.hid (Keep.below hK (Nat.le_refl _) (by simp))
    clear hK
    go_wp2_with fail
    go_ret
    exact ⟨rfl, hF.out⟩
end Go.Proofs.Yteoanahfbfflbaa
