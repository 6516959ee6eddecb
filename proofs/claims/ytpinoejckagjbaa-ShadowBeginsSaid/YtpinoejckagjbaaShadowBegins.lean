/- The law ShadowBegins, walked. -/
import Derived.Test.YtpinoejckagjbaaSh10
import Derived.Test.YtpinoejckagjbaaSh7
import Derived.Test.YtpinoejckagjbaaFits
import Derived.Outline
import Derived.Deep.Cut
namespace Go.Proofs.Ytpinoejckagjbaa
open Go.RowKit Go.Mum
set_option linter.unusedVariables false
set_option linter.unusedSimpArgs false
set_option maxRecDepth 100000

set_option maxHeartbeats 8000000 in
theorem ShadowBegins_walk (a0 : Int) (a1 : Int) (c2 : Array Value) (n2 : Nat) (w : World) (w0 : (Lit.int .u8 a0).wf = true) (w1 : (Lit.int .i64 a1).wf = true) (w2 : Fits Try.prog w maxLen n2 52 c2.toList) :
    Calls Try.prog 5 #[.int .u8 a0, .int .i64 a1, .agg c2] w fun e w' => e = .returned (.bool true) ∧ Below w.heap.size w w' := by
  have b0 := wf_u8 w0
  obtain ⟨dlo, dhi⟩ := wf_i64 w1
  obtain ⟨no, va, rfl, hno, hva⟩ := other_of_fits w2
  obtain ⟨f8, rfl⟩ : ∃ f : Nat, a0 = f := ⟨a0.toNat, by omega⟩
  clear w0 w1 w2
  obtain ⟨m, hm⟩ : ∃ m, m = f8 % 20 := ⟨_, rfl⟩
  have t1 : ((f8 : Int)).tmod 20 = (m : Int) := by rw [Int.tmod_eq_emod_of_nonneg (by omega)]; omega
  have u1 : (f8 : Int) % 20 = (m : Int) := by omega
  obtain ⟨n, hn⟩ : ∃ n, n = 1 + m := ⟨_, rfl⟩
  have t2 : IntKind.i64.wrap (m : Int) = (m : Int) := IntWalk.i64_in _ (by omega)
  have t3 : IntKind.i64.wrap (1 + (m : Int)) = (n : Int) := by rw [IntWalk.i64_in _ (by omega)]; omega
  have hn1 : 1 ≤ n := by omega
  have hn2 : n ≤ 20 := by omega
  obtain ⟨q, hq⟩ : ∃ q, q = no % 4 := ⟨_, rfl⟩
  have t4 : ((no : Int)).tmod 4 = (q : Int) := by rw [Int.tmod_eq_emod_of_nonneg (by omega)]; omega
  have u4 : (no : Int) % 4 = (q : Int) := by omega
  have hd1 : IntKind.i64.wrap ((n : Int) - 1) = (n : Int) - 1 := IntWalk.i64_in _ (by omega)
  have hq4 : q < 4 := by omega
  clear hm hn hq b0
  go_enter Try.func5, Try.ntmps5
  go_wp2_with fail
  go_quiet (fail)
  go_wp2_with fail
  generalize hy : World.drewN _ _ = y0
  have H0 : Hid (Keep [] w y0) := Lib.hid (by subst hy; exact ((Keep.refl _ _).alloc _).drewN _)
  clear hy
  refine (rnew_good n _ hn1 (by omega)).mono ?_
  rintro e y1 ⟨r, fb, g, hr, hfb, hg, rfl, hA, hk⟩
  have H1 : Hid (RamAt y1 r fb g (List.range n) (List.replicate (64 * n) 0) ∧ Keep [] w y1 ∧ w.heap.size ≤ g) := Lib.hid ⟨hA, H0.out.trans hk, by have := H0.out.size; omega⟩
  clear hA hk hr hfb hg
  go_wp2_with fail
  refine (pnew_good 0 0 _ (by omega) (by omega) (by omega) (by omega)).mono ?_
  rintro e y2 ⟨p, pm, hp, hpm, rfl, hP, hk2⟩
  have H2 : Hid (PoolAt y2 p pm 0 0 [] 0 0 ∧ Keep [] y1 y2 ∧ y1.heap.size ≤ p ∧ y1.heap.size ≤ pm) := Lib.hid ⟨hP, hk2, hp, hpm⟩
  clear hP hk2 hp hpm
  have HK2 : Hid (Keep [] w y2) := Lib.hid (H1.out.2.1.trans H2.out.2.1)
  have HSZ : Hid (Sz y2 (.pointer (some ⟨r, 0, none⟩)) n) := Lib.hid (by
    have := (H1.out.1.keep0 H2.out.2.1).sz
    rw [List.length_range] at this
    exact this)
  rcases (by omega : q = 0 ∨ q = 1 ∨ 2 ≤ q) with rfl | rfl | hq2
  · go_wp2_with fail
    refine (snew_none _ a1 _ ⟨dlo, dhi⟩).mono ?_
    rintro e z ⟨rfl, rfl⟩
    go_wp2_with fail
    refine (sroot_nil _).mono ?_
    rintro e z ⟨rfl, rfl⟩
    go_wp2_with fail
    refine (sput_nil va 0 1 _).mono ?_
    rintro e z ⟨rfl, rfl⟩
    go_wp2_with fail
    refine (spages_nil _).mono ?_
    rintro e z ⟨rfl, rfl⟩
    go_wp2_with fail
    refine (sworks_at _).mono ?_
    rintro e z3 ⟨rfl, hk3⟩
    have HF := Lib.hid (Keep.below (HK2.out.trans hk3) (Nat.le_refl _) (by simp))
    clear hk3
    go_wp2_with fail
    go_ret
    exact ⟨rfl, HF.out⟩
  · go_wp2_with fail
    refine (snew_nopool HSZ.out hn1 a1).mono ?_
    rintro e z ⟨rfl, rfl⟩
    go_wp2_with fail
    refine (sroot_nil _).mono ?_
    rintro e z ⟨rfl, rfl⟩
    go_wp2_with fail
    refine (sput_nil va 0 1 _).mono ?_
    rintro e z ⟨rfl, rfl⟩
    go_wp2_with fail
    refine (spages_nil _).mono ?_
    rintro e z ⟨rfl, rfl⟩
    go_wp2_with fail
    refine (sworks_at _).mono ?_
    rintro e z3 ⟨rfl, hk3⟩
    have HF := Lib.hid (Keep.below (HK2.out.trans hk3) (Nat.le_refl _) (by simp))
    clear hk3
    go_wp2_with fail
    go_ret
    exact ⟨rfl, HF.out⟩
  · have q0 : ((q : Int) == 0) = false := by rw [beq_eq_false_iff_ne]; omega
    have q1 : ((q : Int) == 1) = false := by rw [beq_eq_false_iff_ne]; omega
    have q2 : ¬ ((q : Int) < 2) := by omega
    by_cases hbad : a1 < 0 ∨ (n : Int) - 1 ≤ a1
    · have C := Lib.hid (snew_bad (p := p) HSZ.out hn1 a1 dlo dhi hbad)
      rcases (by omega : a1 < 0 ∨ (¬ (a1 < 0) ∧ (n : Int) - 1 ≤ a1)) with hneg | ⟨hpos, hge⟩
      all_goals
        clear hbad hq2
        go_wp2_with fail
        refine C.out.mono ?_
        rintro e z ⟨rfl, rfl⟩
        go_wp2_with fail
        refine (sworks_at _).mono ?_
        rintro e z3 ⟨rfl, hk3⟩
        have HF := Lib.hid (Keep.below (HK2.out.trans hk3) (Nat.le_refl _) (by simp))
        clear hk3
        go_wp2_with fail
        go_ret
        exact ⟨rfl, HF.out⟩
    · obtain ⟨dir, rfl⟩ : ∃ d : Nat, a1 = d := ⟨a1.toNat, by omega⟩
      have hd : dir + 2 ≤ n := by omega
      have g1 : ¬ ((dir : Int) < 0) := by omega
      have g2 : ¬ ((n : Int) - 1 ≤ (dir : Int)) := by omega
      have g3 : IntKind.i64.wrap (64 * (dir : Int)) = 64 * (dir : Int) := IntWalk.i64_in _ (by omega)
      have g4 : IntKind.u32.wrap (64 * (dir : Int)) = 64 * (dir : Int) := IntWalk.u32_in _ (by omega)
      have g5 : ((64 * dir : Nat) : Int) = 64 * (dir : Int) := by omega
      have C := Lib.hid (snew_good (p := p) (dir := dir) (H1.out.1.keep0 H2.out.2.1) (by rw [List.length_replicate]) (by omega) hd)
      clear hbad hq2
      go_wp2_with fail
      refine C.out.mono ?_
      rintro e z ⟨s, hs, rfl, hS, hR, hkz⟩
      have H3 : Hid (ShAt z s r p dir (fun _ => tab0) ∧ RamAt z r fb g (List.range n) (splice (List.replicate (64 * n) 0) (64 * dir) (List.replicate 128 0)) ∧ PoolAt z p pm 0 0 [] 0 0 ∧ Keep [] w z ∧ w.heap.size ≤ p ∧ w.heap.size ≤ pm ∧ s ≠ p ∧ s ≠ pm) := Lib.hid (by
        have hg1 : g < y1.heap.size := lt_of_heap H1.out.1.data
        have hpl : p < y2.heap.size := lt_of_heap H2.out.1.1
        have hpl2 : pm < y2.heap.size := by
          obtain ⟨es, cl, h, _⟩ := H2.out.1.2
          exact lt_of_heap h
        have h2 := H2.out.2.2
        have hw1 := H1.out.2.1.size
        exact ⟨hS, hR, H2.out.1.keep hkz (by simp; omega) (by simp; omega), HK2.out.then hkz (by have := H1.out.2.2; simp; omega), by omega, by omega, by omega, by omega⟩)
      have HSZ3 : Hid (Sz z (.pointer (some ⟨r, 0, none⟩)) n) := Lib.hid (by
        have := H3.out.2.1.sz
        rw [List.length_range] at this
        exact this)
      clear hS hR hkz hs
      have CR := Lib.hid (sroot_at (dir := dir) H3.out.1.heads.1 H3.out.1.heads.2.2.1 (by omega))
      rw [g5] at CR
      have hml : (splice (List.replicate (64 * n) (0 : Int)) (64 * dir) (List.replicate 128 0)).length = 64 * n := by rw [length_splice' _ _ _ (by simp; omega), List.length_replicate]
      have hlk := look_at (mem_of_ram H3.out.2.1 hml (by omega)) (64 * dir) 32 va (by omega) (by omega) hva
      rw [look_zero (by rw [List.length_replicate]) hd (by omega), g5] at hlk
      have CL := Lib.hid hlk
      clear hlk hml
      go_wp2_with fail
      refine CR.out.mono ?_
      rintro e x1 ⟨rfl, rfl⟩
      go_wp2_with fail
      refine CL.out.mono ?_
      rintro e x2 ⟨rfl, hk2⟩
      have H4 : Hid (∀ o, ShAt (x2.alloc o) s r p dir (fun _ => tab0) ∧ PoolAt (x2.alloc o) p pm 0 0 [] 0 0 ∧ Sz (x2.alloc o) (.pointer (some ⟨r, 0, none⟩)) n ∧ Keep [] w (x2.alloc o)) := Lib.hid (fun o => by
        have hk := hk2.alloc o
        have := (H3.out.2.1.keep0 hk).sz
        rw [List.length_range] at this
        exact ⟨H3.out.1.keep hk (by simp), H3.out.2.2.1.keep hk (by simp) (by simp), this, H3.out.2.2.2.1.trans hk⟩)
      clear hk2
      unfold wayV
      go_wp2_with fail
      generalize hx3 : World.alloc x2 _ = x3
      have H5 : Hid (ShAt x3 s r p dir (fun _ => tab0) ∧ PoolAt x3 p pm 0 0 [] 0 0 ∧ Sz x3 (.pointer (some ⟨r, 0, none⟩)) n ∧ Keep [] w x3) := Lib.hid (by subst hx3; exact H4.out _)
      clear hx3
      have CR2 := Lib.hid (sroot_at (dir := dir) H5.out.1.heads.1 H5.out.1.heads.2.2.1 (by omega))
      rw [g5] at CR2
      refine CR2.out.mono ?_
      rintro e x4 ⟨rfl, rfl⟩
      go_wp2_with fail
      refine (sput_empty H5.out.1 H5.out.2.2.1 hn1 H5.out.2.1 va hva).mono ?_
      rintro e x5 ⟨rfl, hk5⟩
      have H6 : Hid (ShAt x5 s r p dir (fun _ => tab0) ∧ Keep [] w x5) := Lib.hid (by
        have := H3.out.2.2.2.2
        exact ⟨H5.out.1.keep hk5 (by simp; omega), H5.out.2.2.2.then hk5 (by simp; omega)⟩)
      clear hk5
      go_wp2_with fail
      refine (spages_at (each_none H6.out.1) H6.out.1.heads.1).mono ?_
      rintro e x6 ⟨v, rfl, hown, hB6⟩
      obtain ⟨va', vl, vc, rfl, hvl⟩ : ∃ a l c, v = .slice a l c ∧ l = 0 := by
        rcases hown.2 with ⟨h, _⟩ | ⟨g', cap', cur', h, _⟩
        · exact ⟨_, _, _, h, rfl⟩
        · exact ⟨_, _, _, h, rfl⟩
      subst hvl
      have H7 : Hid (Keep [] w x6) := Lib.hid (H6.out.2.trans (below_keep hB6 (Nat.le_refl _)))
      clear hown hB6
      go_wp2_with fail
      refine (sworks_at _).mono ?_
      rintro e z3 ⟨rfl, hk3⟩
      have HF := Lib.hid (Keep.below (H7.out.trans hk3) (Nat.le_refl _) (by simp))
      clear hk3
      go_wp2_with fail
      go_ret
      exact ⟨rfl, HF.out⟩
end Go.Proofs.Ytpinoejckagjbaa
