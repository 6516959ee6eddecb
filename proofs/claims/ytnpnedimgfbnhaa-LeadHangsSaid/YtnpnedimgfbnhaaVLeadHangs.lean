/- The law LeadHangs, walked. -/
import Derived.Deep.Cut
import Derived.Deep.CutBlock
import Derived.Deep.DeepCutAuto
import Derived.Outline
import Derived.Test.YtnpnedimgfbnhaaM20
import Derived.Test.YtnpnedimgfbnhaaVLeadQ
import Derived.Test.YtnpnedimgfbnhaaM22
namespace Go.Proofs.Ytnpnedimgfbnhaa
open Go.RowKit Go.Mum
set_option linter.unusedVariables false
set_option linter.unusedSimpArgs false
set_option maxRecDepth 100000

set_option maxHeartbeats 8000000 in
theorem LeadHangs_walk (c0 : Array Value) (n0 : Nat) (s1 : Option Addr) (len1 cap1 n1 : Nat) (c2 : Array Value) (n2 : Nat) (w : World) (w0 : Fits Try.prog w maxLen n0 46 c0.toList) (w1 : Fits Try.prog w maxLen n1 23 [.slice s1 len1 cap1]) (w2 : Fits Try.prog w maxLen n2 74 c2.toList) :
    Calls Try.prog 7 #[.agg c0, .slice s1 len1 cap1, .agg c2] w fun e w' => e = .returned (.bool true) ∧ Below w.heap.size w w' := by
  obtain ⟨fr, en, is, cs, ss, ds, ic, cl, cc, sl, sc, dl, dc, IL, f, ps, cr, rfl, hI, hC, hil, he0, he1, hps, hcr, hf⟩ := guest_of_fits w0
  have hM := marks_of_fits w1
  obtain ⟨x0, x1, x2, x3, rfl, hx0, hx1, hx2, hx3⟩ := four_of_fits w2
  have HMD := Lib.hid (fun y (hy : Keep [] w y) => made_at fr en is cs ss ds s1 ic cl cc sl sc dl dc len1 cap1 IL f ps cr y (hI.keep0 hy) (hC.keep0 hy) hil he0 he1 (hM.keep0 hy))
  clear w0 w1 w2 hI hC hM
  obtain ⟨sz, hsz⟩ : ∃ sz, sz = w.heap.size := ⟨_, rfl⟩
  have hgs : ((w.alloc (.cells #[.int .i64 fr, .slice is IL.length ic, .slice cs cl cc, .int .u16 en, f 0, f 1, f 2, f 3, f 4, f 5, f 6, f 7, f 8, .int .u32 ps, .int .u32 cr, f 11, f 12, f 13, f 14, f 15, f 16, f 17, f 18, .slice ss sl sc, .slice ds dl dc] 46)).alloc (.cells #[.int .u32 x0, .int .u32 x1, .int .u32 x2, .int .u32 x3] 74)).rangeAt sz 0 [.int .i64 fr, .slice is IL.length ic, .slice cs cl cc, .int .u16 en, f 0, f 1, f 2, f 3, f 4, f 5, f 6, f 7, f 8, .int .u32 ps, .int .u32 cr, f 11, f 12, f 13, f 14, f 15, f 16, f 17, f 18, .slice ss sl sc, .slice ds dl dc] := by
    subst hsz
    exact rangeAcc (by repeat first | (refine heap_alloc_at _ ?_; (simp; done)) | refine heap_alloc_other _ ?_)
  go_enter Try.func7, Try.ntmps7
  go_wp2_with (refine wpList_load_mid rfl 46 (.tmp 3) rfl sz 0 (by rw [hsz]; rfl) [.int .i64 fr, .slice is IL.length ic, .slice cs cl cc, .int .u16 en, f 0, f 1, f 2, f 3, f 4, f 5, f 6, f 7, f 8, .int .u32 ps, .int .u32 cr, f 11, f 12, f 13, f 14, f 15, f 16, f 17, f 18, .slice ss sl sc, .slice ds dl dc] _ hgs Try.underlying46 rfl info_guest ?_)
  rw [← hsz]
  generalize hy : World.alloc (World.alloc w _) _ = y0
  have H0 : Hid (Keep [] w y0 ∧ y0.rangeAt sz 0 [.int .i64 fr, .slice is IL.length ic, .slice cs cl cc, .int .u16 en, f 0, f 1, f 2, f 3, f 4, f 5, f 6, f 7, f 8, .int .u32 ps, .int .u32 cr, f 11, f 12, f 13, f 14, f 15, f 16, f 17, f 18, .slice ss sl sc, .slice ds dl dc] ∧ y0.heap[sz + 1]? = some (.cells #[.int .u32 x0, .int .u32 x1, .int .u32 x2, .int .u32 x3] 74 (0, 0)) ∧ w.heap.size = sz) := Lib.hid (by
    rw [hy] at hgs
    refine ⟨by subst hy; exact ((Keep.refl _ _).alloc _).alloc _, hgs, by subst hy hsz; exact heap_alloc_at _ (by simp), hsz.symm⟩)
  clear hy hsz hgs
  refine (HMD.out _ H0.out.1).mono ?_
  rintro e y1 ⟨n, r, fb, g, b, m1, m2, q, c, t, L, s1', s2', rfl, hn1, hn2, hMA⟩
  have HA := Lib.hid hMA
  clear hMA HMD
  unfold rval
  have xk : ∀ o1 o2, ((y1.alloc o1).alloc o2).cell? ⟨sz + 1, 1, none⟩ = some (.int .u32 x1) := fun o1 o2 =>
    (((Keep.refl [] y1).alloc o1).alloc o2).cell (HA.out.keep.cell (cell_of H0.out.2.2.1 1 rfl) (by simp)) (by simp)
  obtain ⟨kk, hkk⟩ : ∃ kk, kk = x1 % 5 := ⟨_, rfl⟩
  have t1 : ((x1 : Int)).tmod 5 = (kk : Int) := by rw [Int.tmod_eq_emod_of_nonneg (by omega)]; omega
  have u1 : (x1 : Int) % 5 = (kk : Int) := by omega
  have hK5 : kk < 5 := by omega
  have t2 : IntKind.i64.wrap (kk : Int) = (kk : Int) := IntWalk.i64_in _ (by omega)
  clear hkk
  go_upto_region 5 with fail
  obtain ⟨wb, hwb⟩ : ∃ wb, wb = y1.heap.size := ⟨_, rfl⟩
  rw [← hwb]
  generalize hy2 : World.alloc (World.alloc y1 _) _ = y2
  have H2 : Hid (Keep [] y1 y2 ∧ y2.heap[wb]? = some (.cells #[.slice (some ⟨q, 0, none⟩) (64 * n) (64 * n)] 50 (0, 0)) ∧ y1.heap.size = wb) := Lib.hid (by
    subst hy2 hwb
    refine ⟨((Keep.refl _ _).alloc _).alloc _, ?_, rfl⟩
    repeat first | (refine heap_alloc_at _ ?_; (simp; done)) | refine heap_alloc_other _ ?_)
  clear hy2 hwb xk t1 t2 u1
  have HK2 : Hid (Keep [] w y2) := Lib.hid (H0.out.1.trans (HA.out.keep.trans H2.out.1))
  have HS2 : Hid (y2.rangeAt sz 4 [f 0, f 1, f 2, f 3, f 4, f 5, f 6, f 7, f 8, .int .u32 ps, .int .u32 cr, f 11, f 12, f 13, f 14, f 15, f 16, f 17, f 18] ∧ (y2.cell? ⟨sz + 1, 0, none⟩ = some (.int .u32 x0) ∧ y2.cell? ⟨sz + 1, 1, none⟩ = some (.int .u32 x1) ∧ y2.cell? ⟨sz + 1, 2, none⟩ = some (.int .u32 x2) ∧ y2.cell? ⟨sz + 1, 3, none⟩ = some (.int .u32 x3)) ∧ sz + 1 < wb) := Lib.hid (by
    have hk := HA.out.keep.trans H2.out.1
    exact ⟨rangeState (keepRange hk H0.out.2.1), ⟨hk.cell (cell_of H0.out.2.2.1 0 rfl) (by simp), hk.cell (cell_of H0.out.2.2.1 1 rfl) (by simp), hk.cell (cell_of H0.out.2.2.1 2 rfl) (by simp), hk.cell (cell_of H0.out.2.2.1 3 rfl) (by simp)⟩, by have h1 := lt_of_heap H0.out.2.2.1; have h2 := HA.out.keep.size; have h3 := H2.out.2.2; omega⟩)
  obtain ⟨r1, ⟨g0, g1, g2, g3⟩, hlt1⟩ := HS2.out
  have C2 : Hid (∀ z, Keep [] y2 z → Calls Try.prog 14 #[.pointer (some ⟨r, 0, none⟩), .agg #[f 0, f 1, f 2, f 3, f 4, f 5, f 6, f 7, f 8, .int .u32 ps, .int .u32 cr, f 11, f 12, f 13, f 14, f 15, f 16, f 17, f 18], .pointer (some ⟨b, 0, none⟩), .int .u32 x0, .int .i64 kk] z (VerPost (decF (rdOf n L) n (fun x => decide (x ∈ s1') || decide (x ∈ s2')) cr ps x0 kk) z)) := Lib.hid (fun z hz =>
    decide_at (mem_of_ram (HA.out.ram.keep0 (H2.out.1.trans hz)) HA.out.ref.len (by omega)) ((HA.out.marks.keep (H2.out.1.trans hz) (by simp) (by simp) (by simp)).wat) f hf ps cr x0 kk hps hcr hx0 (by omega) (by omega))
  obtain ⟨V, hV⟩ : ∃ V, V = decF (rdOf n L) n (fun x => decide (x ∈ s1') || decide (x ∈ s2')) cr ps x0 (kk : Int) := ⟨_, rfl⟩
  have HV := Lib.hid hV
  rw [← hV] at C2
  clear hV
  go_wp2_with (refine wpList_load_mid rfl 43 (.tmp 31) rfl sz 4 (by rfl) [f 0, f 1, f 2, f 3, f 4, f 5, f 6, f 7, f 8, .int .u32 ps, .int .u32 cr, f 11, f 12, f 13, f 14, f 15, f 16, f 17, f 18] _ r1 Try.underlying43 rfl info_state ?_)
  refine (C2.out _ (Keep.refl _ _)).mono ?_
  rintro e y3 ⟨ta, cap, rfl, hR, hk3, hg⟩
  have H3 : Hid (Keep [] y2 y3 ∧ Reads y3 ta V.tables) := Lib.hid ⟨hk3, hR⟩
  clear hR hk3 hg r1 g0 g1 g2 g3
  unfold verV
  go_upto_region 6 with fail
  obtain ⟨vb, hvb⟩ : ∃ vb, vb = y3.heap.size := ⟨_, rfl⟩
  rw [← hvb]
  generalize hy4 : World.alloc y3 _ = y4
  have H4 : Hid (y4.heap[vb]? = some (.cells #[.int .i64 V.act, .int .i64 V.frame, .int .u32 V.bits, .slice ta V.tables.length cap, .int .u32 V.entry, .bool V.soils, .int .i64 V.cause, .int .u32 V.addr] 61 (0, 0)) ∧ Keep [] y2 y4 ∧ y2.heap.size ≤ vb ∧ Reads y4 ta V.tables) := Lib.hid (by
    subst hy4 hvb
    exact ⟨heap_alloc_same y3 _, H3.out.1.trans ((Keep.refl _ _).alloc _), H3.out.1.size, H3.out.2.keepL ((Keep.refl [] _).alloc _) (H3.out.2.elim .inl (fun ⟨g, e, _⟩ => .inr ⟨g, e, by simp⟩))⟩)
  clear hy4 hvb
  have w0 : y4.cell? ⟨wb, 0, none⟩ = some (.slice (some ⟨q, 0, none⟩) (64 * n) (64 * n)) := H4.out.2.1.cell (cell_of H2.out.2.1 0 rfl) (by simp)
  have c2 : y4.cell? ⟨sz + 1, 2, none⟩ = some (.int .u32 x2) := H4.out.2.1.cell HS2.out.2.1.2.2.1 (by simp)
  obtain ⟨at', hat⟩ : ∃ a, a = x2 % (64 * n) := ⟨_, rfl⟩
  have hat1 : at' < 64 * n := by rw [hat]; exact Nat.mod_lt _ (by omega)
  have a1 : (x2 : Int) % (64 * (n : Int)) = (at' : Int) := by rw [hat, Int.natCast_emod]; simp
  have a2 : ((x2 : Int)).tmod (64 * (n : Int)) = (at' : Int) := by rw [Int.tmod_eq_emod_of_nonneg (by omega)]; exact a1
  have a3 : IntKind.u32.wrap (64 * (n : Int)) = 64 * (n : Int) := IntWalk.u32_in _ (by omega)
  have a4 : ¬ (64 * (n : Int) = 0) := by omega
  have a5 : ¬ (n = 0) := by omega
  obtain ⟨pg, hpg⟩ : ∃ p, p = at' / 64 := ⟨_, rfl⟩
  have p1 : (at' : Int) / 64 = (pg : Int) := by omega
  have p2 : ((at' : Int)).tdiv 64 = (pg : Int) := by rw [Int.tdiv_eq_ediv_of_nonneg (by omega)]; omega
  have p3 : IntKind.i64.wrap (pg : Int) = (pg : Int) := IntWalk.i64_in _ (by omega)
  have p4 : IntKind.u32.wrap (pg : Int) = (pg : Int) := IntWalk.u32_in _ (by omega)
  have HP := Lib.hid hpg
  clear hat hpg
  have d3 : y4.cell? ⟨vb, 3, none⟩ = some (.slice ta V.tables.length cap) := cell_of H4.out.1 3 rfl
  have hv2 : V.tables.length ≤ 2 := by rw [HV.out]; exact dec_tables _ _ _ _ _ _ _
  go_wp2_with fail
  go_loopw [14] (fun kv wr => ∃ k : Nat, kv = .int .i64 k ∧ k ≤ V.tables.length ∧ y4 = wr ∧ Hid (∀ j (hj : j < V.tables.length), j < k → V.tables[j] ≠ (pg : Int))) (fun kv _ => 2 - (intOf kv).toNat)
  case atStart => exact ⟨0, rfl, by omega, rfl, Lib.hid (fun j hj h => by omega)⟩
  case round =>
    obtain ⟨k, rfl, hk1, rfl, HJ⟩ := hrel
    by_cases hkl : k < V.tables.length
    · obtain ⟨g, rfl, hg⟩ : ∃ g, ta = some ⟨g, 0, none⟩ ∧ y4.cell? ⟨g, k, none⟩ = some (.int .i64 V.tables[k]) := by
        rcases H4.out.2.2.2 with h | ⟨g, h1, h2⟩
        · rw [h] at hkl; simp at hkl
        · exact ⟨g, h1, h2 k hkl⟩
      have hk0 : (0 : Int) ≤ (k : Int) := by omega
      have hk3 : (k : Int) < (V.tables.length : Int) := by omega
      obtain ⟨tk, htk⟩ : ∃ z, z = V.tables[k] := ⟨_, rfl⟩
      rw [← htk] at hg
      by_cases he : tk = (pg : Int)
      · rw [he] at hg
        clear he htk
        have HK4 : Hid (Keep [] w y4) := Lib.hid (HK2.out.trans H4.out.2.1)
        go_wp2_with fail
        refine (lworks_at _).mono ?_
        rintro e y8 ⟨rfl, hk8⟩
        have HF := Lib.hid (Keep.below (HK4.out.trans hk8) (Nat.le_refl _) (by simp))
        clear hk8
        go_wp2_with fail
        go_ret
        exact ⟨rfl, HF.out⟩
      · have HJ2 : Hid (∀ j (hj : j < V.tables.length), j < k + 1 → V.tables[j] ≠ (pg : Int)) := Lib.hid (fun j hj h => by
          rcases (by omega : j < k ∨ j = k) with h | rfl
          · exact HJ.out j hj h
          · rw [← htk]; exact he)
        have he' : (tk == (pg : Int)) = false := by simpa using he
        clear htk
        go_wp2_with fail
        go_roundw
        case rel => exact ⟨k + 1, by go_num, by omega, trivial, HJ2⟩
        case measure => simp [intOf]; omega
    · have HJ2 : Hid ((pg : Int) ∉ V.tables) := Lib.hid (fun h => by
        obtain ⟨j, hj, e⟩ := List.getElem_of_mem h
        exact HJ.out j hj (by omega) e)
      have HK4 : Hid (Keep [] w y4) := Lib.hid (HK2.out.trans H4.out.2.1)
      have c13 : y4.cell? ⟨sz, 13, none⟩ = some (.int .u32 ps) := H4.out.2.1.cell (HS2.out.1 9 _ rfl) (by simp)
      have d0 : y4.cell? ⟨vb, 0, none⟩ = some (.int .i64 V.act) := cell_of H4.out.1 0 rfl
      have hk3 : ¬ ((k : Int) < (V.tables.length : Int)) := by omega
      have hcase : (V.act = 3 ∧ ps / 4 % 2 = 1) ∨ (V.act = 3 ∧ ps / 4 % 2 = 0) ∨ ¬ (V.act = 3) := by omega
      rcases hcase with ⟨ha, hp⟩ | hcase
      · have m4 : bits .and .u32 (ps : Int) 4 = 4 := bit1 (i := 2) hps rfl (by decide) (by omega)
        rw [ha] at d0
        clear ha hp HJ HJ2
        go_wp2_with fail
        refine (lworks_at _).mono ?_
        rintro e y8 ⟨rfl, hk8⟩
        have HF := Lib.hid (Keep.below (HK4.out.trans hk8) (Nat.le_refl _) (by simp))
        clear hk8
        go_wp2_with fail
        go_ret
        exact ⟨rfl, HF.out⟩
      · obtain ⟨zz, hzz⟩ : ∃ z, z = x3 % 256 := ⟨_, rfl⟩
        have z1 : (x3 : Int) % 256 = (zz : Int) := by omega
        have z2 : IntKind.u8.wrap (x3 : Int) = (zz : Int) := by rw [IntKind.wrap_u8]; omega
        have z3 : 0 ≤ (zz : Int) ∧ (zz : Int) < 256 := by omega
        have c3 : y4.cell? ⟨sz + 1, 3, none⟩ = some (.int .u32 x3) := H4.out.2.1.cell HS2.out.2.1.2.2.2 (by simp)
        have HE : Hid (decF (rdOf n (L.set at' (zz : Int))) n (fun x => decide (x ∈ s1') || decide (x ∈ s2')) cr ps x0 (kk : Int) = V) := Lib.hid (by
          have h1 := HJ2.out
          rw [HP.out] at h1
          rw [HV.out] at h1
          have := dec_hangs (p := at') (z := (zz : Int)) HA.out.ref.len h1 (by rw [← HV.out]; omega)
          rw [this]
          exact HV.out.symm)
        have CS : Hid (Calls Try.prog 20 #[.pointer (some ⟨r, 0, none⟩), .int .u32 at', .int .u8 zz] y4 (fun e w' => e = .returned (.bool true) ∧ RamAt w' r fb g (List.range n) (L.set at' (zz : Int)) ∧ Keep [g] y4 w')) := Lib.hid (by
          refine (rsetbyte_any (HA.out.ram.keep0 (H2.out.1.trans H4.out.2.1)) at' (by omega) (zz : Int) z3).mono ?_
          rintro e w' ⟨rfl, h2, h3⟩
          have hy : layB n at' ([(zz : Int)] : List Int).length 1 = true := layB_yes (by simp; omega)
          have hl := HA.out.ref.len
          rw [List.length_range] at h2 ⊢
          rw [hy] at h2 ⊢
          rw [if_pos rfl, putAt_range n _ _ at' (by simp; omega) hl, splice_one _ _ _ (by omega)] at h2
          exact ⟨rfl, h2, h3⟩)
        have hcc : (V.act = 3 ∧ bits .and .u32 (ps : Int) 4 = 0) ∨ (V.act == 3) = false := by
          rcases hcase with ⟨h1, h2⟩ | h
          · exact .inl ⟨h1, bit0 (i := 2) hps rfl (by decide) (by omega)⟩
          · exact .inr (by simpa using h)
        clear hcase hzz HJ HJ2 z3
        rcases hcc with ⟨ha, m4⟩ | ha
        all_goals first | rw [ha] at d0 | skip
        all_goals
          go_wp2_with fail
          refine CS.out.mono ?_
          rintro e y5 ⟨rfl, hA5, hk5⟩
          have ho := HA.out.order
          have hgl : g < y1.heap.size := lt_of_heap HA.out.ram.data
          have hy0 := lt_of_heap H0.out.2.2.1
          have h2w := H2.out.2.2
          have h4v := H4.out.2.2.1
          have h2s := H2.out.1.size
          have hk15 : Keep [g] y1 y5 := ((H2.out.1.trans H4.out.2.1).weaken (by simp)).trans hk5
          have H5 : Hid (Keep [] w y5 ∧ y5.rangeAt sz 4 [f 0, f 1, f 2, f 3, f 4, f 5, f 6, f 7, f 8, .int .u32 ps, .int .u32 cr, f 11, f 12, f 13, f 14, f 15, f 16, f 17, f 18] ∧ y5.cell? ⟨sz + 1, 0, none⟩ = some (.int .u32 x0) ∧ y5.heap[vb]? = some (.cells #[.int .i64 V.act, .int .i64 V.frame, .int .u32 V.bits, .slice ta V.tables.length cap, .int .u32 V.entry, .bool V.soils, .int .i64 V.cause, .int .u32 V.addr] 61 (0, 0))) := Lib.hid (by
            refine ⟨(H0.out.1.trans HA.out.keep).then hk15 (by have := H0.out.1.size; simp; omega), ?_, hk5.cell (H4.out.2.1.cell HS2.out.2.1.1 (by simp)) (by simp; omega), hk5.heap H4.out.1 (by simp; omega)⟩
            exact fun j v hj => hk5.cell (H4.out.2.1.cell (HS2.out.1 j v hj) (by simp)) (by simp; omega))
          have C5 : Hid (Calls Try.prog 14 #[.pointer (some ⟨r, 0, none⟩), .agg #[f 0, f 1, f 2, f 3, f 4, f 5, f 6, f 7, f 8, .int .u32 ps, .int .u32 cr, f 11, f 12, f 13, f 14, f 15, f 16, f 17, f 18], .pointer (some ⟨b, 0, none⟩), .int .u32 x0, .int .i64 kk] y5 (VerPost V y5)) := Lib.hid (by
            have := decide_at (mem_of_ram hA5 (by rw [List.length_set]; exact HA.out.ref.len) (by omega)) (HA.out.marks.keep hk15 (by simp; omega) (by simp; omega) (by simp; omega)).wat f hf ps cr x0 kk hps hcr hx0 (by omega) (by omega)
            rw [HE.out] at this
            exact this)
          have r1 := H5.out.2.1
          have g0 := H5.out.2.2.1
          clear hA5 hk5 ho hgl hy0 h2w h4v h2s hk15 c13 c3 d0 ha
          go_wp2_with (refine wpList_load_mid rfl 43 (.tmp 80) rfl sz 4 (by rfl) [f 0, f 1, f 2, f 3, f 4, f 5, f 6, f 7, f 8, .int .u32 ps, .int .u32 cr, f 11, f 12, f 13, f 14, f 15, f 16, f 17, f 18] _ r1 Try.underlying43 rfl info_state ?_)
          refine C5.out.mono ?_
          rintro e y6 ⟨tb, capb, rfl, hR, hk6, hg⟩
          unfold verV
          go_upto_region 16 with fail
          obtain ⟨vc, hvc⟩ : ∃ vc, vc = y6.heap.size := ⟨_, rfl⟩
          rw [← hvc]
          generalize hy7 : World.alloc y6 _ = y7
          have H7 : Hid (y7.heap[vc]? = some (.cells #[.int .i64 V.act, .int .i64 V.frame, .int .u32 V.bits, .slice tb V.tables.length capb, .int .u32 V.entry, .bool V.soils, .int .i64 V.cause, .int .u32 V.addr] 61 (0, 0)) ∧ y7.heap[vb]? = some (.cells #[.int .i64 V.act, .int .i64 V.frame, .int .u32 V.bits, .slice ta V.tables.length cap, .int .u32 V.entry, .bool V.soils, .int .i64 V.cause, .int .u32 V.addr] 61 (0, 0)) ∧ Keep [] w y7) := Lib.hid (by
            have hk := hk6.trans ((Keep.refl [] y6).alloc (.cells #[.int .i64 V.act, .int .i64 V.frame, .int .u32 V.bits, .slice tb V.tables.length capb, .int .u32 V.entry, .bool V.soils, .int .i64 V.cause, .int .u32 V.addr] 61))
            subst hy7
            exact ⟨heap_alloc_at _ hvc, hk.heap H5.out.2.2.2 (by simp), H5.out.1.trans hk⟩)
          clear hy7 hvc hR hk6 hg r1 g0
          have d0 : y7.cell? ⟨vb, 0, none⟩ = some (.int .i64 V.act) := cell_of H7.out.2.1 0 rfl
          have e0 : y7.cell? ⟨vc, 0, none⟩ = some (.int .i64 V.act) := cell_of H7.out.1 0 rfl
          have d1 : y7.cell? ⟨vb, 1, none⟩ = some (.int .i64 V.frame) := cell_of H7.out.2.1 1 rfl
          have e1 : y7.cell? ⟨vc, 1, none⟩ = some (.int .i64 V.frame) := cell_of H7.out.1 1 rfl
          have d2 : y7.cell? ⟨vb, 2, none⟩ = some (.int .u32 V.bits) := cell_of H7.out.2.1 2 rfl
          have e2 : y7.cell? ⟨vc, 2, none⟩ = some (.int .u32 V.bits) := cell_of H7.out.1 2 rfl
          have d4 : y7.cell? ⟨vb, 4, none⟩ = some (.int .u32 V.entry) := cell_of H7.out.2.1 4 rfl
          have e4 : y7.cell? ⟨vc, 4, none⟩ = some (.int .u32 V.entry) := cell_of H7.out.1 4 rfl
          have d5 : y7.cell? ⟨vb, 5, none⟩ = some (.bool V.soils) := cell_of H7.out.2.1 5 rfl
          have e5 : y7.cell? ⟨vc, 5, none⟩ = some (.bool V.soils) := cell_of H7.out.1 5 rfl
          have d6 : y7.cell? ⟨vb, 6, none⟩ = some (.int .i64 V.cause) := cell_of H7.out.2.1 6 rfl
          have e6 : y7.cell? ⟨vc, 6, none⟩ = some (.int .i64 V.cause) := cell_of H7.out.1 6 rfl
          have d7 : y7.cell? ⟨vb, 7, none⟩ = some (.int .u32 V.addr) := cell_of H7.out.2.1 7 rfl
          have e7 : y7.cell? ⟨vc, 7, none⟩ = some (.int .u32 V.addr) := cell_of H7.out.1 7 rfl
          go_wp2_with fail
          refine (lworks_at _).mono ?_
          rintro e y8 ⟨rfl, hk8⟩
          have HF := Lib.hid (Keep.below (H7.out.2.2.trans hk8) (Nat.le_refl _) (by simp))
          clear hk8
          go_wp2_with fail
          go_ret
          exact ⟨rfl, HF.out⟩
end Go.Proofs.Ytnpnedimgfbnhaa
