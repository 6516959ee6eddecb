/- The law LeadSound, walked. -/
import Derived.Deep.Cut
import Derived.Deep.CutBlock
import Derived.Deep.DeepCutAuto
import Derived.Outline
import Derived.Test.YtnpnedimgfbnhaaM20
import Derived.Test.YtnpnedimgfbnhaaVLeadR
import Derived.Test.YtnpnedimgfbnhaaM22
namespace Go.Proofs.Ytnpnedimgfbnhaa
open Go.RowKit Go.Mum
set_option linter.unusedVariables false
set_option linter.unusedSimpArgs false
set_option maxRecDepth 100000

set_option maxHeartbeats 8000000 in
theorem LeadSound_walk (c0 : Array Value) (n0 : Nat) (s1 : Option Addr) (len1 cap1 n1 : Nat) (c2 : Array Value) (n2 : Nat) (w : World) (w0 : Fits Try.prog w maxLen n0 46 c0.toList) (w1 : Fits Try.prog w maxLen n1 23 [.slice s1 len1 cap1]) (w2 : Fits Try.prog w maxLen n2 47 c2.toList) :
    Calls Try.prog 5 #[.agg c0, .slice s1 len1 cap1, .agg c2] w fun e w' => e = .returned (.bool true) ∧ Below w.heap.size w w' := by
  obtain ⟨fr, en, is, cs, ss, ds, ic, cl, cc, sl, sc, dl, dc, IL, f, ps, cr, rfl, hI, hC, hil, he0, he1, hps, hcr, hf⟩ := guest_of_fits w0
  have hM := marks_of_fits w1
  obtain ⟨x0, x1, rfl, hx0, hx1⟩ := two_of_fits w2
  have HMD := Lib.hid (fun y (hy : Keep [] w y) => made_at fr en is cs ss ds s1 ic cl cc sl sc dl dc len1 cap1 IL f ps cr y (hI.keep0 hy) (hC.keep0 hy) hil he0 he1 (hM.keep0 hy))
  clear w0 w1 w2 hI hC hM
  obtain ⟨sz, hsz⟩ : ∃ sz, sz = w.heap.size := ⟨_, rfl⟩
  have hgs : ((w.alloc (.cells #[.int .i64 fr, .slice is IL.length ic, .slice cs cl cc, .int .u16 en, f 0, f 1, f 2, f 3, f 4, f 5, f 6, f 7, f 8, .int .u32 ps, .int .u32 cr, f 11, f 12, f 13, f 14, f 15, f 16, f 17, f 18, .slice ss sl sc, .slice ds dl dc] 46)).alloc (.cells #[.int .u32 x0, .int .u32 x1] 47)).rangeAt sz 0 [.int .i64 fr, .slice is IL.length ic, .slice cs cl cc, .int .u16 en, f 0, f 1, f 2, f 3, f 4, f 5, f 6, f 7, f 8, .int .u32 ps, .int .u32 cr, f 11, f 12, f 13, f 14, f 15, f 16, f 17, f 18, .slice ss sl sc, .slice ds dl dc] := by
    subst hsz
    exact rangeAcc (by repeat first | (refine heap_alloc_at _ ?_; (simp; done)) | refine heap_alloc_other _ ?_)
  go_enter Try.func5, Try.ntmps5
  go_wp2_with (refine wpList_load_mid rfl 46 (.tmp 3) rfl sz 0 (by rw [hsz]; rfl) [.int .i64 fr, .slice is IL.length ic, .slice cs cl cc, .int .u16 en, f 0, f 1, f 2, f 3, f 4, f 5, f 6, f 7, f 8, .int .u32 ps, .int .u32 cr, f 11, f 12, f 13, f 14, f 15, f 16, f 17, f 18, .slice ss sl sc, .slice ds dl dc] _ hgs Try.underlying46 rfl info_guest ?_)
  rw [← hsz]
  generalize hy : World.alloc (World.alloc w _) _ = y0
  have H0 : Hid (Keep [] w y0 ∧ y0.rangeAt sz 0 [.int .i64 fr, .slice is IL.length ic, .slice cs cl cc, .int .u16 en, f 0, f 1, f 2, f 3, f 4, f 5, f 6, f 7, f 8, .int .u32 ps, .int .u32 cr, f 11, f 12, f 13, f 14, f 15, f 16, f 17, f 18, .slice ss sl sc, .slice ds dl dc] ∧ y0.heap[sz + 1]? = some (.cells #[.int .u32 x0, .int .u32 x1] 47 (0, 0)) ∧ w.heap.size = sz) := Lib.hid (by
    rw [hy] at hgs
    refine ⟨by subst hy; exact ((Keep.refl _ _).alloc _).alloc _, hgs, by subst hy hsz; exact heap_alloc_at _ (by simp), hsz.symm⟩)
  clear hy hsz hgs
  refine (HMD.out _ H0.out.1).mono ?_
  rintro e y1 ⟨n, r, fb, g, b, m1, m2, q, c, t, L, s1', s2', rfl, hn1, hn2, hMA⟩
  have HA := Lib.hid hMA
  clear hMA HMD
  unfold rval
  have xk : ∀ o1 o2, ((y1.alloc o1).alloc o2).cell? ⟨sz + 1, 1, none⟩ = some (.int .u32 x1) := fun o1 o2 =>
    (((Keep.refl [] y1).alloc o1).alloc o2).cell (HA.out.keep.cell (cell_of H0.out.2.2.1 1 rfl) (by simp)) (by simp)
  obtain ⟨kk, hkk⟩ : ∃ kk, kk = x1 % 3 := ⟨_, rfl⟩
  have t1 : ((x1 : Int)).tmod 3 = (kk : Int) := by rw [Int.tmod_eq_emod_of_nonneg (by omega)]; omega
  have u1 : (x1 : Int) % 3 = (kk : Int) := by omega
  have hK5 : kk < 3 := by omega
  have t2 : IntKind.i64.wrap (kk : Int) = (kk : Int) := IntWalk.i64_in _ (by omega)
  obtain ⟨kd, hkd⟩ : ∃ k, k = 1 + kk := ⟨_, rfl⟩
  have t3 : IntKind.i64.wrap (1 + (kk : Int)) = (kd : Int) := by rw [IntWalk.i64_in _ (by omega)]; omega
  have hkd13 : 1 ≤ kd ∧ kd ≤ 3 := by omega
  clear hkk hkd
  go_upto_region 5 with fail
  obtain ⟨wb, hwb⟩ : ∃ wb, wb = y1.heap.size := ⟨_, rfl⟩
  rw [← hwb]
  generalize hy2 : World.alloc (World.alloc y1 _) _ = y2
  have H2 : Hid (Keep [] y1 y2 ∧ y2.heap[wb]? = some (.cells #[.slice (some ⟨q, 0, none⟩) (64 * n) (64 * n)] 50 (0, 0)) ∧ y1.heap.size = wb) := Lib.hid (by
    subst hy2 hwb
    refine ⟨((Keep.refl _ _).alloc _).alloc _, ?_, rfl⟩
    repeat first | (refine heap_alloc_at _ ?_; (simp; done)) | refine heap_alloc_other _ ?_)
  clear hy2 hwb xk t1 t2 u1
  have HK2 : Hid (Keep [] w y2) := Lib.hid (H0.out.1.trans (HA.out.keep.trans H2.out.1))
  have HS2 : Hid (y2.rangeAt sz 4 [f 0, f 1, f 2, f 3, f 4, f 5, f 6, f 7, f 8, .int .u32 ps, .int .u32 cr, f 11, f 12, f 13, f 14, f 15, f 16, f 17, f 18] ∧ (y2.cell? ⟨sz + 1, 0, none⟩ = some (.int .u32 x0) ∧ y2.cell? ⟨sz + 1, 1, none⟩ = some (.int .u32 x1)) ∧ sz + 1 < wb) := Lib.hid (by
    have hk := HA.out.keep.trans H2.out.1
    exact ⟨rangeState (keepRange hk H0.out.2.1), ⟨hk.cell (cell_of H0.out.2.2.1 0 rfl) (by simp), hk.cell (cell_of H0.out.2.2.1 1 rfl) (by simp)⟩, by have h1 := lt_of_heap H0.out.2.2.1; have h2 := HA.out.keep.size; have h3 := H2.out.2.2; omega⟩)
  obtain ⟨r1, ⟨g0, g1⟩, hlt1⟩ := HS2.out
  have HMem : Hid (∀ z, Keep [] y2 z → Mem z (.pointer (some ⟨r, 0, none⟩)) n (rdOf n L)) := Lib.hid (fun z hz => mem_of_ram (HA.out.ram.keep0 (H2.out.1.trans hz)) HA.out.ref.len (by omega))
  have HWat : Hid (∀ z, Keep [] y2 z → Wat z (.pointer (some ⟨b, 0, none⟩)) (fun x => decide (x ∈ s1') || decide (x ∈ s2'))) := Lib.hid (fun z hz => (HA.out.marks.keep (H2.out.1.trans hz) (by simp) (by simp) (by simp)).wat)
  obtain ⟨W, hW⟩ : ∃ W : Int → Bool, W = (fun x => decide (x ∈ s1') || decide (x ∈ s2')) := ⟨_, rfl⟩
  rw [← hW] at HWat
  clear hW
  have C2 : Hid (∀ z, Keep [] y2 z → Calls Try.prog 14 #[.pointer (some ⟨r, 0, none⟩), .agg #[f 0, f 1, f 2, f 3, f 4, f 5, f 6, f 7, f 8, .int .u32 ps, .int .u32 cr, f 11, f 12, f 13, f 14, f 15, f 16, f 17, f 18], .pointer (some ⟨b, 0, none⟩), .int .u32 x0, .int .i64 kd] z (VerPost (decF (rdOf n L) n W cr ps x0 kd) z)) := Lib.hid (fun z hz =>
    decide_at (HMem.out z hz) (HWat.out z hz) f hf ps cr x0 kd hps hcr hx0 (by omega) (by omega))
  have HSD := Lib.hid (dec_sound (rdOf n L) n W cr ps x0 (kd : Int) (by omega) (fun a z h => rdOf_lt HA.out.ref.ref.2.1 HA.out.ref.len h) hx0)
  obtain ⟨V, hV⟩ : ∃ V, V = decF (rdOf n L) n W cr ps x0 (kd : Int) := ⟨_, rfl⟩
  rw [← hV] at C2 HSD
  clear hV
  go_wp2_with (refine wpList_load_mid rfl 43 (.tmp 35) rfl sz 4 (by rfl) [f 0, f 1, f 2, f 3, f 4, f 5, f 6, f 7, f 8, .int .u32 ps, .int .u32 cr, f 11, f 12, f 13, f 14, f 15, f 16, f 17, f 18] _ r1 Try.underlying43 rfl info_state ?_)
  refine (C2.out _ (Keep.refl _ _)).mono ?_
  rintro e y3 ⟨ta, cap, rfl, hR, hk3, hg⟩
  have H3 : Hid (Keep [] y2 y3) := Lib.hid hk3
  clear hR hk3 hg r1 g0 g1
  unfold verV
  go_upto_region 6 with fail
  obtain ⟨vb, hvb⟩ : ∃ vb, vb = y3.heap.size := ⟨_, rfl⟩
  rw [← hvb]
  generalize hy4 : World.alloc y3 _ = y4
  have H4 : Hid (∀ z, Keep [] y4 z → Keep [] y2 z ∧ Keep [] w z ∧ (z.cell? ⟨vb, 0, none⟩ = some (.int .i64 V.act) ∧ z.cell? ⟨vb, 1, none⟩ = some (.int .i64 V.frame) ∧ z.cell? ⟨vb, 2, none⟩ = some (.int .u32 V.bits) ∧ z.cell? ⟨vb, 5, none⟩ = some (.bool V.soils) ∧ z.cell? ⟨vb, 6, none⟩ = some (.int .i64 V.cause) ∧ z.cell? ⟨vb, 7, none⟩ = some (.int .u32 V.addr)) ∧ (z.cell? ⟨sz, 13, none⟩ = some (.int .u32 ps) ∧ z.cell? ⟨sz, 14, none⟩ = some (.int .u32 cr) ∧ z.cell? ⟨sz + 1, 0, none⟩ = some (.int .u32 x0))) := Lib.hid (by
    intro z hz
    have hb : y4.heap[vb]? = some (.cells #[.int .i64 V.act, .int .i64 V.frame, .int .u32 V.bits, .slice ta V.tables.length cap, .int .u32 V.entry, .bool V.soils, .int .i64 V.cause, .int .u32 V.addr] 61 (0, 0)) := by subst hy4 hvb; exact heap_alloc_same y3 _
    have hk4 : Keep [] y3 y4 := by subst hy4; exact (Keep.refl _ _).alloc _
    have hk := H3.out.trans (hk4.trans hz)
    have hb' := hz.heap hb (by simp)
    exact ⟨hk, HK2.out.trans hk, ⟨cell_of hb' 0 rfl, cell_of hb' 1 rfl, cell_of hb' 2 rfl, cell_of hb' 5 rfl, cell_of hb' 6 rfl, cell_of hb' 7 rfl⟩, hk.cell (HS2.out.1 9 _ rfl) (by simp), hk.cell (HS2.out.1 10 _ rfl) (by simp), hk.cell HS2.out.2.1.1 (by simp)⟩)
  clear hy4 hvb
  obtain ⟨hk4, HK4, ⟨d0, d1, d2, d5, d6, d7⟩, c13, c14, c0⟩ := H4.out y4 (Keep.refl _ _)
  clear hk4 HK4
  go_wp2_with fail
  have hto := to_at (HMem.out y4 (H4.out y4 (Keep.refl _ _)).1) cr 16 ps x0 kd hcr (by omega) hps hx0 (by omega) (by omega)
  rcases HSD.out with ⟨hno, hE⟩ | ⟨A, B, hS⟩
  · obtain ⟨qa, hq⟩ : ∃ qa, toF (rdOf n L) n cr 16 ps x0 (kd : Int) = (qa, false) := ⟨(toF (rdOf n L) n cr 16 ps x0 (kd : Int)).1, Prod.ext rfl hno⟩
    rw [hq] at hto
    rw [hE] at H4
    clear hno hE hq
    refine hto.mono ?_
    rintro e y5 ⟨rfl, hk5⟩
    clear d0 d1 d2 d5 d6 d7 c13 c14 c0
    obtain ⟨_, HK5, ⟨d0, d1, d2, d5, d6, d7⟩, c13, c14, c0⟩ := H4.out y5 hk5
    have HK := Lib.hid HK5
    have w1 : IntKind.i64.wrap (5 + (kd : Int)) = 5 + (kd : Int) := IntWalk.i64_in _ (by omega)
    have w2 : IntKind.i64.wrap (5 + (kd : Int) - 1) = 4 + (kd : Int) := by rw [IntWalk.i64_in _ (by omega)]; omega
    have w3 : 5 + (kd : Int) - 1 = 4 + (kd : Int) := by omega
    clear hk5 HK5 hto HSD
    simp only at d0 d1 d2 d5 d6 d7
    go_wp2_with fail
    refine (lworks_at _).mono ?_
    rintro e y9 ⟨rfl, hk9⟩
    have HF := Lib.hid (Keep.below (HK.out.trans hk9) (Nat.le_refl _) (by simp))
    clear hk9
    go_wp2_with fail
    go_ret
    exact ⟨rfl, HF.out⟩
  · have HS := Lib.hid hS
    rw [hS.goes] at hto
    obtain ⟨fp, hfp⟩ : ∃ p : Nat, p = A / 64 := ⟨_, rfl⟩
    have hfr : V.frame = (fp : Int) := by rw [hS.frame, hfp]
    have hA2 : (A : Int) / 64 = (fp : Int) := by omega
    have hA3 : ((A : Int)).tdiv 64 = (fp : Int) := by rw [Int.tdiv_eq_ediv_of_nonneg (by omega)]; omega
    have hA4 : fp < 4294967296 := by have := hS.alt; omega
    have hA5 : IntKind.u32.wrap (fp : Int) = (fp : Int) := IntWalk.u32_in _ (by omega)
    have hA6 : IntKind.i64.wrap (fp : Int) = (fp : Int) := IntWalk.i64_in _ (by omega)
    have hact := hS.act
    have HFB := Lib.hid (And.intro hfr hS.bits)
    rw [hfr, hS.bits] at H4
    clear hfp hS hfr HSD
    refine hto.mono ?_
    rintro e y5 ⟨rfl, hk5⟩
    clear d0 d1 d2 d5 d6 d7 c13 c14 c0
    obtain ⟨h25, HK5, ⟨d0, d1, d2, d5, d6, d7⟩, c13, c14, c0⟩ := H4.out y5 hk5
    have HK := Lib.hid (And.intro HK5 (And.intro h25 hk5))
    clear hk5 HK5 h25 hto
    rcases hact with ha | ha
    · have HACT := Lib.hid ha
      rw [ha] at d0
      have hmap := HS.out.maps ha
      have HM1 := Lib.hid (may_at B HS.out.blt (kd : Int) true (by omega) (by omega) y5)
      rw [hmap] at HM1
      have HM3 := Lib.hid (may_at B HS.out.blt 3 true (by omega) (by omega) y5)
      clear ha hmap
      go_wp2_with fail
      refine HM1.out.mono ?_
      rintro e z ⟨rfl, rfl⟩
      go_wp2_with fail
      have hwr := HS.out.writes
      generalize mayB B 3 true = m3 at HM3 hwr
      have HWR := Lib.hid hwr
      clear hwr
      refine HM3.out.mono ?_
      rintro e z ⟨rfl, rfl⟩
      cases m3
      · clear HWR
        go_wp2_with fail
        refine (lworks_at _).mono ?_
        rintro e y9 ⟨rfl, hk9⟩
        have HF := Lib.hid (Keep.below (HK.out.1.trans hk9) (Nat.le_refl _) (by simp))
        clear hk9
        go_wp2_with fail
        go_ret
        exact ⟨rfl, HF.out⟩
      · obtain ⟨hto3, hwf, hpg⟩ := HWR.out rfl
        clear HWR
        rw [HFB.out.1] at hwf
        have ht3 := to_at (HMem.out y5 HK.out.2.1) cr 16 ps x0 3 hcr (by omega) hps hx0 (by omega) (by omega)
        obtain ⟨qa, hq⟩ : ∃ qa, toF (rdOf n L) n cr 16 ps x0 3 = (qa, true) := ⟨(toF (rdOf n L) n cr 16 ps x0 3).1, Prod.ext rfl hto3⟩
        rw [hq] at ht3
        have HPG := Lib.hid (And.intro hwf hpg)
        clear hq hto3 hwf hpg
        go_wp2_with fail
        refine ht3.mono ?_
        rintro e y6 ⟨rfl, hk6⟩
        clear d0 d1 d2 d5 d6 d7 c13 c14 c0 ht3
        have HK6 := Lib.hid (HK.out.2.2.trans hk6)
        clear hk6
        obtain ⟨h26, _, ⟨d0, d1, d2, d5, d6, d7⟩, c13, c14, c0⟩ := H4.out y6 HK6.out
        have HL := Lib.hid (look_at (HMem.out y6 h26) cr 16 x0 hcr (by omega) hx0)
        have HW6 := Lib.hid (HWat.out y6 h26)
        clear h26
        obtain ⟨u0, u1', u2, u3, u4, u5, hu, hub⟩ : ∃ u0 u1' u2 u3 u4 u5 : Int, wayV (lookF (rdOf n L) n cr 16 x0) = .agg #[.int .u32 u0, .int .u32 u1', .int .u32 u2, .int .i64 u3, .int .i64 u4, .int .i64 u5] ∧ (ps / 4 % 2 = 1 → bits .and .u32 u0 16 = 16) := by
          by_cases hp : ps / 4 % 2 = 1
          · obtain ⟨b', a', e', d', t', p', hl, h16⟩ := HPG.out.2 hp
            rw [hl]
            obtain ⟨hb32, _, _⟩ := lookF_lt (fun a z h => rdOf_lt HA.out.ref.ref.2.1 HA.out.ref.len h) hl
            exact ⟨_, _, _, _, _, _, rfl, fun _ => bit1 (i := 4) (by omega) rfl (by decide) (by omega)⟩
          · cases lookF (rdOf n L) n cr 16 x0 with
            | none => exact ⟨_, _, _, _, _, _, rfl, fun h => absurd h hp⟩
            | some q => obtain ⟨b', a', e', d', t', p'⟩ := q; exact ⟨_, _, _, _, _, _, rfl, fun h => absurd h hp⟩
        unfold LookPost at HL
        rw [hu] at HL
        generalize (lookF (rdOf n L) n cr 16 x0).isSome = qs at HL
        rw [HACT.out] at d0
        go_wp2_with fail
        refine HL.out.mono ?_
        rintro e y7 ⟨rfl, hk7⟩
        clear d0 d1 d2 d5 d6 d7 c13 c14 c0
        have HK7 := Lib.hid (HK6.out.trans hk7)
        clear hk7 HL hu
        go_upto_region 14 with fail
        obtain ⟨xb, hxb⟩ : ∃ xb, xb = y7.heap.size := ⟨_, rfl⟩
        rw [← hxb]
        generalize hy8 : World.alloc y7 _ = y8
        have HK8 : Hid (Keep [] y4 y8 ∧ y8.cell? ⟨xb, 0, none⟩ = some (.int .u32 u0)) := Lib.hid (by
          subst hy8
          exact ⟨HK7.out.trans ((Keep.refl _ _).alloc _), cell_of (heap_alloc_at _ hxb) 0 rfl⟩)
        clear hy8 hxb
        obtain ⟨h28, _, ⟨d0, d1, d2, d5, d6, d7⟩, c13, c14, c0⟩ := H4.out y8 HK8.out.1
        have HW8 := Lib.hid (HWat.out y8 h28)
        have HWf := Lib.hid (HW8.out y8 (Keep.refl _ _) (fp : Int))
        rw [HPG.out.1] at HWf
        have x0' := HK8.out.2
        rw [HACT.out] at d0
        have HKK := Lib.hid (H4.out y8 HK8.out.1).2.1
        have HUB := Lib.hid hub
        clear h28 hub
        go_wp2_with fail
        refine HWf.out.mono ?_
        rintro e z ⟨rfl, rfl⟩
        by_cases hp : ps / 4 % 2 = 1
        · have m4 : bits .and .u32 (ps : Int) 4 = 4 := bit1 (i := 2) hps rfl (by decide) (by omega)
          have m16 := HUB.out hp
          clear hp
          go_wp2_with fail
          refine (lworks_at _).mono ?_
          rintro e y9 ⟨rfl, hk9⟩
          have HF := Lib.hid (Keep.below (HKK.out.trans hk9) (Nat.le_refl _) (by simp))
          clear hk9
          go_wp2_with fail
          go_ret
          exact ⟨rfl, HF.out⟩
        · have m4 : bits .and .u32 (ps : Int) 4 = 0 := bit0 (i := 2) hps rfl (by decide) (by omega)
          clear hp
          go_wp2_with fail
          refine (lworks_at _).mono ?_
          rintro e y9 ⟨rfl, hk9⟩
          have HF := Lib.hid (Keep.below (HKK.out.trans hk9) (Nat.le_refl _) (by simp))
          clear hk9
          go_wp2_with fail
          go_ret
          exact ⟨rfl, HF.out⟩
    · have hB := HS.out.two ha
      have HWT := Lib.hid (HS.out.watches ha)
      rw [ha] at d0
      rw [hB] at d2 HFB
      have HM1 := Lib.hid (may_at 0 (by omega) (kd : Int) true (by omega) (by omega) y5)
      rw [may_zero] at HM1
      have HM3 := Lib.hid (may_at 0 (by omega) 3 true (by omega) (by omega) y5)
      rw [may_zero] at HM3
      have HWf := Lib.hid (HWat.out y5 HK.out.2.1 y5 (Keep.refl _ _) (fp : Int))
      clear ha hB
      go_wp2_with fail
      refine HM1.out.mono ?_
      rintro e z ⟨rfl, rfl⟩
      go_wp2_with fail
      refine HM3.out.mono ?_
      rintro e z ⟨rfl, rfl⟩
      have hk3 : (kd : Int) = 3 := HWT.out.1
      have hk3' : kd = 3 := by omega
      clear HM1 HM3 H4 C2 HS
      cases hs : V.soils
      · rw [hs] at d5
        have hwt := HWT.out.2.resolve_left (by rw [hs]; simp)
        rw [HFB.out.1] at hwt
        rw [hwt] at HWf
        clear hs hwt
        go_wp2_with fail
        refine HWf.out.mono ?_
        rintro e z ⟨rfl, rfl⟩
        go_wp2_with fail
        refine (lworks_at _).mono ?_
        rintro e y9 ⟨rfl, hk9⟩
        have HF := Lib.hid (Keep.below (HK.out.1.trans hk9) (Nat.le_refl _) (by simp))
        clear hk9
        go_wp2_with fail
        go_ret
        exact ⟨rfl, HF.out⟩
      · rw [hs] at d5
        clear hs
        go_wp2_with fail
        refine (lworks_at _).mono ?_
        rintro e y9 ⟨rfl, hk9⟩
        have HF := Lib.hid (Keep.below (HK.out.1.trans hk9) (Nat.le_refl _) (by simp))
        clear hk9
        go_wp2_with fail
        go_ret
        exact ⟨rfl, HF.out⟩
end Go.Proofs.Ytnpnedimgfbnhaa
