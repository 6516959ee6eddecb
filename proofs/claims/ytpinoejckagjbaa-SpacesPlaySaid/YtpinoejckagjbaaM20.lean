/- Contracts of the functions that the law reaches, walked, and the plain laws on them (several texts in one). -/
import Derived.Deep.Cut
import Derived.Deep.CutBlock
import Derived.Deep.DeepCutAuto
import Derived.Outline
import Derived.Test.YtpinoejckagjbaaM19

/- The document's shadow: a page put. -/
namespace Go.Proofs.Ytpinoejckagjbaa
open Go.RowKit Go.Mum
set_option linter.unusedVariables false
set_option linter.unusedSimpArgs false
set_option maxRecDepth 100000

theorem own_apart {w : World} {b1 b2 : Nat} {e1 e2 : TypeId} {s1 s2 : Nat} {v1 v2 : Value} {n1 n2 : Nat} {x1 x2 : List Value} (h1 : w.ownsRow b1 e1 s1 v1 n1 x1) (h2 : w.ownsRow b2 e2 s2 v2 n2 x2) (hne : e1 ≠ e2) {g : Nat} (hg1 : v1.ownBlock = some g) (hg2 : v2.ownBlock = some g) : False := by
  rcases h1.2 with ⟨rfl, _⟩ | ⟨g1, _, c1, rfl, _, a1, _⟩
  · cases hg1
  · rcases h2.2 with ⟨rfl, _⟩ | ⟨g2, _, c2, rfl, _, a2, _⟩
    · cases hg2
    · cases hg1
      cases hg2
      rw [a1] at a2
      simp only [Option.some.injEq, Obj.cells.injEq] at a2
      exact hne a2.2.1

theorem grown_keepUp {x y : World} {b : Nat} {row : Option Nat} (h : x.grownBy y row) (hb : ∀ g, row = some g → b ≤ g) : KeepUp b x y := by
  cases row with
  | none => exact ⟨[], by simp, h.os, h.tape, h.output, h.size, fun k hk _ => h.block k hk (by simp)⟩
  | some g => exact ⟨[g], by simpa using hb g rfl, h.os, h.tape, h.output, h.size, fun k hk hn => h.block k hk (by intro q; cases q; simp at hn)⟩

theorem grown_keepTo {x y : World} {row : Option Nat} (h : x.grownBy y row) : KeepTo (fun k => row = some k) x y := by
  cases row with
  | none => exact ⟨[], by simp, h.os, h.tape, h.output, h.size, fun k hk _ => h.block k hk (by simp)⟩
  | some g => exact ⟨[g], by simp, h.os, h.tape, h.output, h.size, fun k hk hn => h.block k hk (by intro q; cases q; simp at hn)⟩

theorem info_u32' : (Try.prog.info? 22).map (fun i => (i.zero, i.size, i.bytes)) = some (some (.int .u32 0), 1, 4) := by kernel_rfl

/-- One page more at the end of a list that was begun later. -/
theorem app_page {y0 w w1 : World} {B : Nat} {lv v' : Value} {L : List Pg} (r : Pg) (hB : y0.heap.size ≤ B) (hrow : w.ownsRow B 65 3 lv L.length (pgL L)) (hk : Keep [] y0 w)
    (ho : w1.ownsRow B 65 3 v' (L.length + 1) (pgL L ++ pgC r)) (hgr : (w.alloc (.cells #[.int .u32 (r.1 : Nat), .int .i64 (r.2.1 : Nat), .int .u32 (r.2.2 : Nat)] 65)).grownBy w1 lv.ownBlock) :
    w1.ownsRow B 65 3 v' (L ++ [r]).length (pgL (L ++ [r])) ∧ Keep [] y0 w1 := by
  have e : pgL (L ++ [r]) = pgL L ++ pgC r := by simp [pgL]
  refine ⟨by rw [List.length_append, e]; exact ho, hgr.os.trans hk.os, hgr.tape.trans hk.tape, hgr.output.trans hk.output, Nat.le_trans hk.size (Nat.le_trans (by simp) hgr.size), fun b hb _ => ?_⟩
  have h1 := hgr.block b (by have := hk.size; simp; omega) (by
    intro hh
    have := own_block hrow hh.symm
    omega)
  rw [h1, Below.heap_alloc _ _ _ (by have := hk.size; omega)]
  exact hk.block b hb (by simp)

set_option maxHeartbeats 8000000 in
theorem rsput_at {x : World} {wb most : Nat} {ps : List Pg} {ts : List Nat} {pv tv : Value} (h : RS x wb most ps ts pv tv) (hl : ps.length ≤ 900) (htl : ts.length ≤ 900) (hmo : most ≤ 900) (va : Nat) (frame : Int) (bb : Nat) (hv : va < 4294967296) (hf1 : -9223372036854775808 ≤ frame) (hf2 : frame ≤ 9223372036854775807) (hb : bb < 4294967296) :
    Calls Try.prog 52 #[.pointer (some ⟨wb, 0, none⟩), .int .u32 va, .int .i64 frame, .int .u32 bb] x (RPut wb most ps ts tv va frame bb x) := by
  obtain ⟨c0, c1, c2, c3⟩ := h.cells
  have HR := Lib.hid h
  by_cases hbad : 32768 ≤ va ∨ frame < 0 ∨ 40 ≤ frame
  · have HF : Hid (RPut wb most ps ts tv va frame bb x (.returned (.bool false)) x) := Lib.hid ⟨KeepTo.refl _ _, .inl ⟨hbad, rfl, _, _, h⟩⟩
    clear h
    rcases (by omega : (32768 : Int) ≤ (va : Int) ∨ (¬ ((32768 : Int) ≤ (va : Int)) ∧ frame < 0) ∨ (¬ ((32768 : Int) ≤ (va : Int)) ∧ ¬ (frame < 0) ∧ 40 ≤ frame)) with h1 | ⟨h1, h2⟩ | ⟨h1, h2, h3⟩
    all_goals
      clear hbad
      go_enter Try.func52, Try.ntmps52
      go_wp2_with fail
      go_ret
      exact HF.out
  · obtain ⟨fr, rfl⟩ : ∃ fr : Nat, frame = fr := ⟨frame.toNat, by omega⟩
    have hva : va < 32768 := by omega
    have hf40 : fr < 40 := by omega
    have g1 : ¬ ((32768 : Int) ≤ (va : Int)) := by omega
    have g2 : ¬ ((fr : Int) < 0) := by omega
    have g3 : ¬ ((40 : Int) ≤ (fr : Int)) := by omega
    have g4 : (fr : Int) < 40 := by omega
    obtain ⟨n, hn⟩ : ∃ n, n = va / 1024 := ⟨_, rfl⟩
    have n1 : (va : Int) / 1024 = (n : Int) := by omega
    have n2 : ((va : Int)).tdiv 1024 = (n : Int) := by rw [Int.tdiv_eq_ediv_of_nonneg (by omega)]; exact n1
    have HN := Lib.hid hn
    obtain ⟨i0, hi, hz0, hz1, hz2⟩ := info_parts info_page
    obtain ⟨j0, hj, hy0, hy1, hy2⟩ := info_parts info_u32'
    have CH := Lib.hid (rshas_at h (by omega) n)
    obtain ⟨q, hq⟩ : ∃ q, decide (n ∈ ts) = q := ⟨_, rfl⟩
    rw [hq] at CH
    have HQ := Lib.hid hq
    clear hq
    obtain ⟨ts', hts⟩ : ∃ t, t = if n ∈ ts then ts else ts ++ [n] := ⟨_, rfl⟩
    have HT := Lib.hid hts
    clear hbad hn h hts
    go_enter Try.func52, Try.ntmps52
    go_wp2_with fail
    refine CH.out.mono ?_
    rintro e y ⟨rfl, rfl⟩
    clear g1 g2 g3 g4
    go_upto_if 31 with fail
    go_cut [] (fun wx => Hid (n ∈ ts ∨ ts.length < most) ∧ ∃ pv' tv', Hid (RS wx wb most ps ts' pv' tv' ∧ KeepTo (fun k => k = wb ∨ tv.ownBlock = some k) x wx))
    case first =>
      cases q
      rotate_left
      · have hin : n ∈ ts := of_decide_eq_true HQ.out
        have HT2 : Hid (RS x wb most ps ts' pv tv ∧ KeepTo (fun k => k = wb ∨ tv.ownBlock = some k) x x) := Lib.hid ⟨by rw [HT.out, if_pos hin]; exact HR.out, KeepTo.refl _ _⟩
        have HI := Lib.hid (show n ∈ ts ∨ ts.length < most from .inl hin)
        clear hin
        go_wp2_with fail
        go_meet
        case rel => exact ⟨HI, _, _, HT2⟩
      · have HIN := Lib.hid (of_decide_eq_false HQ.out)
        obtain ⟨ta, tc, htv⟩ := own_form HR.out.trow
        subst htv
        by_cases hfull : most ≤ ts.length
        · have hfi : (most : Int) ≤ (ts.length : Int) := by omega
          have HF : Hid (∀ d, RPut wb most ps ts (.slice ta ts.length tc) va fr bb x (.returned (.bool false)) (x.drewN d)) := Lib.hid (fun d => by
            have hk : Keep [] x (x.drewN d) := (Keep.refl _ _).drewN _
            exact ⟨Keep.upTo hk (by simp), .inr (.inl ⟨hva, by omega, by omega, by rw [← HN.out]; exact HIN.out, hfull, rfl, _, _, HR.out.keep hk (by simp)⟩)⟩)
          clear hfull
          go_wp2_with fail
          go_quiet (fail)
          go_wp2_with fail
          go_ret
          exact HF.out _
        · have hfi : ¬ ((most : Int) ≤ (ts.length : Int)) := by omega
          have HL := Lib.hid (show ts.length < most by omega)
          clear hfull
          have HDL : Hid (decide (most ≤ ts.length) = false) := Lib.hid (decide_eq_false (by have := HL.out; omega))
          go_wp2_with fail
          go_quiet (fail)
          rw [HDL.out]
          generalize hy1' : World.drewN x _ = y1
          have HY : Hid (RS y1 wb most ps ts pv (.slice ta ts.length tc) ∧ Keep [] x y1) := Lib.hid (by
            have hk : Keep [] x y1 := by subst hy1'; exact (Keep.refl _ _).drewN _
            exact ⟨HR.out.keep hk (by simp), hk⟩)
          clear hy1' c0 c1 c2 c3
          obtain ⟨c0, c1, c2, c3⟩ := HY.out.1.cells
          have hrow := HY.out.1.trow
          have HAP : Hid (∀ v' w1, w1.ownsRow (wb + 1) 22 1 v' (ts.length + 1) (ts.map (fun z => .int .u32 (z : Nat)) ++ [.int .u32 n]) → (y1.alloc (.cells #[.int .u32 n] 22)).grownBy w1 (Value.slice ta ts.length tc).ownBlock → Hid (w1.heap[wb]? = some (.cells #[.int .i64 40, pv, .slice ta ts.length tc, .int .i64 most] 46 (0, 0)) ∧ RS (w1.setCell ⟨wb, 2, none⟩ v') wb most ps ts' pv v' ∧ KeepTo (fun k => k = wb ∨ (Value.slice ta ts.length tc).ownBlock = some k) x (w1.setCell ⟨wb, 2, none⟩ v'))) := Lib.hid (fun v' w1 ho hgr => by
            have hwl : wb < y1.heap.size := lt_of_heap HY.out.1.blk
            obtain ⟨l, hl1, hk⟩ := grown_keepTo hgr
            have hl2 : ∀ k ∈ l, wb + 1 ≤ k := fun k q => (own_block hrow (hl1 k q)).1
            have hka : Keep l y1 w1 := ((Keep.refl l y1).alloc _).trans hk
            have hblk := hka.heap HY.out.1.blk (fun q => by have := hl2 _ q; omega)
            have hpr : w1.ownsRow (wb + 1) 65 3 pv ps.length (pgL ps) := (HY.out.1.prow.alloc _).kept hgr (by
              cases hpo : pv.ownBlock with
              | none => exact .inl rfl
              | some g => exact .inr (fun hh => own_apart HY.out.1.prow HY.out.1.trow (by decide) hpo hh.symm))
            have hks : Keep [wb] w1 (w1.setCell ⟨wb, 2, none⟩ v') := keepSet (Keep.refl _ _) (by simp) _ _
            refine Lib.hid ⟨hblk, ⟨heap_set_same hblk 2 _, own_keep hpr hks (fun g hg => by have := own_block hpr hg; simp; omega), ?_⟩, (Keep.upTo HY.out.2 (by simp)).trans ((Keep.upTo hka (fun k q => .inr (hl1 k q))).trans (Keep.upTo hks (by simp)))⟩
            have hts2 : ts' = ts ++ [n] := by rw [HT.out, if_neg HIN.out]
            rw [hts2, List.length_append, List.map_append]
            exact own_keep ho hks (fun g hg => by have := own_block ho hg; simp; omega))
          have hys : wb + 1 ≤ y1.heap.size := lt_of_heap HY.out.1.blk
          go_wp2_with (at_builtin; refine wpList_append_own _ rfl _ _ 44 rfl (wb + 1) 22 j0 (.int .u32 0) 1 4 Try.underlying44 hj hy0 hy1 hy2 rfl (by decide) _ _ _ rfl (hrow.alloc _) ⟨y1.heap.size, 0, none⟩ 1 1 [.int .u32 n] rfl rfl (cell_one_new _ _ _) (by simp [Value.oneCell']) (by unfold maxLen; omega) (by omega) (by simp; omega) ?_; intro v' w1 hown' hgrow _; obtain ⟨ta2, tc2, rfl⟩ := own_form hown'; have HG := HAP.out _ _ hown' hgrow; have e2 := cell_of HG.out.1 2 rfl; have f2 := frozen_of HG.out.1 2; clear hown' hgrow)
          have HI := Lib.hid (show n ∈ ts ∨ ts.length < most from .inr HL.out)
          go_meet
          case rel => exact ⟨HI, _, _, Lib.hid HG.out.2⟩
    case rest =>
      obtain ⟨HI, pv2, tv2, HW⟩ := hcut
      clear c0 c1 c2 c3
      go_wp2_with fail
      refine (rsdrop_at HW.out.1 (by omega) va hv).mono ?_
      rintro e z ⟨⟨v, rfl⟩, pv3, hRz, hkz⟩
      obtain ⟨pgv, hpg⟩ : ∃ p, p = va - va % 64 := ⟨_, rfl⟩
      obtain ⟨ps1, hps1⟩ : ∃ p, p = ps.filter (fun q => decide (q.1 ≠ va - va % 64)) := ⟨_, rfl⟩
      have hl1 : ps1.length ≤ 900 := by rw [hps1]; exact Nat.le_trans (List.length_filter_le _ _) hl
      obtain ⟨bv, hbv⟩ : ∃ b, b = bb % 16 / 2 * 2 + 1 := ⟨_, rfl⟩
      have H1 : Hid (RS z wb most ps1 ts' pv3 tv2 ∧ KeepTo (fun k => k = wb ∨ tv.ownBlock = some k) x z) := Lib.hid ⟨by rw [hps1]; exact hRz, HW.out.2.trans (Keep.upTo hkz (by simp))⟩
      have HPS := Lib.hid (And.intro hpg (And.intro hps1 hbv))
      obtain ⟨m, hm⟩ : ∃ m, m = va % 64 := ⟨_, rfl⟩
      obtain ⟨b16, hb16⟩ : ∃ m, m = bb % 16 := ⟨_, rfl⟩
      obtain ⟨b8, hb8⟩ : ∃ m, m = b16 / 2 := ⟨_, rfl⟩
      have t1 : ((va : Int)).tmod 64 = (m : Int) := by rw [Int.tmod_eq_emod_of_nonneg (by omega)]; omega
      have u1 : (va : Int) % 64 = (m : Int) := by omega
      have u2 : IntKind.u32.wrap ((va : Int) - (m : Int)) = (pgv : Int) := by rw [IntWalk.u32_in _ (by omega)]; omega
      have t3 : ((bb : Int)).tmod 16 = (b16 : Int) := by rw [Int.tmod_eq_emod_of_nonneg (by omega)]; omega
      have u3 : (bb : Int) % 16 = (b16 : Int) := by omega
      have t4 : ((b16 : Int)).tdiv 2 = (b8 : Int) := by rw [Int.tdiv_eq_ediv_of_nonneg (by omega)]; omega
      have u4 : (b16 : Int) / 2 = (b8 : Int) := by omega
      have u5 : IntKind.u32.wrap ((b8 : Int) * 2) = (b8 : Int) * 2 := IntWalk.u32_in _ (by omega)
      have u6 : IntKind.u32.wrap ((b8 : Int) * 2 + 1) = (bv : Int) := by rw [IntWalk.u32_in _ (by omega)]; omega
      have u7 : (b8 : Int) * 2 + 1 = (bv : Int) := by omega
      clear hRz hkz hpg hps1 hbv hm hb16 hb8 n1 n2
      obtain ⟨pa, pc, hpv⟩ := own_form H1.out.1.prow
      subst hpv
      go_upto_region 9 with fail
      obtain ⟨px, hpx⟩ : ∃ b, b = z.heap.size := ⟨_, rfl⟩
      rw [← hpx]
      generalize hy0' : World.alloc z _ = y0
      have H2 : Hid (y0.heap[px]? = some (.cells #[.int .u32 pgv, .int .i64 fr, .int .u32 bv] 65 (0, 0)) ∧ Keep [] z y0 ∧ px = z.heap.size ∧ px < y0.heap.size) := Lib.hid (by
        subst hy0'
        exact ⟨heap_alloc_at _ hpx, (Keep.refl _ _).alloc _, hpx, by rw [hpx]; simp⟩)
      clear hy0' hpx t1 t3 t4 u1 u2 u3 u4 u5 u6 u7
      have HRS : Hid (∀ w', Keep [] y0 w' → RS w' wb most ps1 ts' (.slice pa ps1.length pc) tv2 ∧ w'.heap[px]? = some (.cells #[.int .u32 pgv, .int .i64 fr, .int .u32 bv] 65 (0, 0))) := Lib.hid (fun w' hk => ⟨H1.out.1.keep (H2.out.2.1.trans hk) (by simp), hk.heap H2.out.1 (by simp)⟩)
      have HP := Lib.hid (HRS.out y0 (Keep.refl _ _)).1.prow
      have HQK : Hid (∀ (k : Nat) (hk : k < ps1.length) w', Keep [] y0 w' → ∃ g, pa = some ⟨g, 0, none⟩ ∧ w'.cell? ⟨g, k * 3, none⟩ = some (.int .u32 ((ps1[k]).1 : Nat)) ∧ w'.cell? ⟨g, k * 3 + 1, none⟩ = some (.int .i64 ((ps1[k]).2.1 : Nat)) ∧ w'.cell? ⟨g, k * 3 + 2, none⟩ = some (.int .u32 ((ps1[k]).2.2 : Nat))) := Lib.hid (fun k hk w' hkw => by
        obtain ⟨g, hg1, hg⟩ := own_some HP.out (by omega)
        have hq0 := hg (k * 3 + 0) (by omega)
        have hq1 := hg (k * 3 + 1) (by omega)
        have hq2 := hg (k * 3 + 2) (by omega)
        rw [pgL_get ps1 k hk _ (by omega)] at hq0 hq1 hq2
        exact ⟨g, hg1, hkw.cell hq0 (by simp), hkw.cell hq1 (by simp), hkw.cell hq2 (by simp)⟩)
      obtain ⟨c0, c1, -, -⟩ := (HRS.out y0 (Keep.refl _ _)).1.cells
      go_wp2_with fail
      go_loopw [10, 11, 12] (fun lv0 fv kv wr => ∃ (k : Nat) (L : List Pg) (lv : Value) (laid : Bool), lv = lv0 ∧ fv = .bool laid ∧ kv = .int .i64 k ∧ k ≤ ps1.length ∧ L.length ≤ k + 1 ∧ Hid ((laid = true → L = insP (pgv, fr, bv) (ps1.take k) ∧ ∃ q ∈ ps1.take k, pgv < q.1) ∧ (laid = false → L = ps1.take k ∧ ∀ q ∈ ps1.take k, ¬ (pgv < q.1)) ∧ wr.ownsRow y0.heap.size 65 3 lv L.length (pgL L) ∧ Keep [] y0 wr)) (fun _ _ kv _ => ps1.length - (intOf kv).toNat)
      case atStart => exact ⟨0, [], _, false, rfl, rfl, rfl, by omega, by simp, Lib.hid ⟨by simp, by simp, World.ownsRow_nil _ _ _ _, Keep.refl _ _⟩⟩
      case round =>
        obtain ⟨k, L, lv, laid, rfl, rfl, rfl, hk1, hL, HJ⟩ := hrel
        rename World => wo
        obtain ⟨e0, e1, -, -⟩ := (HRS.out wo HJ.out.2.2.2).1.cells
        have hbx := (HRS.out wo HJ.out.2.2.2).2
        clear c0 c1
        by_cases hkl : k < ps1.length
        · obtain ⟨g, rfl, hy0q, hy1q, hy2q⟩ := HQK.out k hkl y0 (Keep.refl _ _)
          have HQ2 : Hid (∀ w', Keep [] y0 w' → (w'.cell? ⟨wb, 1, none⟩ = some (.slice (some ⟨g, 0, none⟩) ps1.length pc)) ∧ (w'.cell? ⟨g, k * 3, none⟩ = some (.int .u32 ((ps1[k]).1 : Nat)) ∧ w'.cell? ⟨g, k * 3 + 1, none⟩ = some (.int .i64 ((ps1[k]).2.1 : Nat)) ∧ w'.cell? ⟨g, k * 3 + 2, none⟩ = some (.int .u32 ((ps1[k]).2.2 : Nat))) ∧ (w'.cell? ⟨px, 0, none⟩ = some (.int .u32 pgv) ∧ w'.cell? ⟨px, 1, none⟩ = some (.int .i64 fr) ∧ w'.cell? ⟨px, 2, none⟩ = some (.int .u32 bv))) := Lib.hid (fun w' hk => by
            have hb := (HRS.out w' hk).2
            exact ⟨(HRS.out w' hk).1.cells.2.1, ⟨hk.cell hy0q (by simp), hk.cell hy1q (by simp), hk.cell hy2q (by simp)⟩, cell_of hb 0 rfl, cell_of hb 1 rfl, cell_of hb 2 rfl⟩)
          have p0 : wo.cell? ⟨px, 0, none⟩ = some (.int .u32 pgv) := cell_of hbx 0 rfl
          have hk0 : (0 : Int) ≤ (k : Int) := by omega
          have hk3 : (k : Int) < (ps1.length : Int) := by omega
          have htake : Hid (ps1.take (k + 1) = ps1.take k ++ [ps1[k]]) := Lib.hid (by rw [List.take_add_one, List.getElem?_eq_getElem hkl]; rfl)
          clear hy0q hy1q hy2q
          generalize ps1[k] = q at HQ2 htake
          obtain ⟨qa, qf, qb⟩ := q
          simp only at HQ2
          obtain ⟨-, ⟨hq0, hq1, hq2⟩, -⟩ := HQ2.out wo HJ.out.2.2.2
          clear hbx
          cases laid
          · by_cases hgt : pgv < qa
            · have HA : Hid ((L ++ [(pgv, fr, bv)] ++ [(qa, qf, qb)]) = insP (pgv, fr, bv) (ps1.take (k + 1)) ∧ ∃ q ∈ ps1.take (k + 1), pgv < q.1) := Lib.hid (by
                obtain ⟨h1, h2⟩ := HJ.out.2.1 rfl
                rw [htake.out, insP_new (p := (pgv, fr, bv)) (r := (qa, qf, qb)) hgt h2, ← h1]
                exact ⟨rfl, (qa, qf, qb), by simp, hgt⟩)
              have HLk : Hid (L.length ≤ k) := Lib.hid (by
                have := (HJ.out.2.1 rfl).1
                rw [this]; exact Nat.le_trans (List.length_take_le _ _) (Nat.le_refl _))
              have HDF : Hid (decide (pgv < qa) = true) := Lib.hid (decide_eq_true hgt)
              clear hgt
              go_wp2_with fail
              go_quiet (fail)
              rw [HDF.out]
              generalize hd : World.drewN wo _ = w2
              have H3 : Hid (Keep [] wo w2) := Lib.hid (by subst hd; exact (Keep.refl _ _).drewN _)
              clear hd hq0 hq1 hq2 e0 e1 p0
              obtain ⟨e1, ⟨hq0, hq1, hq2⟩, p0, p1, p2⟩ := HQ2.out w2 (HJ.out.2.2.2.trans H3.out)
              have hrow : w2.ownsRow y0.heap.size 65 3 lv L.length (pgL L) := own_keep HJ.out.2.2.1 H3.out (fun _ _ => by simp)
              have hk02 : Keep [] y0 w2 := HJ.out.2.2.2.trans H3.out
              have hsz := hk02.size
              have HAP1 : Hid (∀ v' w1, w1.ownsRow y0.heap.size 65 3 v' (L.length + 1) (pgL L ++ pgC (pgv, fr, bv)) → (w2.alloc (.cells #[.int .u32 pgv, .int .i64 fr, .int .u32 bv] 65)).grownBy w1 lv.ownBlock → Hid (w1.ownsRow y0.heap.size 65 3 v' (L ++ [(pgv, fr, bv)]).length (pgL (L ++ [(pgv, fr, bv)])) ∧ Keep [] y0 w1)) := Lib.hid (fun v' w1 ho hgr => Lib.hid (app_page (pgv, fr, bv) (Nat.le_refl _) hrow hk02 ho hgr))
              go_upto_region 17 with (at_builtin; refine wpList_append_own _ rfl _ _ 43 rfl y0.heap.size 65 i0 (.agg #[.int .u32 0, .int .i64 0, .int .u32 0]) 3 24 Try.underlying43 hi hz0 hz1 hz2 rfl (by decide) _ _ _ rfl (hrow.alloc _) ⟨w2.heap.size, 0, none⟩ 1 1 (pgC (pgv, fr, bv)) rfl rfl (cells_three_new _ _ _ _ _) (by simp [pgC, Value.oneCell']) (by unfold maxLen; omega) (by omega) (by simp; omega) ?_; intro v' w1 hown' hgrow _; have HG1 := HAP1.out _ _ hown' hgrow; clear hown' hgrow)
              rename World => w3
              rename Value => v3
              clear e1 hq0 hq1 hq2 p0 p1 p2 hrow hk02 hsz
              obtain ⟨e1, ⟨hq0, hq1, hq2⟩, p0, p1, p2⟩ := HQ2.out w3 HG1.out.2
              have hrow := HG1.out.1
              have hsz := HG1.out.2.size
              have HAP : Hid (∀ v' w1, w1.ownsRow y0.heap.size 65 3 v' ((L ++ [(pgv, fr, bv)]).length + 1) (pgL (L ++ [(pgv, fr, bv)]) ++ pgC (qa, qf, qb)) → (w3.alloc (.cells #[.int .u32 qa, .int .i64 qf, .int .u32 qb] 65)).grownBy w1 v3.ownBlock → Hid ((true = true → (L ++ [(pgv, fr, bv)] ++ [(qa, qf, qb)]) = insP (pgv, fr, bv) (ps1.take (k + 1)) ∧ ∃ q ∈ ps1.take (k + 1), pgv < q.1) ∧ (true = false → (L ++ [(pgv, fr, bv)] ++ [(qa, qf, qb)]) = ps1.take (k + 1) ∧ ∀ q ∈ ps1.take (k + 1), ¬ (pgv < q.1)) ∧ w1.ownsRow y0.heap.size 65 3 v' (L ++ [(pgv, fr, bv)] ++ [(qa, qf, qb)]).length (pgL (L ++ [(pgv, fr, bv)] ++ [(qa, qf, qb)])) ∧ Keep [] y0 w1)) := Lib.hid (fun v' w1 ho hgr => Lib.hid ⟨fun _ => HA.out, (by intro h; cases h), app_page (qa, qf, qb) (Nat.le_refl _) hrow HG1.out.2 ho hgr⟩)
              have hLl : (L ++ [(pgv, fr, bv)]).length ≤ 1000 := by rw [List.length_append]; have := HLk.out; simp; omega
              go_wp2_with (at_builtin; refine wpList_append_own _ rfl _ _ 43 rfl y0.heap.size 65 i0 (.agg #[.int .u32 0, .int .i64 0, .int .u32 0]) 3 24 Try.underlying43 hi hz0 hz1 hz2 rfl (by decide) _ _ _ rfl (hrow.alloc _) ⟨w3.heap.size, 0, none⟩ 1 1 (pgC (qa, qf, qb)) rfl rfl (cells_three_new _ _ _ _ _) (by simp [pgC, Value.oneCell']) (by unfold maxLen; omega) (by omega) (by simp; omega) ?_; intro v' w1 hown' hgrow _; have HG := HAP.out _ _ hown' hgrow; clear hown' hgrow)
              go_roundw
              case rel => exact ⟨k + 1, L ++ [(pgv, fr, bv)] ++ [(qa, qf, qb)], _, true, rfl, rfl, by go_num, by omega, by have := HLk.out; simp; omega, HG⟩
              case measure => simp [intOf]; omega
            · have HA : Hid ((L ++ [(qa, qf, qb)]) = ps1.take (k + 1) ∧ ∀ q ∈ ps1.take (k + 1), ¬ (pgv < q.1)) := Lib.hid (by
                obtain ⟨h1, h2⟩ := HJ.out.2.1 rfl
                rw [htake.out, ← h1]
                refine ⟨rfl, fun q hq => ?_⟩
                rcases List.mem_append.1 hq with hq | hq
                · exact h2 q (by rw [← h1]; exact hq)
                · have : q = (qa, qf, qb) := by simpa using hq
                  rw [this]; exact hgt)
              have HDF : Hid (decide (pgv < qa) = false) := Lib.hid (decide_eq_false hgt)
              clear hgt
              go_wp2_with fail
              go_quiet (fail)
              rw [HDF.out]
              generalize hd : World.drewN wo _ = w2
              have H3 : Hid (Keep [] wo w2) := Lib.hid (by subst hd; exact (Keep.refl _ _).drewN _)
              clear hd hq0 hq1 hq2 e0 e1 p0
              obtain ⟨e1, ⟨hq0, hq1, hq2⟩, p0, p1, p2⟩ := HQ2.out w2 (HJ.out.2.2.2.trans H3.out)
              have hrow : w2.ownsRow y0.heap.size 65 3 lv L.length (pgL L) := own_keep HJ.out.2.2.1 H3.out (fun _ _ => by simp)
              have hk02 : Keep [] y0 w2 := HJ.out.2.2.2.trans H3.out
              have hsz := hk02.size
              have HAP : Hid (∀ v' w1, w1.ownsRow y0.heap.size 65 3 v' (L.length + 1) (pgL L ++ pgC (qa, qf, qb)) → (w2.alloc (.cells #[.int .u32 qa, .int .i64 qf, .int .u32 qb] 65)).grownBy w1 lv.ownBlock → Hid ((false = true → (L ++ [(qa, qf, qb)]) = insP (pgv, fr, bv) (ps1.take (k + 1)) ∧ ∃ q ∈ ps1.take (k + 1), pgv < q.1) ∧ (false = false → (L ++ [(qa, qf, qb)]) = ps1.take (k + 1) ∧ ∀ q ∈ ps1.take (k + 1), ¬ (pgv < q.1)) ∧ w1.ownsRow y0.heap.size 65 3 v' (L ++ [(qa, qf, qb)]).length (pgL (L ++ [(qa, qf, qb)])) ∧ Keep [] y0 w1)) := Lib.hid (fun v' w1 ho hgr => Lib.hid ⟨(by intro h; cases h), fun _ => HA.out, app_page (qa, qf, qb) (Nat.le_refl _) hrow hk02 ho hgr⟩)
              go_wp2_with (at_builtin; refine wpList_append_own _ rfl _ _ 43 rfl y0.heap.size 65 i0 (.agg #[.int .u32 0, .int .i64 0, .int .u32 0]) 3 24 Try.underlying43 hi hz0 hz1 hz2 rfl (by decide) _ _ _ rfl (hrow.alloc _) ⟨w2.heap.size, 0, none⟩ 1 1 (pgC (qa, qf, qb)) rfl rfl (cells_three_new _ _ _ _ _) (by simp [pgC, Value.oneCell']) (by unfold maxLen; omega) (by omega) (by simp; omega) ?_; intro v' w1 hown' hgrow _; have HG := HAP.out _ _ hown' hgrow; clear hown' hgrow)
              go_roundw
              case rel => exact ⟨k + 1, L ++ [(qa, qf, qb)], _, false, rfl, rfl, by go_num, by omega, by simp; omega, HG⟩
              case measure => simp [intOf]; omega
          · have HA : Hid ((L ++ [(qa, qf, qb)]) = insP (pgv, fr, bv) (ps1.take (k + 1)) ∧ ∃ q ∈ ps1.take (k + 1), pgv < q.1) := Lib.hid (by
              obtain ⟨h1, h2⟩ := HJ.out.1 rfl
              rw [htake.out, insP_laid (p := (pgv, fr, bv)) h2, ← h1]
              obtain ⟨q, hq, hq'⟩ := h2
              exact ⟨rfl, q, by simp [hq], hq'⟩)
            go_wp2_with fail
            go_quiet (fail)
            generalize hd : World.drewN wo _ = w2
            have H3 : Hid (Keep [] wo w2) := Lib.hid (by subst hd; exact (Keep.refl _ _).drewN _)
            clear hd hq0 hq1 hq2 e0 e1 p0
            obtain ⟨e1, ⟨hq0, hq1, hq2⟩, p0, p1, p2⟩ := HQ2.out w2 (HJ.out.2.2.2.trans H3.out)
            have hrow : w2.ownsRow y0.heap.size 65 3 lv L.length (pgL L) := own_keep HJ.out.2.2.1 H3.out (fun _ _ => by simp)
            have hk02 : Keep [] y0 w2 := HJ.out.2.2.2.trans H3.out
            have hsz := hk02.size
            have HAP : Hid (∀ v' w1, w1.ownsRow y0.heap.size 65 3 v' (L.length + 1) (pgL L ++ pgC (qa, qf, qb)) → (w2.alloc (.cells #[.int .u32 qa, .int .i64 qf, .int .u32 qb] 65)).grownBy w1 lv.ownBlock → Hid ((true = true → (L ++ [(qa, qf, qb)]) = insP (pgv, fr, bv) (ps1.take (k + 1)) ∧ ∃ q ∈ ps1.take (k + 1), pgv < q.1) ∧ (true = false → (L ++ [(qa, qf, qb)]) = ps1.take (k + 1) ∧ ∀ q ∈ ps1.take (k + 1), ¬ (pgv < q.1)) ∧ w1.ownsRow y0.heap.size 65 3 v' (L ++ [(qa, qf, qb)]).length (pgL (L ++ [(qa, qf, qb)])) ∧ Keep [] y0 w1)) := Lib.hid (fun v' w1 ho hgr => Lib.hid ⟨fun _ => HA.out, (by intro h; cases h), app_page (qa, qf, qb) (Nat.le_refl _) hrow hk02 ho hgr⟩)
            go_wp2_with (at_builtin; refine wpList_append_own _ rfl _ _ 43 rfl y0.heap.size 65 i0 (.agg #[.int .u32 0, .int .i64 0, .int .u32 0]) 3 24 Try.underlying43 hi hz0 hz1 hz2 rfl (by decide) _ _ _ rfl (hrow.alloc _) ⟨w2.heap.size, 0, none⟩ 1 1 (pgC (qa, qf, qb)) rfl rfl (cells_three_new _ _ _ _ _) (by simp [pgC, Value.oneCell']) (by unfold maxLen; omega) (by omega) (by simp; omega) ?_; intro v' w1 hown' hgrow _; have HG := HAP.out _ _ hown' hgrow; clear hown' hgrow)
            go_roundw
            case rel => exact ⟨k + 1, L ++ [(qa, qf, qb)], _, true, rfl, rfl, by go_num, by omega, by simp; omega, HG⟩
            case measure => simp [intOf]; omega
        · have hk3 : ¬ ((k : Int) < (ps1.length : Int)) := by omega
          have HFIN : Hid (∀ (la : Option Addr) (lc len : Nat) wF, len = (insP (pgv, fr, bv) ps1).length → wF.ownsRow y0.heap.size 65 3 (.slice la len lc) len (pgL (insP (pgv, fr, bv) ps1)) → Keep [] y0 wF → (wF.cell? ⟨wb, 1, none⟩ = some (.slice pa ps1.length pc) ∧ wF.frozen? ⟨wb, 1, none⟩ = false) ∧ RPut wb most ps ts tv va fr bb x (.returned (.bool true)) (wF.setCell ⟨wb, 1, none⟩ (.slice la len lc))) := Lib.hid (fun la lc len wF hlen ho hk => by
            subst hlen
            have hRF := (HRS.out wF hk).1
            have hwb : wb < y0.heap.size := lt_of_heap (HRS.out y0 (Keep.refl _ _)).1.blk
            have hks : Keep [wb] wF (wF.setCell ⟨wb, 1, none⟩ (.slice la (insP (pgv, fr, bv) ps1).length lc)) := keepSet (Keep.refl _ _) (by simp) _ _
            refine ⟨⟨hRF.cells.2.1, frozen_of hRF.blk 1⟩, H1.out.2.trans ((Keep.upTo (H2.out.2.1.trans hk) (by simp)).trans (Keep.upTo hks (by simp))), .inr (.inr ⟨hva, by omega, by omega, by rw [← HN.out]; exact HI.out, rfl, .slice la (insP (pgv, fr, bv) ps1).length lc, tv2, ?_⟩)⟩
            obtain ⟨q1, q2, q3⟩ := HPS.out
            rw [Int.toNat_natCast, ← q1, ← q3, ← HN.out, ← HT.out, q1, ← q2, ← q1]
            refine ⟨heap_set_same hRF.blk 1 _, ?_, own_keep hRF.trow hks (fun g hg => by have := own_block hRF.trow hg; simp; omega)⟩
            exact own_keep (own_base ho (by omega)) hks (fun g hg => by have := own_block ho hg; simp; omega))
          have htk : Hid (ps1.take k = ps1) := Lib.hid (List.take_of_length_le (by omega))
          obtain ⟨la, lc, rfl⟩ := own_form HJ.out.2.2.1
          clear hbx
          cases laid
          · have HL : Hid (L ++ [(pgv, fr, bv)] = insP (pgv, fr, bv) ps1) := Lib.hid (by
              obtain ⟨h1, h2⟩ := HJ.out.2.1 rfl
              rw [htk.out] at h1 h2
              rw [h1, insP_end (p := (pgv, fr, bv)) h2])
            obtain ⟨-, hbx⟩ := HRS.out wo HJ.out.2.2.2
            have p0 : wo.cell? ⟨px, 0, none⟩ = some (.int .u32 pgv) := cell_of hbx 0 rfl
            have p1 : wo.cell? ⟨px, 1, none⟩ = some (.int .i64 fr) := cell_of hbx 1 rfl
            have p2 : wo.cell? ⟨px, 2, none⟩ = some (.int .u32 bv) := cell_of hbx 2 rfl
            have hrow := HJ.out.2.2.1
            have hsz := HJ.out.2.2.2.size
            have HAP1 : Hid (∀ v' w1, w1.ownsRow y0.heap.size 65 3 v' (L.length + 1) (pgL L ++ pgC (pgv, fr, bv)) → (wo.alloc (.cells #[.int .u32 pgv, .int .i64 fr, .int .u32 bv] 65)).grownBy w1 (Value.slice la L.length lc).ownBlock → Hid (w1.ownsRow y0.heap.size 65 3 v' (L ++ [(pgv, fr, bv)]).length (pgL (L ++ [(pgv, fr, bv)])) ∧ Keep [] y0 w1)) := Lib.hid (fun v' w1 ho hgr => Lib.hid (app_page (pgv, fr, bv) (Nat.le_refl _) hrow HJ.out.2.2.2 ho hgr))
            have hLl : L.length ≤ 950 := by omega
            clear hbx hk1
            go_upto_region 20 with (at_builtin; refine wpList_append_own _ rfl _ _ 43 rfl y0.heap.size 65 i0 (.agg #[.int .u32 0, .int .i64 0, .int .u32 0]) 3 24 Try.underlying43 hi hz0 hz1 hz2 rfl (by decide) _ _ _ rfl (hrow.alloc _) ⟨wo.heap.size, 0, none⟩ 1 1 (pgC (pgv, fr, bv)) rfl rfl (cells_three_new _ _ _ _ _) (by simp [pgC, Value.oneCell']) (by unfold maxLen; omega) (by omega) (by simp; omega) ?_; intro v' w1 hown' hgrow _; have HG1 := HAP1.out _ _ hown' hgrow; clear hown' hgrow)
            rename World => w3
            rename Value => v3
            obtain ⟨la3, lc3, rfl⟩ := own_form HG1.out.1
            rw [HL.out] at HG1
            have HF := Lib.hid (HFIN.out la3 lc3 _ w3 rfl HG1.out.1 HG1.out.2)
            clear e0 e1 p0 p1 p2 hrow hsz
            rw [HL.out]
            generalize (insP (pgv, fr, bv) ps1).length = len at HF
            obtain ⟨⟨e1, f1⟩, -⟩ := HF.out
            go_wp2_with fail
            go_ret
            exact HF.out.2
          · have HL : Hid (L = insP (pgv, fr, bv) ps1) := Lib.hid (by
              have := (HJ.out.1 rfl).1
              rw [htk.out] at this
              exact this)
            have HF := Lib.hid (HFIN.out la lc L.length wo (by rw [HL.out]) (by rw [← HL.out]; exact HJ.out.2.2.1) HJ.out.2.2.2)
            obtain ⟨⟨-, f1⟩, -⟩ := HF.out
            clear hk1
            go_wp2_with fail
            go_ret
            exact HF.out.2
end Go.Proofs.Ytpinoejckagjbaa
