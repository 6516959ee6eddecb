/- Contracts of the functions that the law reaches, walked, and the plain laws on them (several texts in one). -/
import Derived.Maps.AppendAt
import Derived.Deep.Cut
import Derived.Deep.CutBlock
import Derived.Deep.DeepCutAuto
import Derived.Outline
import Derived.Test.YtpinoejckagjbaaM28

/- The document's shadow at any place of a row: a page put. -/
namespace Go.Proofs.Ytpinoejckagjbaa
open Go.RowKit Go.Mum
set_option linter.unusedVariables false
set_option linter.unusedSimpArgs false
set_option maxRecDepth 100000

theorem fset_id {f : Nat → Value} {i : Nat} : fset f i (f i) = f := by
  funext j
  by_cases h : j = i
  · rw [h, fset_same]
  · rw [fset_ne h]

theorem fset_twice {f : Nat → Value} {i : Nat} {u v : Value} : fset (fset f i u) i v = fset f i v := by
  funext j
  by_cases h : j = i
  · rw [h, fset_same, fset_same]
  · rw [fset_ne h, fset_ne h, fset_ne h]

/-- What the document's put leaves. -/
def RIPut (B wb wo : Nat) (t : TypeId) (nc : Nat) (f : Nat → Value) (most : Nat) (ps : List Pg) (ts : List Nat) (pv tv : Value) (va : Nat) (frame : Int) (bb : Nat) (x : World) (e : Ending) (y : World) : Prop :=
  KeepTo (fun k => k = wb ∨ tv.ownBlock = some k) x y ∧
  (((32768 ≤ va ∨ frame < 0 ∨ 60 ≤ frame) ∧ e = .returned (.bool false) ∧ RSI y B wb wo t nc f (most : Int) ps ts pv tv) ∨
   (va < 32768 ∧ 0 ≤ frame ∧ frame < 60 ∧ va / 1024 ∉ ts ∧ most ≤ ts.length ∧ e = .returned (.bool false) ∧ RSI y B wb wo t nc f (most : Int) ps ts pv tv) ∨
   (va < 32768 ∧ 0 ≤ frame ∧ frame < 60 ∧ (va / 1024 ∈ ts ∨ ts.length < most) ∧ e = .returned (.bool true) ∧ ∃ pv' tv', RSI y B wb wo t nc (fset (fset f (wo + 2) tv') (wo + 1) pv') (most : Int) (insP (va - va % 64, frame.toNat, bb % 16 / 2 * 2 + 1) (ps.filter (fun q => decide (q.1 ≠ va - va % 64)))) (if va / 1024 ∈ ts then ts else ts ++ [va / 1024]) pv' tv' ∧ (∀ g, pv'.ownBlock = some g → x.heap.size ≤ g) ∧ (∀ g, tv'.ownBlock = some g → tv.ownBlock = some g ∨ x.heap.size ≤ g)))

set_option maxHeartbeats 8000000 in
theorem riput_at {x : World} {B wb wo : Nat} {t : TypeId} {nc : Nat} {f : Nat → Value} {most : Nat} {ps : List Pg} {ts : List Nat} {pv tv : Value} (h : RSI x B wb wo t nc f (most : Int) ps ts pv tv) (hl : ps.length ≤ 900) (htl : ts.length ≤ 900) (hmo : most ≤ 900) (va : Nat) (frame : Int) (bb : Nat) (hv : va < 4294967296) (hf1 : -9223372036854775808 ≤ frame) (hf2 : frame ≤ 9223372036854775807) (hb : bb < 4294967296) :
    Calls Try.prog 52 #[.pointer (some ⟨wb, wo, none⟩), .int .u32 va, .int .i64 frame, .int .u32 bb] x (RIPut B wb wo t nc f most ps ts pv tv va frame bb x) := by
  obtain ⟨c0, c1, c2, c3⟩ := h.cells
  have HR := Lib.hid h
  by_cases hbad : 32768 ≤ va ∨ frame < 0 ∨ 60 ≤ frame
  · have HF : Hid (RIPut B wb wo t nc f most ps ts pv tv va frame bb x (.returned (.bool false)) x) := Lib.hid ⟨KeepTo.refl _ _, .inl ⟨hbad, rfl, h⟩⟩
    clear h
    rcases (by omega : (32768 : Int) ≤ (va : Int) ∨ (¬ ((32768 : Int) ≤ (va : Int)) ∧ frame < 0) ∨ (¬ ((32768 : Int) ≤ (va : Int)) ∧ ¬ (frame < 0) ∧ 60 ≤ frame)) with h1 | ⟨h1, h2⟩ | ⟨h1, h2, h3⟩
    all_goals
      clear hbad
      go_enter Try.func52, Try.ntmps52
      go_wp2_with fail
      go_ret
      exact HF.out
  · obtain ⟨fr, rfl⟩ : ∃ fr : Nat, frame = fr := ⟨frame.toNat, by omega⟩
    have hva : va < 32768 := by omega
    have hf40 : fr < 60 := by omega
    have g1 : ¬ ((32768 : Int) ≤ (va : Int)) := by omega
    have g2 : ¬ ((fr : Int) < 0) := by omega
    have g3 : ¬ ((60 : Int) ≤ (fr : Int)) := by omega
    have g4 : (fr : Int) < 60 := by omega
    obtain ⟨n, hn⟩ : ∃ n, n = va / 1024 := ⟨_, rfl⟩
    have n1 : (va : Int) / 1024 = (n : Int) := by omega
    have n2 : ((va : Int)).tdiv 1024 = (n : Int) := by rw [Int.tdiv_eq_ediv_of_nonneg (by omega)]; exact n1
    have HN := Lib.hid hn
    obtain ⟨i0, hi, hz0, hz1, hz2⟩ := info_parts info_page
    obtain ⟨j0, hj, hy0, hy1, hy2⟩ := info_parts info_u32'
    have CH := Lib.hid (rihas_at h (by omega) n)
    obtain ⟨q, hq⟩ : ∃ q, decide (n ∈ ts) = q := ⟨_, rfl⟩
    rw [hq] at CH
    have HQ := Lib.hid hq
    clear hq
    obtain ⟨ts', hts⟩ : ∃ t, t = if n ∈ ts then ts else ts ++ [n] := ⟨_, rfl⟩
    have HT := Lib.hid hts
    clear hbad hn h hts
    go_enter Try.func52, Try.ntmps52
    go_wp2_with fail
    refine CH.out.mono ?_
    rintro e y ⟨rfl, rfl⟩
    clear g1 g2 g3 g4
    go_upto_if 31 with fail
    go_cut [] (fun wx => Hid (n ∈ ts ∨ ts.length < most) ∧ ∃ tv', Hid (RSI wx B wb wo t nc (fset f (wo + 2) tv') (most : Int) ps ts' pv tv' ∧ KeepTo (fun k => k = wb ∨ tv.ownBlock = some k) x wx ∧ (∀ g, tv'.ownBlock = some g → tv.ownBlock = some g ∨ x.heap.size ≤ g)))
    case first =>
      cases q
      rotate_left
      · have hin : n ∈ ts := of_decide_eq_true HQ.out
        have HT2 : Hid (RSI x B wb wo t nc (fset f (wo + 2) tv) (most : Int) ps ts' pv tv ∧ KeepTo (fun k => k = wb ∨ tv.ownBlock = some k) x x ∧ (∀ g, tv.ownBlock = some g → tv.ownBlock = some g ∨ x.heap.size ≤ g)) := Lib.hid ⟨by rw [HT.out, if_pos hin]; have hv := HR.out.v2; have := HR.out; rw [← hv, fset_id, hv]; exact this, KeepTo.refl _ _, fun g hg => .inl hg⟩
        have HI := Lib.hid (show n ∈ ts ∨ ts.length < most from .inl hin)
        clear hin
        go_wp2_with fail
        go_meet
        case rel => exact ⟨HI, _, HT2⟩
      · have HIN := Lib.hid (of_decide_eq_false HQ.out)
        obtain ⟨ta, tc, htv⟩ := own_form HR.out.trow
        subst htv
        by_cases hfull : most ≤ ts.length
        · have hfi : (most : Int) ≤ (ts.length : Int) := by omega
          have HF : Hid (∀ d, RIPut B wb wo t nc f most ps ts pv (.slice ta ts.length tc) va fr bb x (.returned (.bool false)) (x.drewN d)) := Lib.hid (fun d => by
            have hk : Keep [] x (x.drewN d) := (Keep.refl _ _).drewN _
            exact ⟨Keep.upTo hk (by simp), .inr (.inl ⟨hva, by omega, by omega, by rw [← HN.out]; exact HIN.out, hfull, rfl, HR.out.keep0 hk⟩)⟩)
          clear hfull
          go_wp2_with fail
          go_quiet (fail)
          go_wp2_with fail
          go_ret
          exact HF.out _
        · have hfi : ¬ ((most : Int) ≤ (ts.length : Int)) := by omega
          have HL := Lib.hid (show ts.length < most by omega)
          clear hfull
          have HDL : Hid (decide (most ≤ ts.length) = false) := Lib.hid (decide_eq_false (by have := HL.out; omega))
          go_wp2_with fail
          go_quiet (fail)
          rw [HDL.out]
          generalize hy1' : World.drewN x _ = y1
          have HY : Hid (RSI y1 B wb wo t nc f (most : Int) ps ts pv (.slice ta ts.length tc) ∧ Keep [] x y1) := Lib.hid (by
            have hk : Keep [] x y1 := by subst hy1'; exact (Keep.refl _ _).drewN _
            exact ⟨HR.out.keep0 hk, hk⟩)
          clear hy1' c0 c1 c2 c3
          obtain ⟨c0, c1, c2, c3⟩ := HY.out.1.cells
          have hrow := HY.out.1.trow
          have HAP : Hid (∀ v' w1, w1.ownsRow B 22 1 v' (ts.length + 1) (ts.map (fun z => .int .u32 (z : Nat)) ++ [.int .u32 n]) → (y1.alloc (.cells #[.int .u32 n] 22)).grownBy w1 (Value.slice ta ts.length tc).ownBlock → (v'.ownBlock = (Value.slice ta ts.length tc).ownBlock ∨ v'.ownBlock = some (y1.heap.size + 1)) → Hid (w1.cell? ⟨wb, wo + 2, none⟩ = some (.slice ta ts.length tc) ∧ w1.frozen? ⟨wb, wo + 2, none⟩ = false ∧ RSI (w1.setCell ⟨wb, wo + 2, none⟩ v') B wb wo t nc (fset f (wo + 2) v') (most : Int) ps ts' pv v' ∧ KeepTo (fun k => k = wb ∨ (Value.slice ta ts.length tc).ownBlock = some k) x (w1.setCell ⟨wb, wo + 2, none⟩ v') ∧ (∀ g, v'.ownBlock = some g → (Value.slice ta ts.length tc).ownBlock = some g ∨ x.heap.size ≤ g))) := Lib.hid (fun v' w1 ho hgr hob => by
            have hwl : wb < y1.heap.size := ArrAt.lt HY.out.1.arr
            have hxs := HY.out.2.size
            obtain ⟨l, hl1, hk⟩ := grown_keepTo hgr
            have hka : Keep l y1 w1 := ((Keep.refl l y1).alloc _).trans hk
            have hnl : wb ∉ l := fun q => HY.out.1.net (hl1 _ q)
            have harr := ArrAt.keep HY.out.1.arr hka hnl
            have hpr : w1.ownsRow B 65 3 pv ps.length (pgL ps) := (HY.out.1.prow.alloc _).kept hgr (by
              cases hpo : pv.ownBlock with
              | none => exact .inl rfl
              | some g => exact .inr (fun hh => own_apart HY.out.1.prow HY.out.1.trow (by decide) hpo hh.symm))
            have hks : Keep [wb] w1 (w1.setCell ⟨wb, wo + 2, none⟩ v') := keepSet (Keep.refl _ _) (by simp) _ _
            have hnv : v'.ownBlock ≠ some wb := by
              rcases hob with h | h
              · rw [h]; exact HY.out.1.net
              · rw [h]; intro q; simp only [Option.some.injEq] at q; omega
            have hts2 : ts' = ts ++ [n] := by rw [HT.out, if_neg HIN.out]
            have hn3 := HY.out.1.hn
            refine Lib.hid ⟨by rw [ArrAt.cell harr (by omega), HY.out.1.v2], ArrAt.frozen harr _, ⟨ArrAt.set harr _ _, hn3, by have := HY.out.1.hB; have := hka.size; have := hks.size; omega, by rw [fset_ne (by omega), HY.out.1.v0], by rw [fset_ne (by omega), HY.out.1.v1], fset_same, by rw [fset_ne (by omega), HY.out.1.v3], own_keep hpr hks (fun g hg => ?_), ?_, HY.out.1.nep, hnv⟩, (Keep.upTo HY.out.2 (by simp)).trans ((Keep.upTo hka (fun k q => .inr (hl1 k q))).trans (Keep.upTo hks (by simp))), fun g hg => ?_⟩
            · simp only [List.mem_singleton]; rintro rfl; exact HY.out.1.nep hg
            · rw [hts2, List.length_append, List.map_append]
              exact own_keep ho hks (fun g hg => by simp only [List.mem_singleton]; rintro rfl; exact hnv hg)
            · rcases hob with h | h
              · exact .inl (by rw [← h]; exact hg)
              · rw [h] at hg; simp only [Option.some.injEq] at hg; exact .inr (by omega))
          have hys : B ≤ y1.heap.size := HY.out.1.hB
          go_wp2_with (at_builtin; refine wpList_append_own_at _ rfl _ _ 44 rfl B 22 j0 (.int .u32 0) 1 4 Try.underlying44 hj hy0 hy1 hy2 rfl (by decide) _ _ _ rfl (hrow.alloc _) ⟨y1.heap.size, 0, none⟩ 1 1 [.int .u32 n] rfl rfl (cell_one_new _ _ _) (by simp [Value.oneCell']) (by unfold maxLen; omega) (by omega) (by simp; omega) ?_; intro v' w1 hown' hgrow _ hob; obtain ⟨ta2, tc2, rfl⟩ := own_form hown'; have HG := HAP.out _ _ hown' hgrow (hob.imp (fun q => q) (fun q => q.trans (by simp))); have e2 := HG.out.1; have f2 := HG.out.2.1; clear hown' hgrow hob)
          have HI := Lib.hid (show n ∈ ts ∨ ts.length < most from .inr HL.out)
          go_meet
          case rel => exact ⟨HI, _, Lib.hid HG.out.2.2⟩
    case rest =>
      obtain ⟨HI, tv2, HW⟩ := hcut
      clear c0 c1 c2 c3
      go_wp2_with fail
      refine (ridrop_at HW.out.1 (by omega) va hv).mono ?_
      rintro e z ⟨⟨v, rfl⟩, pv3, hRz, hfz, hkz⟩
      obtain ⟨pgv, hpg⟩ : ∃ p, p = va - va % 64 := ⟨_, rfl⟩
      obtain ⟨ps1, hps1⟩ : ∃ p, p = ps.filter (fun q => decide (q.1 ≠ va - va % 64)) := ⟨_, rfl⟩
      have hl1 : ps1.length ≤ 900 := by rw [hps1]; exact Nat.le_trans (List.length_filter_le _ _) hl
      obtain ⟨bv, hbv⟩ : ∃ b, b = bb % 16 / 2 * 2 + 1 := ⟨_, rfl⟩
      have H1 : Hid (RSI z B wb wo t nc (fset (fset f (wo + 2) tv2) (wo + 1) pv3) (most : Int) ps1 ts' pv3 tv2 ∧ KeepTo (fun k => k = wb ∨ tv.ownBlock = some k) x z) := Lib.hid ⟨by rw [hps1]; exact hRz, HW.out.2.1.trans (Keep.upTo hkz (by simp))⟩
      have HPS := Lib.hid (And.intro hpg (And.intro hps1 hbv))
      obtain ⟨m, hm⟩ : ∃ m, m = va % 64 := ⟨_, rfl⟩
      obtain ⟨b16, hb16⟩ : ∃ m, m = bb % 16 := ⟨_, rfl⟩
      obtain ⟨b8, hb8⟩ : ∃ m, m = b16 / 2 := ⟨_, rfl⟩
      have t1 : ((va : Int)).tmod 64 = (m : Int) := by rw [Int.tmod_eq_emod_of_nonneg (by omega)]; omega
      have u1 : (va : Int) % 64 = (m : Int) := by omega
      have u2 : IntKind.u32.wrap ((va : Int) - (m : Int)) = (pgv : Int) := by rw [IntWalk.u32_in _ (by omega)]; omega
      have t3 : ((bb : Int)).tmod 16 = (b16 : Int) := by rw [Int.tmod_eq_emod_of_nonneg (by omega)]; omega
      have u3 : (bb : Int) % 16 = (b16 : Int) := by omega
      have t4 : ((b16 : Int)).tdiv 2 = (b8 : Int) := by rw [Int.tdiv_eq_ediv_of_nonneg (by omega)]; omega
      have u4 : (b16 : Int) / 2 = (b8 : Int) := by omega
      have u5 : IntKind.u32.wrap ((b8 : Int) * 2) = (b8 : Int) * 2 := IntWalk.u32_in _ (by omega)
      have u6 : IntKind.u32.wrap ((b8 : Int) * 2 + 1) = (bv : Int) := by rw [IntWalk.u32_in _ (by omega)]; omega
      have u7 : (b8 : Int) * 2 + 1 = (bv : Int) := by omega
      clear hRz hfz hkz hpg hps1 hbv hm hb16 hb8 n1 n2
      obtain ⟨pa, pc, hpv⟩ := own_form H1.out.1.prow
      subst hpv
      go_upto_region 9 with fail
      obtain ⟨px, hpx⟩ : ∃ b, b = z.heap.size := ⟨_, rfl⟩
      rw [← hpx]
      generalize hy0' : World.alloc z _ = y0
      have H2 : Hid (y0.heap[px]? = some (.cells #[.int .u32 pgv, .int .i64 fr, .int .u32 bv] 65 (0, 0)) ∧ Keep [] z y0 ∧ px = z.heap.size ∧ px < y0.heap.size) := Lib.hid (by
        subst hy0'
        exact ⟨heap_alloc_at _ hpx, (Keep.refl _ _).alloc _, hpx, by rw [hpx]; simp⟩)
      clear hy0' hpx t1 t3 t4 u1 u2 u3 u4 u5 u6 u7
      have HRS : Hid (∀ w', Keep [] y0 w' → RSI w' B wb wo t nc (fset (fset f (wo + 2) tv2) (wo + 1) (.slice pa ps1.length pc)) (most : Int) ps1 ts' (.slice pa ps1.length pc) tv2 ∧ w'.heap[px]? = some (.cells #[.int .u32 pgv, .int .i64 fr, .int .u32 bv] 65 (0, 0))) := Lib.hid (fun w' hk => ⟨H1.out.1.keep0 (H2.out.2.1.trans hk), hk.heap H2.out.1 (by simp)⟩)
      have HP := Lib.hid (HRS.out y0 (Keep.refl _ _)).1.prow
      have HQK : Hid (∀ (k : Nat) (hk : k < ps1.length) w', Keep [] y0 w' → ∃ g, pa = some ⟨g, 0, none⟩ ∧ w'.cell? ⟨g, k * 3, none⟩ = some (.int .u32 ((ps1[k]).1 : Nat)) ∧ w'.cell? ⟨g, k * 3 + 1, none⟩ = some (.int .i64 ((ps1[k]).2.1 : Nat)) ∧ w'.cell? ⟨g, k * 3 + 2, none⟩ = some (.int .u32 ((ps1[k]).2.2 : Nat))) := Lib.hid (fun k hk w' hkw => by
        obtain ⟨g, hg1, hg⟩ := own_some HP.out (by omega)
        have hq0 := hg (k * 3 + 0) (by omega)
        have hq1 := hg (k * 3 + 1) (by omega)
        have hq2 := hg (k * 3 + 2) (by omega)
        rw [pgL_get ps1 k hk _ (by omega)] at hq0 hq1 hq2
        exact ⟨g, hg1, hkw.cell hq0 (by simp), hkw.cell hq1 (by simp), hkw.cell hq2 (by simp)⟩)
      obtain ⟨c0, c1, -, -⟩ := (HRS.out y0 (Keep.refl _ _)).1.cells
      go_wp2_with fail
      go_loopw [10, 11, 12] (fun lv0 fv kv wr => ∃ (k : Nat) (L : List Pg) (lv : Value) (laid : Bool), lv = lv0 ∧ fv = .bool laid ∧ kv = .int .i64 k ∧ k ≤ ps1.length ∧ L.length ≤ k + 1 ∧ Hid ((laid = true → L = insP (pgv, fr, bv) (ps1.take k) ∧ ∃ q ∈ ps1.take k, pgv < q.1) ∧ (laid = false → L = ps1.take k ∧ ∀ q ∈ ps1.take k, ¬ (pgv < q.1)) ∧ wr.ownsRow y0.heap.size 65 3 lv L.length (pgL L) ∧ Keep [] y0 wr)) (fun _ _ kv _ => ps1.length - (intOf kv).toNat)
      case atStart => exact ⟨0, [], _, false, rfl, rfl, rfl, by omega, by simp, Lib.hid ⟨by simp, by simp, World.ownsRow_nil _ _ _ _, Keep.refl _ _⟩⟩
      case round =>
        obtain ⟨k, L, lv, laid, rfl, rfl, rfl, hk1, hL, HJ⟩ := hrel
        rename World => wq
        obtain ⟨e0, e1, -, -⟩ := (HRS.out wq HJ.out.2.2.2).1.cells
        have hbx := (HRS.out wq HJ.out.2.2.2).2
        clear c0 c1
        by_cases hkl : k < ps1.length
        · obtain ⟨g, rfl, hy0q, hy1q, hy2q⟩ := HQK.out k hkl y0 (Keep.refl _ _)
          have HQ2 : Hid (∀ w', Keep [] y0 w' → (w'.cell? ⟨wb, wo + 1, none⟩ = some (.slice (some ⟨g, 0, none⟩) ps1.length pc)) ∧ (w'.cell? ⟨g, k * 3, none⟩ = some (.int .u32 ((ps1[k]).1 : Nat)) ∧ w'.cell? ⟨g, k * 3 + 1, none⟩ = some (.int .i64 ((ps1[k]).2.1 : Nat)) ∧ w'.cell? ⟨g, k * 3 + 2, none⟩ = some (.int .u32 ((ps1[k]).2.2 : Nat))) ∧ (w'.cell? ⟨px, 0, none⟩ = some (.int .u32 pgv) ∧ w'.cell? ⟨px, 1, none⟩ = some (.int .i64 fr) ∧ w'.cell? ⟨px, 2, none⟩ = some (.int .u32 bv))) := Lib.hid (fun w' hk => by
            have hb := (HRS.out w' hk).2
            exact ⟨(HRS.out w' hk).1.cells.2.1, ⟨hk.cell hy0q (by simp), hk.cell hy1q (by simp), hk.cell hy2q (by simp)⟩, cell_of hb 0 rfl, cell_of hb 1 rfl, cell_of hb 2 rfl⟩)
          have p0 : wq.cell? ⟨px, 0, none⟩ = some (.int .u32 pgv) := cell_of hbx 0 rfl
          have hk0 : (0 : Int) ≤ (k : Int) := by omega
          have hk3 : (k : Int) < (ps1.length : Int) := by omega
          have htake : Hid (ps1.take (k + 1) = ps1.take k ++ [ps1[k]]) := Lib.hid (by rw [List.take_add_one, List.getElem?_eq_getElem hkl]; rfl)
          clear hy0q hy1q hy2q
          generalize ps1[k] = q at HQ2 htake
          obtain ⟨qa, qf, qb⟩ := q
          simp only at HQ2
          obtain ⟨-, ⟨hq0, hq1, hq2⟩, -⟩ := HQ2.out wq HJ.out.2.2.2
          clear hbx
          cases laid
          · by_cases hgt : pgv < qa
            · have HA : Hid ((L ++ [(pgv, fr, bv)] ++ [(qa, qf, qb)]) = insP (pgv, fr, bv) (ps1.take (k + 1)) ∧ ∃ q ∈ ps1.take (k + 1), pgv < q.1) := Lib.hid (by
                obtain ⟨h1, h2⟩ := HJ.out.2.1 rfl
                rw [htake.out, insP_new (p := (pgv, fr, bv)) (r := (qa, qf, qb)) hgt h2, ← h1]
                exact ⟨rfl, (qa, qf, qb), by simp, hgt⟩)
              have HLk : Hid (L.length ≤ k) := Lib.hid (by
                have := (HJ.out.2.1 rfl).1
                rw [this]; exact Nat.le_trans (List.length_take_le _ _) (Nat.le_refl _))
              have HDF : Hid (decide (pgv < qa) = true) := Lib.hid (decide_eq_true hgt)
              clear hgt
              go_wp2_with fail
              go_quiet (fail)
              rw [HDF.out]
              generalize hd : World.drewN wq _ = w2
              have H3 : Hid (Keep [] wq w2) := Lib.hid (by subst hd; exact (Keep.refl _ _).drewN _)
              clear hd hq0 hq1 hq2 e0 e1 p0
              obtain ⟨e1, ⟨hq0, hq1, hq2⟩, p0, p1, p2⟩ := HQ2.out w2 (HJ.out.2.2.2.trans H3.out)
              have hrow : w2.ownsRow y0.heap.size 65 3 lv L.length (pgL L) := own_keep HJ.out.2.2.1 H3.out (fun _ _ => by simp)
              have hk02 : Keep [] y0 w2 := HJ.out.2.2.2.trans H3.out
              have hsz := hk02.size
              have HAP1 : Hid (∀ v' w1, w1.ownsRow y0.heap.size 65 3 v' (L.length + 1) (pgL L ++ pgC (pgv, fr, bv)) → (w2.alloc (.cells #[.int .u32 pgv, .int .i64 fr, .int .u32 bv] 65)).grownBy w1 lv.ownBlock → Hid (w1.ownsRow y0.heap.size 65 3 v' (L ++ [(pgv, fr, bv)]).length (pgL (L ++ [(pgv, fr, bv)])) ∧ Keep [] y0 w1)) := Lib.hid (fun v' w1 ho hgr => Lib.hid (app_page (pgv, fr, bv) (Nat.le_refl _) hrow hk02 ho hgr))
              go_upto_region 17 with (at_builtin; refine wpList_append_own _ rfl _ _ 43 rfl y0.heap.size 65 i0 (.agg #[.int .u32 0, .int .i64 0, .int .u32 0]) 3 24 Try.underlying43 hi hz0 hz1 hz2 rfl (by decide) _ _ _ rfl (hrow.alloc _) ⟨w2.heap.size, 0, none⟩ 1 1 (pgC (pgv, fr, bv)) rfl rfl (cells_three_new _ _ _ _ _) (by simp [pgC, Value.oneCell']) (by unfold maxLen; omega) (by omega) (by simp; omega) ?_; intro v' w1 hown' hgrow _; have HG1 := HAP1.out _ _ hown' hgrow; clear hown' hgrow)
              rename World => w3
              rename Value => v3
              clear e1 hq0 hq1 hq2 p0 p1 p2 hrow hk02 hsz
              obtain ⟨e1, ⟨hq0, hq1, hq2⟩, p0, p1, p2⟩ := HQ2.out w3 HG1.out.2
              have hrow := HG1.out.1
              have hsz := HG1.out.2.size
              have HAP : Hid (∀ v' w1, w1.ownsRow y0.heap.size 65 3 v' ((L ++ [(pgv, fr, bv)]).length + 1) (pgL (L ++ [(pgv, fr, bv)]) ++ pgC (qa, qf, qb)) → (w3.alloc (.cells #[.int .u32 qa, .int .i64 qf, .int .u32 qb] 65)).grownBy w1 v3.ownBlock → Hid ((true = true → (L ++ [(pgv, fr, bv)] ++ [(qa, qf, qb)]) = insP (pgv, fr, bv) (ps1.take (k + 1)) ∧ ∃ q ∈ ps1.take (k + 1), pgv < q.1) ∧ (true = false → (L ++ [(pgv, fr, bv)] ++ [(qa, qf, qb)]) = ps1.take (k + 1) ∧ ∀ q ∈ ps1.take (k + 1), ¬ (pgv < q.1)) ∧ w1.ownsRow y0.heap.size 65 3 v' (L ++ [(pgv, fr, bv)] ++ [(qa, qf, qb)]).length (pgL (L ++ [(pgv, fr, bv)] ++ [(qa, qf, qb)])) ∧ Keep [] y0 w1)) := Lib.hid (fun v' w1 ho hgr => Lib.hid ⟨fun _ => HA.out, (by intro h; cases h), app_page (qa, qf, qb) (Nat.le_refl _) hrow HG1.out.2 ho hgr⟩)
              have hLl : (L ++ [(pgv, fr, bv)]).length ≤ 1000 := by rw [List.length_append]; have := HLk.out; simp; omega
              go_wp2_with (at_builtin; refine wpList_append_own _ rfl _ _ 43 rfl y0.heap.size 65 i0 (.agg #[.int .u32 0, .int .i64 0, .int .u32 0]) 3 24 Try.underlying43 hi hz0 hz1 hz2 rfl (by decide) _ _ _ rfl (hrow.alloc _) ⟨w3.heap.size, 0, none⟩ 1 1 (pgC (qa, qf, qb)) rfl rfl (cells_three_new _ _ _ _ _) (by simp [pgC, Value.oneCell']) (by unfold maxLen; omega) (by omega) (by simp; omega) ?_; intro v' w1 hown' hgrow _; have HG := HAP.out _ _ hown' hgrow; clear hown' hgrow)
              go_roundw
              case rel => exact ⟨k + 1, L ++ [(pgv, fr, bv)] ++ [(qa, qf, qb)], _, true, rfl, rfl, by go_num, by omega, by have := HLk.out; simp; omega, HG⟩
              case measure => simp [intOf]; omega
            · have HA : Hid ((L ++ [(qa, qf, qb)]) = ps1.take (k + 1) ∧ ∀ q ∈ ps1.take (k + 1), ¬ (pgv < q.1)) := Lib.hid (by
                obtain ⟨h1, h2⟩ := HJ.out.2.1 rfl
                rw [htake.out, ← h1]
                refine ⟨rfl, fun q hq => ?_⟩
                rcases List.mem_append.1 hq with hq | hq
                · exact h2 q (by rw [← h1]; exact hq)
                · have : q = (qa, qf, qb) := by simpa using hq
                  rw [this]; exact hgt)
              have HDF : Hid (decide (pgv < qa) = false) := Lib.hid (decide_eq_false hgt)
              clear hgt
              go_wp2_with fail
              go_quiet (fail)
              rw [HDF.out]
              generalize hd : World.drewN wq _ = w2
              have H3 : Hid (Keep [] wq w2) := Lib.hid (by subst hd; exact (Keep.refl _ _).drewN _)
              clear hd hq0 hq1 hq2 e0 e1 p0
              obtain ⟨e1, ⟨hq0, hq1, hq2⟩, p0, p1, p2⟩ := HQ2.out w2 (HJ.out.2.2.2.trans H3.out)
              have hrow : w2.ownsRow y0.heap.size 65 3 lv L.length (pgL L) := own_keep HJ.out.2.2.1 H3.out (fun _ _ => by simp)
              have hk02 : Keep [] y0 w2 := HJ.out.2.2.2.trans H3.out
              have hsz := hk02.size
              have HAP : Hid (∀ v' w1, w1.ownsRow y0.heap.size 65 3 v' (L.length + 1) (pgL L ++ pgC (qa, qf, qb)) → (w2.alloc (.cells #[.int .u32 qa, .int .i64 qf, .int .u32 qb] 65)).grownBy w1 lv.ownBlock → Hid ((false = true → (L ++ [(qa, qf, qb)]) = insP (pgv, fr, bv) (ps1.take (k + 1)) ∧ ∃ q ∈ ps1.take (k + 1), pgv < q.1) ∧ (false = false → (L ++ [(qa, qf, qb)]) = ps1.take (k + 1) ∧ ∀ q ∈ ps1.take (k + 1), ¬ (pgv < q.1)) ∧ w1.ownsRow y0.heap.size 65 3 v' (L ++ [(qa, qf, qb)]).length (pgL (L ++ [(qa, qf, qb)])) ∧ Keep [] y0 w1)) := Lib.hid (fun v' w1 ho hgr => Lib.hid ⟨(by intro h; cases h), fun _ => HA.out, app_page (qa, qf, qb) (Nat.le_refl _) hrow hk02 ho hgr⟩)
              go_wp2_with (at_builtin; refine wpList_append_own _ rfl _ _ 43 rfl y0.heap.size 65 i0 (.agg #[.int .u32 0, .int .i64 0, .int .u32 0]) 3 24 Try.underlying43 hi hz0 hz1 hz2 rfl (by decide) _ _ _ rfl (hrow.alloc _) ⟨w2.heap.size, 0, none⟩ 1 1 (pgC (qa, qf, qb)) rfl rfl (cells_three_new _ _ _ _ _) (by simp [pgC, Value.oneCell']) (by unfold maxLen; omega) (by omega) (by simp; omega) ?_; intro v' w1 hown' hgrow _; have HG := HAP.out _ _ hown' hgrow; clear hown' hgrow)
              go_roundw
              case rel => exact ⟨k + 1, L ++ [(qa, qf, qb)], _, false, rfl, rfl, by go_num, by omega, by simp; omega, HG⟩
              case measure => simp [intOf]; omega
          · have HA : Hid ((L ++ [(qa, qf, qb)]) = insP (pgv, fr, bv) (ps1.take (k + 1)) ∧ ∃ q ∈ ps1.take (k + 1), pgv < q.1) := Lib.hid (by
              obtain ⟨h1, h2⟩ := HJ.out.1 rfl
              rw [htake.out, insP_laid (p := (pgv, fr, bv)) h2, ← h1]
              obtain ⟨q, hq, hq'⟩ := h2
              exact ⟨rfl, q, by simp [hq], hq'⟩)
            go_wp2_with fail
            go_quiet (fail)
            generalize hd : World.drewN wq _ = w2
            have H3 : Hid (Keep [] wq w2) := Lib.hid (by subst hd; exact (Keep.refl _ _).drewN _)
            clear hd hq0 hq1 hq2 e0 e1 p0
            obtain ⟨e1, ⟨hq0, hq1, hq2⟩, p0, p1, p2⟩ := HQ2.out w2 (HJ.out.2.2.2.trans H3.out)
            have hrow : w2.ownsRow y0.heap.size 65 3 lv L.length (pgL L) := own_keep HJ.out.2.2.1 H3.out (fun _ _ => by simp)
            have hk02 : Keep [] y0 w2 := HJ.out.2.2.2.trans H3.out
            have hsz := hk02.size
            have HAP : Hid (∀ v' w1, w1.ownsRow y0.heap.size 65 3 v' (L.length + 1) (pgL L ++ pgC (qa, qf, qb)) → (w2.alloc (.cells #[.int .u32 qa, .int .i64 qf, .int .u32 qb] 65)).grownBy w1 lv.ownBlock → Hid ((true = true → (L ++ [(qa, qf, qb)]) = insP (pgv, fr, bv) (ps1.take (k + 1)) ∧ ∃ q ∈ ps1.take (k + 1), pgv < q.1) ∧ (true = false → (L ++ [(qa, qf, qb)]) = ps1.take (k + 1) ∧ ∀ q ∈ ps1.take (k + 1), ¬ (pgv < q.1)) ∧ w1.ownsRow y0.heap.size 65 3 v' (L ++ [(qa, qf, qb)]).length (pgL (L ++ [(qa, qf, qb)])) ∧ Keep [] y0 w1)) := Lib.hid (fun v' w1 ho hgr => Lib.hid ⟨fun _ => HA.out, (by intro h; cases h), app_page (qa, qf, qb) (Nat.le_refl _) hrow hk02 ho hgr⟩)
            go_wp2_with (at_builtin; refine wpList_append_own _ rfl _ _ 43 rfl y0.heap.size 65 i0 (.agg #[.int .u32 0, .int .i64 0, .int .u32 0]) 3 24 Try.underlying43 hi hz0 hz1 hz2 rfl (by decide) _ _ _ rfl (hrow.alloc _) ⟨w2.heap.size, 0, none⟩ 1 1 (pgC (qa, qf, qb)) rfl rfl (cells_three_new _ _ _ _ _) (by simp [pgC, Value.oneCell']) (by unfold maxLen; omega) (by omega) (by simp; omega) ?_; intro v' w1 hown' hgrow _; have HG := HAP.out _ _ hown' hgrow; clear hown' hgrow)
            go_roundw
            case rel => exact ⟨k + 1, L ++ [(qa, qf, qb)], _, true, rfl, rfl, by go_num, by omega, by simp; omega, HG⟩
            case measure => simp [intOf]; omega
        · have hk3 : ¬ ((k : Int) < (ps1.length : Int)) := by omega
          have HFIN : Hid (∀ (la : Option Addr) (lc len : Nat) wF, len = (insP (pgv, fr, bv) ps1).length → wF.ownsRow y0.heap.size 65 3 (.slice la len lc) len (pgL (insP (pgv, fr, bv) ps1)) → Keep [] y0 wF → (wF.cell? ⟨wb, wo + 1, none⟩ = some (.slice pa ps1.length pc) ∧ wF.frozen? ⟨wb, wo + 1, none⟩ = false) ∧ RIPut B wb wo t nc f most ps ts pv tv va fr bb x (.returned (.bool true)) (wF.setCell ⟨wb, wo + 1, none⟩ (.slice la len lc))) := Lib.hid (fun la lc len wF hlen ho hk => by
            subst hlen
            have hRF := (HRS.out wF hk).1
            have hwb : wb < y0.heap.size := ArrAt.lt (HRS.out y0 (Keep.refl _ _)).1.arr
            have hks : Keep [wb] wF (wF.setCell ⟨wb, wo + 1, none⟩ (.slice la (insP (pgv, fr, bv) ps1).length lc)) := keepSet (Keep.refl _ _) (by simp) _ _
            have hzs := H2.out.2.1.size
            have hxz : x.heap.size ≤ z.heap.size := by obtain ⟨l, _, hk⟩ := H1.out.2; exact hk.size
            have hfr : ∀ g, (Value.slice la (insP (pgv, fr, bv) ps1).length lc).ownBlock = some g → y0.heap.size ≤ g := fun g hg => (own_block ho hg).1
            have hRN := hRF.setp (own_base ho (by have := (HRS.out y0 (Keep.refl _ _)).1.hB; omega)) (fun hg => by have := hfr _ hg; omega)
            rw [fset_twice] at hRN
            refine ⟨⟨hRF.cells.2.1, ArrAt.frozen hRF.arr _⟩, H1.out.2.trans ((Keep.upTo (H2.out.2.1.trans hk) (by simp)).trans (Keep.upTo hks (by simp))), .inr (.inr ⟨hva, by omega, by omega, by rw [← HN.out]; exact HI.out, rfl, .slice la (insP (pgv, fr, bv) ps1).length lc, tv2, ?_, fun g hg => by have := hfr g hg; omega, HW.out.2.2⟩)⟩
            obtain ⟨q1, q2, q3⟩ := HPS.out
            rw [Int.toNat_natCast, ← q1, ← q3, ← HN.out, ← HT.out, q1, ← q2, ← q1]
            exact hRN)
          have htk : Hid (ps1.take k = ps1) := Lib.hid (List.take_of_length_le (by omega))
          obtain ⟨la, lc, rfl⟩ := own_form HJ.out.2.2.1
          clear hbx
          cases laid
          · have HL : Hid (L ++ [(pgv, fr, bv)] = insP (pgv, fr, bv) ps1) := Lib.hid (by
              obtain ⟨h1, h2⟩ := HJ.out.2.1 rfl
              rw [htk.out] at h1 h2
              rw [h1, insP_end (p := (pgv, fr, bv)) h2])
            obtain ⟨-, hbx⟩ := HRS.out wq HJ.out.2.2.2
            have p0 : wq.cell? ⟨px, 0, none⟩ = some (.int .u32 pgv) := cell_of hbx 0 rfl
            have p1 : wq.cell? ⟨px, 1, none⟩ = some (.int .i64 fr) := cell_of hbx 1 rfl
            have p2 : wq.cell? ⟨px, 2, none⟩ = some (.int .u32 bv) := cell_of hbx 2 rfl
            have hrow := HJ.out.2.2.1
            have hsz := HJ.out.2.2.2.size
            have HAP1 : Hid (∀ v' w1, w1.ownsRow y0.heap.size 65 3 v' (L.length + 1) (pgL L ++ pgC (pgv, fr, bv)) → (wq.alloc (.cells #[.int .u32 pgv, .int .i64 fr, .int .u32 bv] 65)).grownBy w1 (Value.slice la L.length lc).ownBlock → Hid (w1.ownsRow y0.heap.size 65 3 v' (L ++ [(pgv, fr, bv)]).length (pgL (L ++ [(pgv, fr, bv)])) ∧ Keep [] y0 w1)) := Lib.hid (fun v' w1 ho hgr => Lib.hid (app_page (pgv, fr, bv) (Nat.le_refl _) hrow HJ.out.2.2.2 ho hgr))
            have hLl : L.length ≤ 950 := by omega
            clear hbx hk1
            go_upto_region 20 with (at_builtin; refine wpList_append_own _ rfl _ _ 43 rfl y0.heap.size 65 i0 (.agg #[.int .u32 0, .int .i64 0, .int .u32 0]) 3 24 Try.underlying43 hi hz0 hz1 hz2 rfl (by decide) _ _ _ rfl (hrow.alloc _) ⟨wq.heap.size, 0, none⟩ 1 1 (pgC (pgv, fr, bv)) rfl rfl (cells_three_new _ _ _ _ _) (by simp [pgC, Value.oneCell']) (by unfold maxLen; omega) (by omega) (by simp; omega) ?_; intro v' w1 hown' hgrow _; have HG1 := HAP1.out _ _ hown' hgrow; clear hown' hgrow)
            rename World => w3
            rename Value => v3
            obtain ⟨la3, lc3, rfl⟩ := own_form HG1.out.1
            rw [HL.out] at HG1
            have HF := Lib.hid (HFIN.out la3 lc3 _ w3 rfl HG1.out.1 HG1.out.2)
            clear e0 e1 p0 p1 p2 hrow hsz
            rw [HL.out]
            generalize (insP (pgv, fr, bv) ps1).length = len at HF
            obtain ⟨⟨e1, f1⟩, -⟩ := HF.out
            go_wp2_with fail
            go_ret
            exact HF.out.2
          · have HL : Hid (L = insP (pgv, fr, bv) ps1) := Lib.hid (by
              have := (HJ.out.1 rfl).1
              rw [htk.out] at this
              exact this)
            have HF := Lib.hid (HFIN.out la lc L.length wq (by rw [HL.out]) (by rw [← HL.out]; exact HJ.out.2.2.1) HJ.out.2.2.2)
            obtain ⟨⟨-, f1⟩, -⟩ := HF.out
            clear hk1
            go_wp2_with fail
            go_ret
            exact HF.out.2
end Go.Proofs.Ytpinoejckagjbaa
