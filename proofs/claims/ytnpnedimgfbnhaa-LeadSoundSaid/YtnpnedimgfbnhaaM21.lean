/- Contracts of the functions that the law reaches, walked, and the plain laws on them (several texts in one). -/
import Derived.Outline
import Derived.Deep.Cut
import Derived.Deep.CutBlock
import Derived.Deep.DeepCutAuto
import Derived.Test.YtnpnedimgfbnhaaM20

/- The document's verdict over a way, walked. -/
namespace Go.Proofs.Ytnpnedimgfbnhaa
open Go.RowKit Go.Mum
set_option linter.unusedVariables false
set_option linter.unusedSimpArgs false
set_option maxRecDepth 100000

/-- A verdict in the making. -/
def VB (x : World) (vb : Nat) (act frame bits : Int) (tv : Value) (entry : Int) (soils : Bool) : Prop :=
  x.heap[vb]? = some (.cells #[.int .i64 act, .int .i64 frame, .int .u32 bits, tv, .int .u32 entry, .bool soils, .int .i64 0, .int .u32 0] 63 (0, 0))

theorem keepSet {l : List Nat} {w x : World} (h : Keep l w x) {b : Nat} (hb : b ∈ l) (i : Nat) (v : Value) : Keep l w (x.setCell ⟨b, i, none⟩ v) := h.setCell (.inl hb) v

theorem reads_one' {Y : World} {g : Nat} (x : Int) {t : TypeId} (hg : g = Y.heap.size) : Reads (Y.alloc (.cells #[.int .i64 x] t)) (some ⟨g, 0, none⟩) [x] := by
  subst hg; exact reads_one Y x

theorem reads_two' {Y : World} {g : Nat} (x y : Int) {t : TypeId} (hg : g = Y.heap.size) : Reads (Y.alloc (.cells #[.int .i64 x, .int .i64 y] t)) (some ⟨g, 0, none⟩) [x, y] := by
  subst hg; exact reads_two Y x y

theorem tabs_lt {d t : Nat} (h : t < d) : tabs d t = [(t : Int), (d : Int)] := by unfold tabs; rw [if_neg (by omega), if_pos h]

theorem tabs_eq {t : Nat} : tabs t t = [(t : Int)] := by unfold tabs; rw [if_pos rfl]

theorem tabs_gt {d t : Nat} (h : d < t) : tabs d t = [(d : Int), (t : Int)] := by unfold tabs; rw [if_neg (by omega), if_neg (by omega)]

theorem VB.cells {x : World} {vb : Nat} {act frame bits : Int} {tv : Value} {entry : Int} {soils : Bool} (h : VB x vb act frame bits tv entry soils) :
    (x.cell? ⟨vb, 0, none⟩ = some (.int .i64 act) ∧ x.cell? ⟨vb, 1, none⟩ = some (.int .i64 frame) ∧ x.cell? ⟨vb, 2, none⟩ = some (.int .u32 bits) ∧ x.cell? ⟨vb, 3, none⟩ = some tv ∧ x.cell? ⟨vb, 4, none⟩ = some (.int .u32 entry) ∧ x.cell? ⟨vb, 5, none⟩ = some (.bool soils) ∧ x.cell? ⟨vb, 6, none⟩ = some (.int .i64 0) ∧ x.cell? ⟨vb, 7, none⟩ = some (.int .u32 0)) ∧
    (x.frozen? ⟨vb, 0, none⟩ = false ∧ x.frozen? ⟨vb, 1, none⟩ = false ∧ x.frozen? ⟨vb, 2, none⟩ = false ∧ x.frozen? ⟨vb, 3, none⟩ = false ∧ x.frozen? ⟨vb, 4, none⟩ = false ∧ x.frozen? ⟨vb, 5, none⟩ = false) ∧ vb < x.heap.size :=
  ⟨⟨cell_of h 0 rfl, cell_of h 1 rfl, cell_of h 2 rfl, cell_of h 3 rfl, cell_of h 4 rfl, cell_of h 5 rfl, cell_of h 6 rfl, cell_of h 7 rfl⟩, ⟨frozen_of h 0, frozen_of h 1, frozen_of h 2, frozen_of h 3, frozen_of h 4, frozen_of h 5⟩, lt_of_heap h⟩

set_option maxHeartbeats 8000000 in
theorem rdecide_yes {w : World} {s : Value} {n : Nat} {rd : Nat → Option Nat} {W : Int → Bool} {m1 m2 : Value} (h : DMem w s n rd) (hw : DWat w (.agg #[m1, m2]) W) (f : Nat → Value) (ps cr va : Nat) (kind : Int) (hp : ps < 4294967296) (hc : cr < 4294967296) (hv : va < 4294967296) (hk1 : 1 ≤ kind) (hk2 : kind ≤ 3)
    (b a e d t p : Nat) (hway : wayL rd n cr ps va kind = some (b, a, e, d, t, p)) (hb : b < 4294967296) (hq : toF rd n cr 16 ps va kind = (a, true)) (ha : a < 4294967296) (hpa : p = a / 64)
    (hun : ps / 4 % 2 = 0 → b = 23 ∧ e = 0) (hpg : ps / 4 % 2 = 1 → lookF rd n cr 16 va = some (b, a, e, d, t, p)) (he : e < 4294967296) :
    Calls Try.prog 15 #[.agg #[s], .agg #[f 0, f 1, f 2, f 3, f 4, f 5, f 6, f 7, f 8, .int .u32 ps, .int .u32 cr, f 11, f 12, f 13, f 14, f 15, f 16, f 17, f 18], .agg #[m1, m2], .int .u32 va, .int .i64 kind] w (VerPost (overV W b a e d t p (decide (ps / 4 % 2 = 1)) kind) w) := by
  obtain ⟨sa, sm, sc, rfl⟩ := h.isS
  have HM := Lib.hid h
  have HW := Lib.hid hw
  have HQ := Lib.hid hq
  have HWY := Lib.hid (And.intro hway (And.intro hun hpg))
  clear h hw hq hway hun hpg
  have h1' : ¬ (kind < 1) := by omega
  have h3' : ¬ (3 < kind) := by omega
  obtain ⟨sz, hsz⟩ : ∃ sz, sz = w.heap.size := ⟨_, rfl⟩
  have hfr : (a : Int) / 64 = (p : Int) := by omega
  have H4 : Hid (ps / 4 % 2 = 0 ∨ ps / 4 % 2 = 1) := Lib.hid (by omega)
  clear hpa
  go_enter Try.func15, Try.ntmps15
  go_wp2_with fail
  rw [← hsz]
  generalize hy : World.alloc (World.alloc (World.alloc (World.alloc w _) _) _) _ = y0
  have H0 : Hid (Keep [] w y0 ∧ y0.heap[sz + 1 + 1 + 1]? = some (.cells #[.int .i64 0, .int .i64 0, .int .u32 0, .slice none 0 0, .int .u32 0, .bool false, .int .i64 0, .int .u32 0] 63 (0, 0)) ∧ w.heap.size = sz ∧ y0.heap.size = sz + 4 ∧
      (∀ x, Keep [] y0 x → x.cell? ⟨sz, 0, none⟩ = some (.slice sa sm sc) ∧ x.cell? ⟨sz + 1, 9, none⟩ = some (.int .u32 ps) ∧ x.cell? ⟨sz + 1, 10, none⟩ = some (.int .u32 cr) ∧ x.cell? ⟨sz + 1 + 1, 0, none⟩ = some m1 ∧ x.cell? ⟨sz + 1 + 1, 1, none⟩ = some m2)) := Lib.hid (by
    subst hy hsz
    refine ⟨((((Keep.refl _ _).alloc _).alloc _).alloc _).alloc _, heap_alloc_at _ (by simp), rfl, by simp, fun x hx => ?_⟩
    have g0 : ((((w.alloc (.cells #[.slice sa sm sc] 50)).alloc (.cells #[f 0, f 1, f 2, f 3, f 4, f 5, f 6, f 7, f 8, .int .u32 ps, .int .u32 cr, f 11, f 12, f 13, f 14, f 15, f 16, f 17, f 18] 43)).alloc (.cells #[m1, m2] 53)).alloc (.cells #[.int .i64 0, .int .i64 0, .int .u32 0, .slice none 0 0, .int .u32 0, .bool false, .int .i64 0, .int .u32 0] 63)).heap[w.heap.size]? = some (.cells #[.slice sa sm sc] 50 (0, 0)) := by
      repeat first | (refine heap_alloc_at _ ?_; (simp; done)) | refine heap_alloc_other _ ?_
    have g1 : ((((w.alloc (.cells #[.slice sa sm sc] 50)).alloc (.cells #[f 0, f 1, f 2, f 3, f 4, f 5, f 6, f 7, f 8, .int .u32 ps, .int .u32 cr, f 11, f 12, f 13, f 14, f 15, f 16, f 17, f 18] 43)).alloc (.cells #[m1, m2] 53)).alloc (.cells #[.int .i64 0, .int .i64 0, .int .u32 0, .slice none 0 0, .int .u32 0, .bool false, .int .i64 0, .int .u32 0] 63)).heap[w.heap.size + 1]? = some (.cells #[f 0, f 1, f 2, f 3, f 4, f 5, f 6, f 7, f 8, .int .u32 ps, .int .u32 cr, f 11, f 12, f 13, f 14, f 15, f 16, f 17, f 18] 43 (0, 0)) := by
      repeat first | (refine heap_alloc_at _ ?_; (simp; done)) | refine heap_alloc_other _ ?_
    have g2 : ((((w.alloc (.cells #[.slice sa sm sc] 50)).alloc (.cells #[f 0, f 1, f 2, f 3, f 4, f 5, f 6, f 7, f 8, .int .u32 ps, .int .u32 cr, f 11, f 12, f 13, f 14, f 15, f 16, f 17, f 18] 43)).alloc (.cells #[m1, m2] 53)).alloc (.cells #[.int .i64 0, .int .i64 0, .int .u32 0, .slice none 0 0, .int .u32 0, .bool false, .int .i64 0, .int .u32 0] 63)).heap[w.heap.size + 1 + 1]? = some (.cells #[m1, m2] 53 (0, 0)) := by
      repeat first | (refine heap_alloc_at _ ?_; (simp; done)) | refine heap_alloc_other _ ?_
    exact ⟨hx.cell (cell_of g0 0 rfl) (by simp), hx.cell (cell_of g1 9 rfl) (by simp), hx.cell (cell_of g1 10 rfl) (by simp), hx.cell (cell_of g2 0 rfl) (by simp), hx.cell (cell_of g2 1 rfl) (by simp)⟩)
  clear hy hsz
  refine (rto_at ((DMem.keep0 HM.out H0.out.1)) cr 16 ps va kind hc (by omega) hp hv (by omega) (by omega)).mono ?_
  rintro e' y ⟨rfl, hk⟩
  rw [HQ.out]
  simp only
  have HK := Lib.hid hk
  obtain ⟨b0, b1, b2, b3, b4⟩ := H0.out.2.2.2.2 y hk
  clear hk
  obtain ⟨vb, hvb⟩ : ∃ vb, vb = y.heap.size := ⟨_, rfl⟩
  have hvb2 : vb = y.heap.size := hvb
  have HVB := Lib.hid hvb2
  go_upto_region 8 with fail
  rw [← hvb]
  generalize hy2 : World.alloc y _ = y2
  have HV : Hid (VB y2 vb 0 p 0 (.slice none 0 0) 0 false ∧ Keep [] y y2) := Lib.hid (by
    subst hy2
    exact ⟨heap_alloc_at _ hvb, (Keep.refl _ _).alloc _⟩)
  clear hy2 hvb hvb2 b0 b1 b2 b3 b4
  obtain ⟨b0, b1, b2, b3, b4⟩ := H0.out.2.2.2.2 y2 (HK.out.trans HV.out.2)
  obtain ⟨pg, hpg⟩ : ∃ pg, decide (ps / 4 % 2 = 1) = pg := ⟨_, rfl⟩
  have hps : ((ps : Int) / 4 % 2 == 1) = pg := by
    rw [← hpg]
    rcases H4.out with h | h
    · rw [decide_eq_false (by omega)]; exact beq_eq_false_iff_ne.2 (by omega)
    · rw [decide_eq_true h]; exact beq_iff_eq.2 (by omega)
  have HPG := Lib.hid hpg
  clear hpg
  go_upto_if 53 with fail
  try rw [hps]
  go_cut [14, 15, 16] (fun wv cv dv wx => ∃ (ta : Option Addr) (cap : Nat), wv = .bool (hasB b 2) ∧ cv = .bool (hasB b 8) ∧ dv = .bool (hasB b 16) ∧ Hid (VB wx vb 0 p 0 (.slice ta (if pg then tabs d t else []).length cap) (if pg then e else 0) false ∧ Reads wx ta (if pg then tabs d t else []) ∧ ((if pg then tabs d t else []) = [] ∨ ∃ g, ta = some ⟨g, 0, none⟩ ∧ vb < g) ∧ Keep [vb] y2 wx))
  case first =>
    cases pg
    · have hun := (HWY.out.2.1 (by have := of_decide_eq_false HPG.out; have := H4.out; omega))
      obtain ⟨rfl, rfl⟩ := hun
      go_wp2_with fail
      go_meet
      case rel => exact ⟨none, 0, congrArg Value.bool (by decide), congrArg Value.bool (by decide), congrArg Value.bool (by decide), Lib.hid ⟨HV.out.1, reads_nil _, .inl rfl, Keep.refl _ _⟩⟩
    · have hl := HWY.out.2.2 (of_decide_eq_true HPG.out)
      have hL := rlook_at ((DMem.keep0 HM.out (H0.out.1.trans (HK.out.trans HV.out.2)))) cr 16 va hc (by omega) hv
      rw [hl] at hL
      have HL := Lib.hid hL
      clear hl hL
      go_wp2_with fail
      refine HL.out.mono ?_
      rintro e' z ⟨rfl, hk⟩
      have HZ := Lib.hid (show VB z vb 0 p 0 (.slice none 0 0) 0 false ∧ Keep [] y2 z from ⟨hk.heap HV.out.1 (by simp), hk⟩)
      clear hk b0 b1 b2 b3 b4
      unfold wayV
      go_wp2_with fail
      obtain ⟨wb, hwb⟩ : ∃ wb, wb = z.heap.size := ⟨_, rfl⟩
      rw [← hwb]
      generalize hz2 : World.alloc z _ = z2
      have HZ2 : Hid (VB z2 vb 0 p 0 (.slice none 0 0) 0 false ∧ Keep [] y2 z2) := Lib.hid (by
        subst hz2
        have hk := (Keep.refl [] z).alloc (Obj.cells #[.int .u32 b, .int .u32 a, .int .u32 e, .int .i64 d, .int .i64 t, .int .i64 p] 97)
        exact ⟨hk.heap HZ.out.1 (by simp), HZ.out.2.trans hk⟩)
      have hw1 : z2.heap[wb]? = some (.cells #[.int .u32 b, .int .u32 a, .int .u32 e, .int .i64 d, .int .i64 t, .int .i64 p] 97 (0, 0)) := by
        subst hz2; exact heap_alloc_at _ hwb
      have hw2 : ∀ o, (z2.alloc o).heap[wb]? = some (.cells #[.int .u32 b, .int .u32 a, .int .u32 e, .int .i64 d, .int .i64 t, .int .i64 p] 97 (0, 0)) := fun o => ((Keep.refl [] z2).alloc o).heap hw1 (by simp)
      have c0 : z2.cell? ⟨wb, 0, none⟩ = some (.int .u32 b) := cell_of hw1 0 rfl
      have c2 : z2.cell? ⟨wb, 2, none⟩ = some (.int .u32 e) := cell_of hw1 2 rfl
      have c3 : z2.cell? ⟨wb, 3, none⟩ = some (.int .i64 d) := cell_of hw1 3 rfl
      have c4 : z2.cell? ⟨wb, 4, none⟩ = some (.int .i64 t) := cell_of hw1 4 rfl
      have hwv : wb ≠ vb := by have := lt_of_heap HZ.out.1; omega
      have hwv' : vb ≠ wb := fun h => hwv h.symm
      obtain ⟨⟨-, -, -, d3, d4, -, -, -⟩, ⟨-, -, -, e3, e4, -⟩, hl⟩ := VB.cells HZ2.out.1
      have KF : Hid (∀ v1 v2 o, VB (((z2.setCell ⟨vb, 4, none⟩ (.int .u32 v1)).setCell ⟨vb, 3, none⟩ v2).alloc o) vb 0 p 0 v2 v1 false ∧ Keep [vb] y2 (((z2.setCell ⟨vb, 4, none⟩ (.int .u32 v1)).setCell ⟨vb, 3, none⟩ v2).alloc o)) := Lib.hid (fun v1 v2 o => by
        refine ⟨?_, ?_⟩
        · unfold VB
          refine heap_alloc_other _ ?_
          exact heap_set_same (heap_set_same HZ2.out.1 4 _) 3 _
        · exact (keepSet (keepSet (HZ2.out.2.weaken (l' := [vb]) (by simp)) (by simp) 4 _) (by simp) 3 _).alloc _)
      have k3 : ∀ v1 v2 o, (((z2.setCell ⟨vb, 4, none⟩ v1).setCell ⟨vb, 3, none⟩ v2).alloc o).cell? ⟨wb, 3, none⟩ = some (.int .i64 d) := fun v1 v2 o => by
        have := ((keepSet (keepSet (Keep.refl [vb] z2) (b := vb) (by simp) 4 v1) (b := vb) (by simp) 3 v2).alloc o).cell c3 (by simp [hwv])
        exact this
      have k4 : ∀ v1 v2 o, (((z2.setCell ⟨vb, 4, none⟩ v1).setCell ⟨vb, 3, none⟩ v2).alloc o).cell? ⟨wb, 4, none⟩ = some (.int .i64 t) := fun v1 v2 o => by
        have := ((keepSet (keepSet (Keep.refl [vb] z2) (b := vb) (by simp) 4 v1) (b := vb) (by simp) 3 v2).alloc o).cell c4 (by simp [hwv])
        exact this
      clear hw1 hz2 hwb hw2 hwv'
      have k5 : ∀ v1 v2 v3 o o2, (((((z2.setCell ⟨vb, 4, none⟩ v1).setCell ⟨vb, 3, none⟩ v2).setCell ⟨vb, 3, none⟩ v3).alloc o).alloc o2).cell? ⟨wb, 4, none⟩ = some (.int .i64 t) := fun v1 v2 v3 o o2 => by
        have := ((keepSet (keepSet (keepSet (Keep.refl [vb] z2) (b := vb) (by simp) 4 v1) (b := vb) (by simp) 3 v2) (b := vb) (by simp) 3 v3).alloc o |>.alloc o2).cell c4 (by simp [hwv])
        exact this
      have k6 : ∀ v1 v2 v3 o o2, (((((z2.setCell ⟨vb, 4, none⟩ v1).setCell ⟨vb, 3, none⟩ v2).setCell ⟨vb, 3, none⟩ v3).alloc o).alloc o2).cell? ⟨wb, 3, none⟩ = some (.int .i64 d) := fun v1 v2 v3 o o2 => by
        have := ((keepSet (keepSet (keepSet (Keep.refl [vb] z2) (b := vb) (by simp) 4 v1) (b := vb) (by simp) 3 v2) (b := vb) (by simp) 3 v3).alloc o |>.alloc o2).cell c3 (by simp [hwv])
        exact this
      have KG : Hid (∀ v1 v2 v3 o o2, VB (((((z2.setCell ⟨vb, 4, none⟩ (.int .u32 v1)).setCell ⟨vb, 3, none⟩ v2).setCell ⟨vb, 3, none⟩ v3).alloc o).alloc o2) vb 0 p 0 v3 v1 false ∧ Keep [vb] y2 (((((z2.setCell ⟨vb, 4, none⟩ (.int .u32 v1)).setCell ⟨vb, 3, none⟩ v2).setCell ⟨vb, 3, none⟩ v3).alloc o).alloc o2)) := Lib.hid (fun v1 v2 v3 o o2 => by
        refine ⟨?_, ?_⟩
        · unfold VB
          refine heap_alloc_other _ (heap_alloc_other _ ?_)
          exact heap_set_same (heap_set_same (heap_set_same HZ2.out.1 4 _) 3 _) 3 _
        · exact (((keepSet (keepSet (keepSet (HZ2.out.2.weaken (l' := [vb]) (by simp)) (by simp) 4 _) (by simp) 3 _) (by simp) 3 _).alloc _).alloc _))
      have hlt : t < d ∨ t = d ∨ d < t := by omega
      refine (has_at b 2 hb (by omega) (by omega) _).mono ?_
      rintro e' x1 ⟨rfl, rfl⟩
      go_wp2_with fail
      refine (has_at b 8 hb (by omega) (by omega) _).mono ?_
      rintro e' x1 ⟨rfl, rfl⟩
      go_wp2_with fail
      refine (has_at b 16 hb (by omega) (by omega) _).mono ?_
      rintro e' x1 ⟨rfl, rfl⟩
      rcases hlt with hlt | rfl | hlt
      · have hn : ¬ (d < t) := by omega
        have hi : (t : Int) < d := by omega
        have hi2 : ¬ ((d : Int) < t) := by omega
        go_wp2_with fail
        go_meet
        case rel =>
          refine ⟨some ⟨z2.heap.size + 1, 0, none⟩, 2, rfl, rfl, rfl, ?_⟩
          refine Lib.hid ?_
          simp only [if_true, tabs_lt hlt, List.length_cons, List.length_nil]
          exact ⟨(KG.out _ _ _ _ _).1, reads_two' _ _ (by simp), .inr ⟨_, rfl, by omega⟩, (KG.out _ _ _ _ _).2⟩
      · have hn : ¬ (t < t) := by omega
        go_wp2_with fail
        go_meet
        case rel =>
          refine ⟨some ⟨z2.heap.size, 0, none⟩, 1, rfl, rfl, rfl, ?_⟩
          refine Lib.hid ?_
          simp only [if_true, tabs_eq, List.length_cons, List.length_nil]
          exact ⟨(KF.out _ _ _).1, reads_one' _ (by simp), .inr ⟨_, rfl, by omega⟩, (KF.out _ _ _).2⟩
      · have hn : ¬ (t < d) := by omega
        have hi : (d : Int) < t := by omega
        have hi2 : ¬ ((t : Int) < d) := by omega
        go_wp2_with fail
        go_meet
        case rel =>
          refine ⟨some ⟨z2.heap.size + 1, 0, none⟩, 2, rfl, rfl, rfl, ?_⟩
          refine Lib.hid ?_
          simp only [if_true, tabs_gt hlt, List.length_cons, List.length_nil]
          exact ⟨(KG.out _ _ _ _ _).1, reads_two' _ _ (by simp), .inr ⟨_, rfl, by omega⟩, (KG.out _ _ _ _ _).2⟩
  case rest =>
    obtain ⟨ta, cap, rfl, rfl, rfl, hrel⟩ := hcut
    have hvn : sz + 4 ≤ vb := by have h1 := HVB.out; have h2 := HK.out.size; have h3 := H0.out.2.2.2.1; omega
    have HW2 : Hid (Keep [] w y2) := Lib.hid (H0.out.1.trans (HK.out.trans HV.out.2))
    have hsw : w.heap.size ≤ sz := by have := H0.out.2.2.1; omega
    obtain ⟨TL, hTL⟩ : ∃ TL, (if pg = true then tabs d t else []) = TL := ⟨_, rfl⟩
    obtain ⟨EN, hEN⟩ : ∃ EN : Int, (if pg = true then (e : Int) else 0) = EN := ⟨_, rfl⟩
    have HOV : Hid (overV W b a e d t p (decide (ps / 4 % 2 = 1)) kind = ⟨if kind = 3 ∧ (b / 16 % 2 = 0 ∨ W p = true) then 2 else 1, p, if kind = 3 ∧ (b / 16 % 2 = 0 ∨ W p = true) then 0 else (leadB b (W p) : Nat), TL, EN, decide (kind = 3 ∧ b / 16 % 2 = 0), 0, 0⟩) := Lib.hid (by
      rw [HPG.out, ← hTL, ← hEN]; unfold overV; rw [hfr]; cases pg <;> rfl)
    rw [hTL, hEN] at hrel
    clear hTL hEN hfr
    have HE : Hid (∀ x, Keep [vb, sz + 1 + 1 + 1] wc x → Reads x ta TL ∧ Keep [] w x) := Lib.hid (fun x hx => by
      refine ⟨hrel.out.2.1.keepL hx ?_, (HW2.out.then hrel.out.2.2.2 (by simp; omega)).then hx (by simp; omega)⟩
      rcases hrel.out.2.2.1 with h | ⟨g, h1, h2⟩
      · exact .inl h
      · exact .inr ⟨g, h1, by simp; omega⟩)
    have HG : Hid (TL = [] ∨ ∃ g, ta = some ⟨g, 0, none⟩ ∧ w.heap.size ≤ g) := Lib.hid (by
      rcases hrel.out.2.2.1 with h | ⟨g, h1, h2⟩
      · exact .inl h
      · exact .inr ⟨g, h1, by omega⟩)
    obtain ⟨wp, hwp⟩ : ∃ wp, W p = wp := ⟨_, rfl⟩
    have HDW : Hid (∀ x, Keep [vb] wc x → Calls Try.prog 35 #[.agg #[m1, m2], .int .i64 p] x (BoolPost (W p) x)) := Lib.hid (fun x hx => HW.out x (HE.out x (hx.weaken (by simp))).2 p)
    have HX : Hid (VB wc vb 0 p 0 (.slice ta TL.length cap) EN false ∧ wc.heap[sz + 1 + 1 + 1]? = some (.cells #[.int .i64 0, .int .i64 0, .int .u32 0, .slice none 0 0, .int .u32 0, .bool false, .int .i64 0, .int .u32 0] 63 (0, 0)) ∧ (wc.cell? ⟨sz + 1 + 1, 0, none⟩ = some m1 ∧ wc.cell? ⟨sz + 1 + 1, 1, none⟩ = some m2) ∧ Keep [vb] wc wc) := Lib.hid (by
      refine ⟨hrel.out.1, hrel.out.2.2.2.heap (HV.out.2.heap (HK.out.heap H0.out.2.1 (by simp)) (by simp)) (by simp; omega), ⟨hrel.out.2.2.2.cell b3 (by simp; omega), hrel.out.2.2.2.cell b4 (by simp; omega)⟩, Keep.refl _ _⟩)
    have HR : Hid (∀ x, Keep [vb] wc x → x.heap[sz + 1 + 1 + 1]? = some (.cells #[.int .i64 0, .int .i64 0, .int .u32 0, .slice none 0 0, .int .u32 0, .bool false, .int .i64 0, .int .u32 0] 63 (0, 0)) ∧ (x.cell? ⟨sz + 1 + 1, 0, none⟩ = some m1 ∧ x.cell? ⟨sz + 1 + 1, 1, none⟩ = some m2)) := Lib.hid (fun x hx =>
      ⟨hx.heap HX.out.2.1 (by simp; omega), hx.cell HX.out.2.2.1.1 (by simp; omega), hx.cell HX.out.2.2.1.2 (by simp; omega)⟩)
    have HN : Hid (∀ (x z : World) (act bits : Int) (so : Bool), VB x vb act p bits (.slice ta TL.length cap) EN so → Keep [vb] wc x → Keep [] x z → Hid (VB z vb act p bits (.slice ta TL.length cap) EN so ∧ z.heap[sz + 1 + 1 + 1]? = some (.cells #[.int .i64 0, .int .i64 0, .int .u32 0, .slice none 0 0, .int .u32 0, .bool false, .int .i64 0, .int .u32 0] 63 (0, 0)) ∧ (z.cell? ⟨sz + 1 + 1, 0, none⟩ = some m1 ∧ z.cell? ⟨sz + 1 + 1, 1, none⟩ = some m2) ∧ Keep [vb] wc z)) := Lib.hid (fun x z act bits so h1 h2 h3 => by
      have h4 : Keep [vb] wc z := h2.then h3 (by simp)
      exact Lib.hid ⟨h3.heap h1 (by simp), (HR.out z h4).1, (HR.out z h4).2, h4⟩)
    have HWP := Lib.hid hwp
    rw [hwp] at HOV
    clear b0 b1 b2 b3 b4 hrel hwp
    obtain ⟨q2, hq2⟩ : ∃ q, hasB b 2 = q := ⟨_, rfl⟩
    obtain ⟨q8, hq8⟩ : ∃ q, hasB b 8 = q := ⟨_, rfl⟩
    obtain ⟨q16, hq16⟩ : ∃ q, hasB b 16 = q := ⟨_, rfl⟩
    have HQB := Lib.hid (And.intro hq2 (And.intro hq8 hq16))
    rw [hq2, hq8, hq16]
    clear hq2 hq8 hq16
    obtain ⟨⟨d0, d1, d2, d3, d4, d5, d6, d7⟩, ⟨e0, e1, e2, e3, e4, e5⟩, hvl⟩ := VB.cells HX.out.1
    obtain ⟨⟨r0, r1, r2, r3, r4, r5, r6, r7⟩, f0, f1, f2, f3, f4, f5, f6, f7⟩ := eight_cells HX.out.2.1
    obtain ⟨b3, b4⟩ := HX.out.2.2.1
    have k5 : ∀ v1 v2 v3 v4, ((((wc.setCell ⟨vb, 5, none⟩ v1).setCell ⟨vb, 0, none⟩ v2).setCell ⟨vb, 2, none⟩ v3).setCell ⟨vb, 2, none⟩ v4).cell? ⟨vb, 2, none⟩ = some v4 := fun _ _ _ _ => cell_of (heap_set_same (heap_set_same (heap_set_same (heap_set_same HX.out.1 5 _) 0 _) 2 _) 2 _) 2 rfl
    have k0 : ∀ v2 v3 v4, (((wc.setCell ⟨vb, 0, none⟩ v2).setCell ⟨vb, 2, none⟩ v3).setCell ⟨vb, 2, none⟩ v4).cell? ⟨vb, 2, none⟩ = some v4 := fun _ _ _ => cell_of (heap_set_same (heap_set_same (heap_set_same HX.out.1 0 _) 2 _) 2 _) 2 rfl
    clear hvl
    by_cases hk3 : kind = 3
    · have HK3 := Lib.hid hk3
      have hk3b : (kind == 3) = true := by rw [hk3]; rfl
      clear hk3
      cases q16
      · go_wp2_with fail
        have HOV : Hid (overV W b a e d t p (decide (ps / 4 % 2 = 1)) kind = ⟨2, p, 0, TL, EN, true, 0, 0⟩) := Lib.hid (by
          rw [HOV.out]
          have g2 := HQB.out.1
          have g8 := HQB.out.2.1
          have g16 := HQB.out.2.2
          have gk := HK3.out
          simp [hasB] at g2 g8 g16
          simp [leadB, *])
        rw [HOV.out]
        exact bodyPost_ret (v := verV ⟨2, p, 0, TL, EN, true, 0, 0⟩ (.slice ta TL.length cap)) (by simp [results, Try.results15, go_sem, verV, r0, r1, r2, r3, r4, r5, r6, r7]) rfl (verPost_of ⟨rfl, rfl⟩ (HE.out _ (by repeat first | refine Keep.setCell ?_ (.inl (by simp)) _ | exact Keep.weaken (l := [vb]) HX.out.2.2.2 (by simp))).1 (HE.out _ (by repeat first | refine Keep.setCell ?_ (.inl (by simp)) _ | exact Keep.weaken (l := [vb]) HX.out.2.2.2 (by simp))).2 HG.out)
      · go_wp2_with fail
        refine (HDW.out _ (by repeat first | refine Keep.setCell ?_ (.inl (by simp)) _ | exact HX.out.2.2.2)).mono ?_
        rintro en x1 ⟨rfl, hk1⟩
        have HY := HN.out _ x1 0 0 false (by unfold VB; exact heap_set_same (HX.out.1) _ _) (by repeat first | refine Keep.setCell ?_ (.inl (by simp)) _ | exact HX.out.2.2.2) hk1
        clear HX d0 d1 d2 d3 d4 d5 d6 d7 e0 e1 e2 e3 e4 e5 r0 r1 r2 r3 r4 r5 r6 r7 f0 f1 f2 f3 f4 f5 f6 f7 b3 b4 k5 k0 hk1
        have HX := HY
        clear HY
        rw [HWP.out]
        obtain ⟨⟨d0, d1, d2, d3, d4, d5, d6, d7⟩, ⟨e0, e1, e2, e3, e4, e5⟩, hvl⟩ := VB.cells HX.out.1
        obtain ⟨⟨r0, r1, r2, r3, r4, r5, r6, r7⟩, f0, f1, f2, f3, f4, f5, f6, f7⟩ := eight_cells HX.out.2.1
        obtain ⟨b3, b4⟩ := HX.out.2.2.1
        have k5 : ∀ v1 v2 v3 v4, ((((x1.setCell ⟨vb, 5, none⟩ v1).setCell ⟨vb, 0, none⟩ v2).setCell ⟨vb, 2, none⟩ v3).setCell ⟨vb, 2, none⟩ v4).cell? ⟨vb, 2, none⟩ = some v4 := fun _ _ _ _ => cell_of (heap_set_same (heap_set_same (heap_set_same (heap_set_same HX.out.1 5 _) 0 _) 2 _) 2 _) 2 rfl
        have k0 : ∀ v2 v3 v4, (((x1.setCell ⟨vb, 0, none⟩ v2).setCell ⟨vb, 2, none⟩ v3).setCell ⟨vb, 2, none⟩ v4).cell? ⟨vb, 2, none⟩ = some v4 := fun _ _ _ => cell_of (heap_set_same (heap_set_same (heap_set_same HX.out.1 0 _) 2 _) 2 _) 2 rfl
        clear hvl
        cases wp
        · cases q8
          · cases q2
            · go_wp2_with fail
              have HOV : Hid (overV W b a e d t p (decide (ps / 4 % 2 = 1)) kind = ⟨1, p, 5, TL, EN, false, 0, 0⟩) := Lib.hid (by
                rw [HOV.out]
                have g2 := HQB.out.1
                have g8 := HQB.out.2.1
                have g16 := HQB.out.2.2
                have gk := HK3.out
                simp [hasB] at g2 g8 g16
                simp [leadB, *])
              rw [HOV.out]
              exact bodyPost_ret (v := verV ⟨1, p, 5, TL, EN, false, 0, 0⟩ (.slice ta TL.length cap)) (by simp [results, Try.results15, go_sem, verV, r0, r1, r2, r3, r4, r5, r6, r7]) rfl (verPost_of ⟨rfl, rfl⟩ (HE.out _ (by repeat first | refine Keep.setCell ?_ (.inl (by simp)) _ | exact Keep.weaken (l := [vb]) HX.out.2.2.2 (by simp))).1 (HE.out _ (by repeat first | refine Keep.setCell ?_ (.inl (by simp)) _ | exact Keep.weaken (l := [vb]) HX.out.2.2.2 (by simp))).2 HG.out)
            · go_wp2_with fail
              refine (HDW.out _ (by repeat first | refine Keep.setCell ?_ (.inl (by simp)) _ | exact HX.out.2.2.2)).mono ?_
              rintro en x2 ⟨rfl, hk2⟩
              have HY := HN.out _ x2 1 5 false (by unfold VB; exact heap_set_same (heap_set_same (HX.out.1) _ _) _ _) (by repeat first | refine Keep.setCell ?_ (.inl (by simp)) _ | exact HX.out.2.2.2) hk2
              clear HX d0 d1 d2 d3 d4 d5 d6 d7 e0 e1 e2 e3 e4 e5 r0 r1 r2 r3 r4 r5 r6 r7 f0 f1 f2 f3 f4 f5 f6 f7 b3 b4 k5 k0 hk2
              have HX := HY
              clear HY
              rw [HWP.out]
              obtain ⟨⟨d0, d1, d2, d3, d4, d5, d6, d7⟩, ⟨e0, e1, e2, e3, e4, e5⟩, hvl⟩ := VB.cells HX.out.1
              obtain ⟨⟨r0, r1, r2, r3, r4, r5, r6, r7⟩, f0, f1, f2, f3, f4, f5, f6, f7⟩ := eight_cells HX.out.2.1
              obtain ⟨b3, b4⟩ := HX.out.2.2.1
              have k5 : ∀ v1 v2 v3 v4, ((((x2.setCell ⟨vb, 5, none⟩ v1).setCell ⟨vb, 0, none⟩ v2).setCell ⟨vb, 2, none⟩ v3).setCell ⟨vb, 2, none⟩ v4).cell? ⟨vb, 2, none⟩ = some v4 := fun _ _ _ _ => cell_of (heap_set_same (heap_set_same (heap_set_same (heap_set_same HX.out.1 5 _) 0 _) 2 _) 2 _) 2 rfl
              have k0 : ∀ v2 v3 v4, (((x2.setCell ⟨vb, 0, none⟩ v2).setCell ⟨vb, 2, none⟩ v3).setCell ⟨vb, 2, none⟩ v4).cell? ⟨vb, 2, none⟩ = some v4 := fun _ _ _ => cell_of (heap_set_same (heap_set_same (heap_set_same HX.out.1 0 _) 2 _) 2 _) 2 rfl
              clear hvl
              go_wp2_with fail
              have HOV : Hid (overV W b a e d t p (decide (ps / 4 % 2 = 1)) kind = ⟨1, p, 7, TL, EN, false, 0, 0⟩) := Lib.hid (by
                rw [HOV.out]
                have g2 := HQB.out.1
                have g8 := HQB.out.2.1
                have g16 := HQB.out.2.2
                have gk := HK3.out
                simp [hasB] at g2 g8 g16
                simp [leadB, *])
              rw [HOV.out]
              exact bodyPost_ret (v := verV ⟨1, p, 7, TL, EN, false, 0, 0⟩ (.slice ta TL.length cap)) (by simp [results, Try.results15, go_sem, verV, r0, r1, r2, r3, r4, r5, r6, r7]) rfl (verPost_of ⟨rfl, rfl⟩ (HE.out _ (by repeat first | refine Keep.setCell ?_ (.inl (by simp)) _ | exact Keep.weaken (l := [vb]) HX.out.2.2.2 (by simp))).1 (HE.out _ (by repeat first | refine Keep.setCell ?_ (.inl (by simp)) _ | exact Keep.weaken (l := [vb]) HX.out.2.2.2 (by simp))).2 HG.out)
          · cases q2
            · go_wp2_with fail
              have HOV : Hid (overV W b a e d t p (decide (ps / 4 % 2 = 1)) kind = ⟨1, p, 13, TL, EN, false, 0, 0⟩) := Lib.hid (by
                rw [HOV.out]
                have g2 := HQB.out.1
                have g8 := HQB.out.2.1
                have g16 := HQB.out.2.2
                have gk := HK3.out
                simp [hasB] at g2 g8 g16
                simp [leadB, *])
              rw [HOV.out]
              exact bodyPost_ret (v := verV ⟨1, p, 13, TL, EN, false, 0, 0⟩ (.slice ta TL.length cap)) (by simp [results, Try.results15, go_sem, verV, r0, r1, r2, r3, r4, r5, r6, r7]) rfl (verPost_of ⟨rfl, rfl⟩ (HE.out _ (by repeat first | refine Keep.setCell ?_ (.inl (by simp)) _ | exact Keep.weaken (l := [vb]) HX.out.2.2.2 (by simp))).1 (HE.out _ (by repeat first | refine Keep.setCell ?_ (.inl (by simp)) _ | exact Keep.weaken (l := [vb]) HX.out.2.2.2 (by simp))).2 HG.out)
            · go_wp2_with fail
              refine (HDW.out _ (by repeat first | refine Keep.setCell ?_ (.inl (by simp)) _ | exact HX.out.2.2.2)).mono ?_
              rintro en x2 ⟨rfl, hk2⟩
              have HY := HN.out _ x2 1 13 false (by unfold VB; exact heap_set_same (heap_set_same (heap_set_same (HX.out.1) _ _) _ _) _ _) (by repeat first | refine Keep.setCell ?_ (.inl (by simp)) _ | exact HX.out.2.2.2) hk2
              clear HX d0 d1 d2 d3 d4 d5 d6 d7 e0 e1 e2 e3 e4 e5 r0 r1 r2 r3 r4 r5 r6 r7 f0 f1 f2 f3 f4 f5 f6 f7 b3 b4 k5 k0 hk2
              have HX := HY
              clear HY
              rw [HWP.out]
              obtain ⟨⟨d0, d1, d2, d3, d4, d5, d6, d7⟩, ⟨e0, e1, e2, e3, e4, e5⟩, hvl⟩ := VB.cells HX.out.1
              obtain ⟨⟨r0, r1, r2, r3, r4, r5, r6, r7⟩, f0, f1, f2, f3, f4, f5, f6, f7⟩ := eight_cells HX.out.2.1
              obtain ⟨b3, b4⟩ := HX.out.2.2.1
              have k5 : ∀ v1 v2 v3 v4, ((((x2.setCell ⟨vb, 5, none⟩ v1).setCell ⟨vb, 0, none⟩ v2).setCell ⟨vb, 2, none⟩ v3).setCell ⟨vb, 2, none⟩ v4).cell? ⟨vb, 2, none⟩ = some v4 := fun _ _ _ _ => cell_of (heap_set_same (heap_set_same (heap_set_same (heap_set_same HX.out.1 5 _) 0 _) 2 _) 2 _) 2 rfl
              have k0 : ∀ v2 v3 v4, (((x2.setCell ⟨vb, 0, none⟩ v2).setCell ⟨vb, 2, none⟩ v3).setCell ⟨vb, 2, none⟩ v4).cell? ⟨vb, 2, none⟩ = some v4 := fun _ _ _ => cell_of (heap_set_same (heap_set_same (heap_set_same HX.out.1 0 _) 2 _) 2 _) 2 rfl
              clear hvl
              go_wp2_with fail
              have HOV : Hid (overV W b a e d t p (decide (ps / 4 % 2 = 1)) kind = ⟨1, p, 15, TL, EN, false, 0, 0⟩) := Lib.hid (by
                rw [HOV.out]
                have g2 := HQB.out.1
                have g8 := HQB.out.2.1
                have g16 := HQB.out.2.2
                have gk := HK3.out
                simp [hasB] at g2 g8 g16
                simp [leadB, *])
              rw [HOV.out]
              exact bodyPost_ret (v := verV ⟨1, p, 15, TL, EN, false, 0, 0⟩ (.slice ta TL.length cap)) (by simp [results, Try.results15, go_sem, verV, r0, r1, r2, r3, r4, r5, r6, r7]) rfl (verPost_of ⟨rfl, rfl⟩ (HE.out _ (by repeat first | refine Keep.setCell ?_ (.inl (by simp)) _ | exact Keep.weaken (l := [vb]) HX.out.2.2.2 (by simp))).1 (HE.out _ (by repeat first | refine Keep.setCell ?_ (.inl (by simp)) _ | exact Keep.weaken (l := [vb]) HX.out.2.2.2 (by simp))).2 HG.out)
        · go_wp2_with fail
          have HOV : Hid (overV W b a e d t p (decide (ps / 4 % 2 = 1)) kind = ⟨2, p, 0, TL, EN, false, 0, 0⟩) := Lib.hid (by
            rw [HOV.out]
            have g2 := HQB.out.1
            have g8 := HQB.out.2.1
            have g16 := HQB.out.2.2
            have gk := HK3.out
            simp [hasB] at g2 g8 g16
            simp [leadB, *])
          rw [HOV.out]
          exact bodyPost_ret (v := verV ⟨2, p, 0, TL, EN, false, 0, 0⟩ (.slice ta TL.length cap)) (by simp [results, Try.results15, go_sem, verV, r0, r1, r2, r3, r4, r5, r6, r7]) rfl (verPost_of ⟨rfl, rfl⟩ (HE.out _ (by repeat first | refine Keep.setCell ?_ (.inl (by simp)) _ | exact Keep.weaken (l := [vb]) HX.out.2.2.2 (by simp))).1 (HE.out _ (by repeat first | refine Keep.setCell ?_ (.inl (by simp)) _ | exact Keep.weaken (l := [vb]) HX.out.2.2.2 (by simp))).2 HG.out)
    · have HK3 := Lib.hid hk3
      have hk3b : (kind == 3) = false := by simpa using hk3
      clear hk3
      cases q8
      · cases q2
        · go_wp2_with fail
          have HOV : Hid (overV W b a e d t p (decide (ps / 4 % 2 = 1)) kind = ⟨1, p, 5, TL, EN, false, 0, 0⟩) := Lib.hid (by
            rw [HOV.out]
            have g2 := HQB.out.1
            have g8 := HQB.out.2.1
            have g16 := HQB.out.2.2
            have gk := HK3.out
            simp [hasB] at g2 g8 g16
            simp [leadB, *])
          rw [HOV.out]
          exact bodyPost_ret (v := verV ⟨1, p, 5, TL, EN, false, 0, 0⟩ (.slice ta TL.length cap)) (by simp [results, Try.results15, go_sem, verV, r0, r1, r2, r3, r4, r5, r6, r7]) rfl (verPost_of ⟨rfl, rfl⟩ (HE.out _ (by repeat first | refine Keep.setCell ?_ (.inl (by simp)) _ | exact Keep.weaken (l := [vb]) HX.out.2.2.2 (by simp))).1 (HE.out _ (by repeat first | refine Keep.setCell ?_ (.inl (by simp)) _ | exact Keep.weaken (l := [vb]) HX.out.2.2.2 (by simp))).2 HG.out)
        · cases q16
          · go_wp2_with fail
            have HOV : Hid (overV W b a e d t p (decide (ps / 4 % 2 = 1)) kind = ⟨1, p, 5, TL, EN, false, 0, 0⟩) := Lib.hid (by
              rw [HOV.out]
              have g2 := HQB.out.1
              have g8 := HQB.out.2.1
              have g16 := HQB.out.2.2
              have gk := HK3.out
              simp [hasB] at g2 g8 g16
              simp [leadB, *])
            rw [HOV.out]
            exact bodyPost_ret (v := verV ⟨1, p, 5, TL, EN, false, 0, 0⟩ (.slice ta TL.length cap)) (by simp [results, Try.results15, go_sem, verV, r0, r1, r2, r3, r4, r5, r6, r7]) rfl (verPost_of ⟨rfl, rfl⟩ (HE.out _ (by repeat first | refine Keep.setCell ?_ (.inl (by simp)) _ | exact Keep.weaken (l := [vb]) HX.out.2.2.2 (by simp))).1 (HE.out _ (by repeat first | refine Keep.setCell ?_ (.inl (by simp)) _ | exact Keep.weaken (l := [vb]) HX.out.2.2.2 (by simp))).2 HG.out)
          · go_wp2_with fail
            refine (HDW.out _ (by repeat first | refine Keep.setCell ?_ (.inl (by simp)) _ | exact HX.out.2.2.2)).mono ?_
            rintro en x1 ⟨rfl, hk1⟩
            have HY := HN.out _ x1 1 5 false (by unfold VB; exact heap_set_same (heap_set_same (heap_set_same (HX.out.1) _ _) _ _) _ _) (by repeat first | refine Keep.setCell ?_ (.inl (by simp)) _ | exact HX.out.2.2.2) hk1
            clear HX d0 d1 d2 d3 d4 d5 d6 d7 e0 e1 e2 e3 e4 e5 r0 r1 r2 r3 r4 r5 r6 r7 f0 f1 f2 f3 f4 f5 f6 f7 b3 b4 k5 k0 hk1
            have HX := HY
            clear HY
            rw [HWP.out]
            obtain ⟨⟨d0, d1, d2, d3, d4, d5, d6, d7⟩, ⟨e0, e1, e2, e3, e4, e5⟩, hvl⟩ := VB.cells HX.out.1
            obtain ⟨⟨r0, r1, r2, r3, r4, r5, r6, r7⟩, f0, f1, f2, f3, f4, f5, f6, f7⟩ := eight_cells HX.out.2.1
            obtain ⟨b3, b4⟩ := HX.out.2.2.1
            have k5 : ∀ v1 v2 v3 v4, ((((x1.setCell ⟨vb, 5, none⟩ v1).setCell ⟨vb, 0, none⟩ v2).setCell ⟨vb, 2, none⟩ v3).setCell ⟨vb, 2, none⟩ v4).cell? ⟨vb, 2, none⟩ = some v4 := fun _ _ _ _ => cell_of (heap_set_same (heap_set_same (heap_set_same (heap_set_same HX.out.1 5 _) 0 _) 2 _) 2 _) 2 rfl
            have k0 : ∀ v2 v3 v4, (((x1.setCell ⟨vb, 0, none⟩ v2).setCell ⟨vb, 2, none⟩ v3).setCell ⟨vb, 2, none⟩ v4).cell? ⟨vb, 2, none⟩ = some v4 := fun _ _ _ => cell_of (heap_set_same (heap_set_same (heap_set_same HX.out.1 0 _) 2 _) 2 _) 2 rfl
            clear hvl
            cases wp
            · go_wp2_with fail
              have HOV : Hid (overV W b a e d t p (decide (ps / 4 % 2 = 1)) kind = ⟨1, p, 7, TL, EN, false, 0, 0⟩) := Lib.hid (by
                rw [HOV.out]
                have g2 := HQB.out.1
                have g8 := HQB.out.2.1
                have g16 := HQB.out.2.2
                have gk := HK3.out
                simp [hasB] at g2 g8 g16
                simp [leadB, *])
              rw [HOV.out]
              exact bodyPost_ret (v := verV ⟨1, p, 7, TL, EN, false, 0, 0⟩ (.slice ta TL.length cap)) (by simp [results, Try.results15, go_sem, verV, r0, r1, r2, r3, r4, r5, r6, r7]) rfl (verPost_of ⟨rfl, rfl⟩ (HE.out _ (by repeat first | refine Keep.setCell ?_ (.inl (by simp)) _ | exact Keep.weaken (l := [vb]) HX.out.2.2.2 (by simp))).1 (HE.out _ (by repeat first | refine Keep.setCell ?_ (.inl (by simp)) _ | exact Keep.weaken (l := [vb]) HX.out.2.2.2 (by simp))).2 HG.out)
            · go_wp2_with fail
              have HOV : Hid (overV W b a e d t p (decide (ps / 4 % 2 = 1)) kind = ⟨1, p, 5, TL, EN, false, 0, 0⟩) := Lib.hid (by
                rw [HOV.out]
                have g2 := HQB.out.1
                have g8 := HQB.out.2.1
                have g16 := HQB.out.2.2
                have gk := HK3.out
                simp [hasB] at g2 g8 g16
                simp [leadB, *])
              rw [HOV.out]
              exact bodyPost_ret (v := verV ⟨1, p, 5, TL, EN, false, 0, 0⟩ (.slice ta TL.length cap)) (by simp [results, Try.results15, go_sem, verV, r0, r1, r2, r3, r4, r5, r6, r7]) rfl (verPost_of ⟨rfl, rfl⟩ (HE.out _ (by repeat first | refine Keep.setCell ?_ (.inl (by simp)) _ | exact Keep.weaken (l := [vb]) HX.out.2.2.2 (by simp))).1 (HE.out _ (by repeat first | refine Keep.setCell ?_ (.inl (by simp)) _ | exact Keep.weaken (l := [vb]) HX.out.2.2.2 (by simp))).2 HG.out)
      · cases q2
        · go_wp2_with fail
          have HOV : Hid (overV W b a e d t p (decide (ps / 4 % 2 = 1)) kind = ⟨1, p, 13, TL, EN, false, 0, 0⟩) := Lib.hid (by
            rw [HOV.out]
            have g2 := HQB.out.1
            have g8 := HQB.out.2.1
            have g16 := HQB.out.2.2
            have gk := HK3.out
            simp [hasB] at g2 g8 g16
            simp [leadB, *])
          rw [HOV.out]
          exact bodyPost_ret (v := verV ⟨1, p, 13, TL, EN, false, 0, 0⟩ (.slice ta TL.length cap)) (by simp [results, Try.results15, go_sem, verV, r0, r1, r2, r3, r4, r5, r6, r7]) rfl (verPost_of ⟨rfl, rfl⟩ (HE.out _ (by repeat first | refine Keep.setCell ?_ (.inl (by simp)) _ | exact Keep.weaken (l := [vb]) HX.out.2.2.2 (by simp))).1 (HE.out _ (by repeat first | refine Keep.setCell ?_ (.inl (by simp)) _ | exact Keep.weaken (l := [vb]) HX.out.2.2.2 (by simp))).2 HG.out)
        · cases q16
          · go_wp2_with fail
            have HOV : Hid (overV W b a e d t p (decide (ps / 4 % 2 = 1)) kind = ⟨1, p, 13, TL, EN, false, 0, 0⟩) := Lib.hid (by
              rw [HOV.out]
              have g2 := HQB.out.1
              have g8 := HQB.out.2.1
              have g16 := HQB.out.2.2
              have gk := HK3.out
              simp [hasB] at g2 g8 g16
              simp [leadB, *])
            rw [HOV.out]
            exact bodyPost_ret (v := verV ⟨1, p, 13, TL, EN, false, 0, 0⟩ (.slice ta TL.length cap)) (by simp [results, Try.results15, go_sem, verV, r0, r1, r2, r3, r4, r5, r6, r7]) rfl (verPost_of ⟨rfl, rfl⟩ (HE.out _ (by repeat first | refine Keep.setCell ?_ (.inl (by simp)) _ | exact Keep.weaken (l := [vb]) HX.out.2.2.2 (by simp))).1 (HE.out _ (by repeat first | refine Keep.setCell ?_ (.inl (by simp)) _ | exact Keep.weaken (l := [vb]) HX.out.2.2.2 (by simp))).2 HG.out)
          · go_wp2_with fail
            refine (HDW.out _ (by repeat first | refine Keep.setCell ?_ (.inl (by simp)) _ | exact HX.out.2.2.2)).mono ?_
            rintro en x1 ⟨rfl, hk1⟩
            have HY := HN.out _ x1 1 13 false (by unfold VB; exact heap_set_same (heap_set_same (heap_set_same (heap_set_same (HX.out.1) _ _) _ _) _ _) _ _) (by repeat first | refine Keep.setCell ?_ (.inl (by simp)) _ | exact HX.out.2.2.2) hk1
            clear HX d0 d1 d2 d3 d4 d5 d6 d7 e0 e1 e2 e3 e4 e5 r0 r1 r2 r3 r4 r5 r6 r7 f0 f1 f2 f3 f4 f5 f6 f7 b3 b4 k5 k0 hk1
            have HX := HY
            clear HY
            rw [HWP.out]
            obtain ⟨⟨d0, d1, d2, d3, d4, d5, d6, d7⟩, ⟨e0, e1, e2, e3, e4, e5⟩, hvl⟩ := VB.cells HX.out.1
            obtain ⟨⟨r0, r1, r2, r3, r4, r5, r6, r7⟩, f0, f1, f2, f3, f4, f5, f6, f7⟩ := eight_cells HX.out.2.1
            obtain ⟨b3, b4⟩ := HX.out.2.2.1
            have k5 : ∀ v1 v2 v3 v4, ((((x1.setCell ⟨vb, 5, none⟩ v1).setCell ⟨vb, 0, none⟩ v2).setCell ⟨vb, 2, none⟩ v3).setCell ⟨vb, 2, none⟩ v4).cell? ⟨vb, 2, none⟩ = some v4 := fun _ _ _ _ => cell_of (heap_set_same (heap_set_same (heap_set_same (heap_set_same HX.out.1 5 _) 0 _) 2 _) 2 _) 2 rfl
            have k0 : ∀ v2 v3 v4, (((x1.setCell ⟨vb, 0, none⟩ v2).setCell ⟨vb, 2, none⟩ v3).setCell ⟨vb, 2, none⟩ v4).cell? ⟨vb, 2, none⟩ = some v4 := fun _ _ _ => cell_of (heap_set_same (heap_set_same (heap_set_same HX.out.1 0 _) 2 _) 2 _) 2 rfl
            clear hvl
            cases wp
            · go_wp2_with fail
              have HOV : Hid (overV W b a e d t p (decide (ps / 4 % 2 = 1)) kind = ⟨1, p, 15, TL, EN, false, 0, 0⟩) := Lib.hid (by
                rw [HOV.out]
                have g2 := HQB.out.1
                have g8 := HQB.out.2.1
                have g16 := HQB.out.2.2
                have gk := HK3.out
                simp [hasB] at g2 g8 g16
                simp [leadB, *])
              rw [HOV.out]
              exact bodyPost_ret (v := verV ⟨1, p, 15, TL, EN, false, 0, 0⟩ (.slice ta TL.length cap)) (by simp [results, Try.results15, go_sem, verV, r0, r1, r2, r3, r4, r5, r6, r7]) rfl (verPost_of ⟨rfl, rfl⟩ (HE.out _ (by repeat first | refine Keep.setCell ?_ (.inl (by simp)) _ | exact Keep.weaken (l := [vb]) HX.out.2.2.2 (by simp))).1 (HE.out _ (by repeat first | refine Keep.setCell ?_ (.inl (by simp)) _ | exact Keep.weaken (l := [vb]) HX.out.2.2.2 (by simp))).2 HG.out)
            · go_wp2_with fail
              have HOV : Hid (overV W b a e d t p (decide (ps / 4 % 2 = 1)) kind = ⟨1, p, 13, TL, EN, false, 0, 0⟩) := Lib.hid (by
                rw [HOV.out]
                have g2 := HQB.out.1
                have g8 := HQB.out.2.1
                have g16 := HQB.out.2.2
                have gk := HK3.out
                simp [hasB] at g2 g8 g16
                simp [leadB, *])
              rw [HOV.out]
              exact bodyPost_ret (v := verV ⟨1, p, 13, TL, EN, false, 0, 0⟩ (.slice ta TL.length cap)) (by simp [results, Try.results15, go_sem, verV, r0, r1, r2, r3, r4, r5, r6, r7]) rfl (verPost_of ⟨rfl, rfl⟩ (HE.out _ (by repeat first | refine Keep.setCell ?_ (.inl (by simp)) _ | exact Keep.weaken (l := [vb]) HX.out.2.2.2 (by simp))).1 (HE.out _ (by repeat first | refine Keep.setCell ?_ (.inl (by simp)) _ | exact Keep.weaken (l := [vb]) HX.out.2.2.2 (by simp))).2 HG.out)
end Go.Proofs.Ytnpnedimgfbnhaa
