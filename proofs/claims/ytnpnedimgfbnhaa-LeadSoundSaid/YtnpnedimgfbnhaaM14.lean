/- Contracts of the functions that the law reaches, walked, and the plain laws on them (several texts in one). -/
import Derived.Outline
import Derived.Test.YtnpnedimgfbnhaaM12

/- The verdict over a way that is watched. -/
namespace Go.Proofs.Ytnpnedimgfbnhaa
open Go.RowKit Go.Mum
set_option linter.unusedVariables false
set_option maxRecDepth 100000

set_option maxHeartbeats 8000000 in
theorem watched2_at {w : World} {mv : Value} {W : Int → Bool} (hm : Wat w mv W) (v : Value) (f : Nat → Value) (ps : Nat) (cr va kind : Int) (b a e : Nat) (d t : Nat) (p : Int) (hp : ps < 4294967296) (hb : b < 4294967296) (ha : a < 4294967296) (hk : kind = 3) (hdo : b / 16 % 2 = 0 ∨ W p = true) :
    Calls Try.prog 29 #[.agg #[v, f 0, f 1, f 2, f 3, f 4, f 5, f 6, f 7, f 8, .int .u32 ps, .int .u32 cr, f 11, f 12, f 13, f 14, f 15, f 16, f 17, f 18, mv, .int .u32 va, .int .i64 kind], .agg #[.int .u32 b, .int .u32 a, .int .u32 e, .int .i64 d, .int .i64 t, .int .i64 p]] w (VerPost (overV W b a e d t p (decide (ps / 4 % 2 = 1)) kind) w) := by
  have hmf : ∀ (fn : Fn) (first cap : Array Value) (w : World), (Instr.makeFunc fn first cap).run Try.prog w = .ok (.func fn first cap) w := fun _ _ _ _ => rfl
  obtain ⟨q, hq⟩ : ∃ q, W p = q := ⟨_, rfl⟩
  obtain ⟨pg, hpg⟩ : ∃ pg, decide (ps / 4 % 2 = 1) = pg := ⟨_, rfl⟩
  rw [hpg]
  have HM := Lib.hid hm
  have HQ := Lib.hid hq
  have HPG := Lib.hid hpg
  clear hm hq hpg
  subst hk
  by_cases h16 : b / 16 % 2 = 0
  · have m16 : bits .and .u32 (b : Int) 16 = 0 := bit0 (i := 4) hb rfl (by decide) h16
    have H16 := Lib.hid h16
    clear h16 hdo
    cases pg
    · cases q
      all_goals
        go_enter Try.func29, Try.ntmps29
        go_wp2_with fail
        refine wp_loop_rounds 3 ?_
        rw [rounds_succ]
        go_wp2_with fail
        refine (ask1_at (q := true) (by simp [go_sem])).mono ?_
        rintro en w' ⟨rfl, rfl⟩
        go_wp2_with fail
        rw [rounds_succ]
        go_wp2_with fail
        refine (ask2_at (p := p) (W := W) (mv := mv) 3 (HM.out.keep0 (by repeat first | exact Keep.refl _ _ | refine Keep.alloc ?_ _)) (by simp [go_sem]) (by simp [go_sem]) (by simp [go_sem])).mono ?_
        rintro en w' ⟨rfl, rfl⟩
        rw [HQ.out]
        simp only [decide_true, Bool.true_and]
        go_wp2_with fail
        rw [rounds_succ]
        go_wp2_with (refine wpList_load_mid rfl 91 (.tmp 2) rfl w.heap.size 0 (by rfl) [v, f 0, f 1, f 2, f 3, f 4, f 5, f 6, f 7, f 8, .int .u32 ps, .int .u32 cr, f 11, f 12, f 13, f 14, f 15, f 16, f 17, f 18, mv, .int .u32 va, .int .i64 3] _ (rangeAcc (by repeat first | (refine heap_alloc_at _ ?_; (simp; done)) | refine heap_alloc_other _ ?_)) Try.underlying91 rfl info_acc ?_)
        refine (paged_at v mv f ps cr va 3 hp _).mono ?_
        rintro en w' ⟨rfl, rfl⟩
        rw [HPG.out]
        go_wp2_with fail
        exact bodyPost_ret (v := verV (overV W b a e d t p false 3) (.slice none 0 0)) (by simp [results, Try.results29, go_sem, verV, overV, HQ.out, H16.out]) rfl (verPost_of (by simp [overV]) (reads_nil _) (by repeat first | exact Keep.refl _ _ | refine Keep.alloc ?_ _ | refine Keep.drew ?_) (.inl rfl))
    · cases q
      all_goals
        go_enter Try.func29, Try.ntmps29
        go_wp2_with fail
        refine wp_loop_rounds 3 ?_
        rw [rounds_succ]
        go_wp2_with fail
        refine (ask1_at (q := true) (by simp [go_sem])).mono ?_
        rintro en w' ⟨rfl, rfl⟩
        go_wp2_with fail
        rw [rounds_succ]
        go_wp2_with fail
        refine (ask2_at (p := p) (W := W) (mv := mv) 3 (HM.out.keep0 (by repeat first | exact Keep.refl _ _ | refine Keep.alloc ?_ _)) (by simp [go_sem]) (by simp [go_sem]) (by simp [go_sem])).mono ?_
        rintro en w' ⟨rfl, rfl⟩
        rw [HQ.out]
        simp only [decide_true, Bool.true_and]
        go_wp2_with fail
        rw [rounds_succ]
        go_wp2_with (refine wpList_load_mid rfl 91 (.tmp 2) rfl w.heap.size 0 (by rfl) [v, f 0, f 1, f 2, f 3, f 4, f 5, f 6, f 7, f 8, .int .u32 ps, .int .u32 cr, f 11, f 12, f 13, f 14, f 15, f 16, f 17, f 18, mv, .int .u32 va, .int .i64 3] _ (rangeAcc (by repeat first | (refine heap_alloc_at _ ?_; (simp; done)) | refine heap_alloc_other _ ?_)) Try.underlying91 rfl info_acc ?_)
        refine (paged_at v mv f ps cr va 3 hp _).mono ?_
        rintro en w' ⟨rfl, rfl⟩
        rw [HPG.out]
        go_wp2_with fail
        refine (lboth_at d t _).mono ?_
        rintro en w' ⟨rfl, rfl⟩
        go_wp2_with fail
        exact bodyPost_ret (v := verV (overV W b a e d t p true 3) (.slice (some ⟨w.heap.size + 1 + 1 + 1 + 1 + 1 + 1, 0, none⟩) (tabs d t).length (tabs d t).length)) (by simp [results, Try.results29, go_sem, verV, overV, HQ.out, H16.out]) rfl (verPost_of (l := tabs d t) (by simp [overV]) (reads_at _ _ (by simp)) (by repeat first | exact Keep.refl _ _ | refine Keep.alloc ?_ _ | refine Keep.drew ?_) (.inr ⟨_, rfl, by omega⟩))
  · have m16 : bits .and .u32 (b : Int) 16 = 16 := bit1 (i := 4) hb rfl (by decide) h16
    have H16 : Hid (b / 16 % 2 = 1) := Lib.hid (by omega)
    obtain rfl : q = true := by
      rcases hdo with h | h
      · exact absurd h h16
      · rw [← HQ.out]; exact h
    clear h16 hdo
    cases pg
    · skip
      go_enter Try.func29, Try.ntmps29
      go_wp2_with fail
      refine wp_loop_rounds 3 ?_
      rw [rounds_succ]
      go_wp2_with fail
      refine (ask1_at (q := false) (by simp [go_sem])).mono ?_
      rintro en w' ⟨rfl, rfl⟩
      go_wp2_with fail
      rw [rounds_succ]
      go_wp2_with fail
      refine (ask2_at (p := p) (W := W) (mv := mv) 3 (HM.out.keep0 (by repeat first | exact Keep.refl _ _ | refine Keep.alloc ?_ _)) (by simp [go_sem]) (by simp [go_sem]) (by simp [go_sem])).mono ?_
      rintro en w' ⟨rfl, rfl⟩
      rw [HQ.out]
      simp only [decide_true, Bool.true_and]
      go_wp2_with fail
      rw [rounds_succ]
      go_wp2_with (refine wpList_load_mid rfl 91 (.tmp 2) rfl w.heap.size 0 (by rfl) [v, f 0, f 1, f 2, f 3, f 4, f 5, f 6, f 7, f 8, .int .u32 ps, .int .u32 cr, f 11, f 12, f 13, f 14, f 15, f 16, f 17, f 18, mv, .int .u32 va, .int .i64 3] _ (rangeAcc (by repeat first | (refine heap_alloc_at _ ?_; (simp; done)) | refine heap_alloc_other _ ?_)) Try.underlying91 rfl info_acc ?_)
      refine (paged_at v mv f ps cr va 3 hp _).mono ?_
      rintro en w' ⟨rfl, rfl⟩
      rw [HPG.out]
      go_wp2_with fail
      exact bodyPost_ret (v := verV (overV W b a e d t p false 3) (.slice none 0 0)) (by simp [results, Try.results29, go_sem, verV, overV, HQ.out, H16.out]) rfl (verPost_of (by simp [overV]) (reads_nil _) (by repeat first | exact Keep.refl _ _ | refine Keep.alloc ?_ _ | refine Keep.drew ?_) (.inl rfl))
    · skip
      go_enter Try.func29, Try.ntmps29
      go_wp2_with fail
      refine wp_loop_rounds 3 ?_
      rw [rounds_succ]
      go_wp2_with fail
      refine (ask1_at (q := false) (by simp [go_sem])).mono ?_
      rintro en w' ⟨rfl, rfl⟩
      go_wp2_with fail
      rw [rounds_succ]
      go_wp2_with fail
      refine (ask2_at (p := p) (W := W) (mv := mv) 3 (HM.out.keep0 (by repeat first | exact Keep.refl _ _ | refine Keep.alloc ?_ _)) (by simp [go_sem]) (by simp [go_sem]) (by simp [go_sem])).mono ?_
      rintro en w' ⟨rfl, rfl⟩
      rw [HQ.out]
      simp only [decide_true, Bool.true_and]
      go_wp2_with fail
      rw [rounds_succ]
      go_wp2_with (refine wpList_load_mid rfl 91 (.tmp 2) rfl w.heap.size 0 (by rfl) [v, f 0, f 1, f 2, f 3, f 4, f 5, f 6, f 7, f 8, .int .u32 ps, .int .u32 cr, f 11, f 12, f 13, f 14, f 15, f 16, f 17, f 18, mv, .int .u32 va, .int .i64 3] _ (rangeAcc (by repeat first | (refine heap_alloc_at _ ?_; (simp; done)) | refine heap_alloc_other _ ?_)) Try.underlying91 rfl info_acc ?_)
      refine (paged_at v mv f ps cr va 3 hp _).mono ?_
      rintro en w' ⟨rfl, rfl⟩
      rw [HPG.out]
      go_wp2_with fail
      refine (lboth_at d t _).mono ?_
      rintro en w' ⟨rfl, rfl⟩
      go_wp2_with fail
      exact bodyPost_ret (v := verV (overV W b a e d t p true 3) (.slice (some ⟨w.heap.size + 1 + 1 + 1 + 1 + 1 + 1, 0, none⟩) (tabs d t).length (tabs d t).length)) (by simp [results, Try.results29, go_sem, verV, overV, HQ.out, H16.out]) rfl (verPost_of (l := tabs d t) (by simp [overV]) (reads_at _ _ (by simp)) (by repeat first | exact Keep.refl _ _ | refine Keep.alloc ?_ _ | refine Keep.drew ?_) (.inr ⟨_, rfl, by omega⟩))
end Go.Proofs.Ytnpnedimgfbnhaa

/- Where an access leads. -/
namespace Go.Proofs.Ytnpnedimgfbnhaa
open Go.RowKit Go.Mum
set_option linter.unusedVariables false
set_option maxRecDepth 100000

/-- Where an access leads: its way. -/
def wayL (rd : Nat → Option Nat) (n cr ps va : Nat) (kind : Int) : Option (Nat × Nat × Nat × Nat × Nat × Nat) :=
  if (toF rd n cr 16 ps va kind).2 = false then none else if ps / 4 % 2 = 1 then lookF rd n cr 16 va else some (23, (toF rd n cr 16 ps va kind).1, 0, 0, 0, (toF rd n cr 16 ps va kind).1 / 64)

theorem toF_lt {rd : Nat → Option Nat} {n cr ps va : Nat} {kind : Int} (hlt : ∀ a z, rd a = some z → z < 4294967296) (hv : va < 4294967296) : (toF rd n cr 16 ps va kind).1 < 4294967296 := by
  unfold toF
  split
  · split
    · simp
    · exact hv
  · split
    · simp
    · rename_i b a e d t p h
      split
      · exact (lookF_lt hlt h).2.1
      · simp

theorem six_cells {x : World} {rb : Nat} {t : TypeId} (h : x.heap[rb]? = some (.cells #[.int .u32 0, .int .u32 0, .int .u32 0, .int .i64 0, .int .i64 0, .int .i64 0] t (0, 0))) :
    (x.cell? ⟨rb, 0, none⟩ = some (.int .u32 0) ∧ x.cell? ⟨rb, 1, none⟩ = some (.int .u32 0) ∧ x.cell? ⟨rb, 2, none⟩ = some (.int .u32 0) ∧ x.cell? ⟨rb, 3, none⟩ = some (.int .i64 0) ∧ x.cell? ⟨rb, 4, none⟩ = some (.int .i64 0) ∧ x.cell? ⟨rb, 5, none⟩ = some (.int .i64 0)) ∧
    (x.frozen? ⟨rb, 0, none⟩ = false ∧ x.frozen? ⟨rb, 1, none⟩ = false ∧ x.frozen? ⟨rb, 2, none⟩ = false ∧ x.frozen? ⟨rb, 3, none⟩ = false ∧ x.frozen? ⟨rb, 4, none⟩ = false ∧ x.frozen? ⟨rb, 5, none⟩ = false) :=
  ⟨⟨cell_of h 0 rfl, cell_of h 1 rfl, cell_of h 2 rfl, cell_of h 3 rfl, cell_of h 4 rfl, cell_of h 5 rfl⟩, frozen_of h 0, frozen_of h 1, frozen_of h 2, frozen_of h 3, frozen_of h 4, frozen_of h 5⟩

set_option maxHeartbeats 4000000 in
theorem way_at {w : World} {v : Value} {n : Nat} {rd : Nat → Option Nat} (h : Mem w v n rd) (mv : Value) (f : Nat → Value) (ps cr va : Nat) (kind : Int) (hp : ps < 4294967296) (hc : cr < 4294967296) (hv : va < 4294967296) (hk1 : -9223372036854775808 ≤ kind) (hk2 : kind ≤ 9223372036854775807) :
    Calls Try.prog 30 #[.agg #[v, f 0, f 1, f 2, f 3, f 4, f 5, f 6, f 7, f 8, .int .u32 ps, .int .u32 cr, f 11, f 12, f 13, f 14, f 15, f 16, f 17, f 18, mv, .int .u32 va, .int .i64 kind]] w (LookPost (wayL rd n cr ps va kind) w) := by
  have HM := Lib.hid h
  clear h
  have hlt := fun a z (hz : rd a = some z) => HM.out.lt a z hz
  have hq1 : (toF rd n cr 16 ps va kind).1 < 4294967296 := toF_lt hlt hv
  clear hlt
  obtain ⟨q, hq⟩ : ∃ q, toF rd n cr 16 ps va kind = q := ⟨_, rfl⟩
  rw [hq] at hq1
  have hW : wayL rd n cr ps va kind = if q.2 = false then none else if ps / 4 % 2 = 1 then lookF rd n cr 16 va else some (23, q.1, 0, 0, 0, q.1 / 64) := by unfold wayL; rw [hq]
  obtain ⟨r, hr⟩ : ∃ r, wayL rd n cr ps va kind = r := ⟨_, rfl⟩
  rw [hr]
  have HR := Lib.hid (hr.symm.trans hW)
  have HQ := Lib.hid hq
  clear hW hq hr
  obtain ⟨qa, qb⟩ := q
  simp only at hq1 ⊢
  obtain ⟨pg, hpg⟩ : ∃ pg, decide (ps / 4 % 2 = 1) = pg := ⟨_, rfl⟩
  have HPG := Lib.hid hpg
  obtain ⟨sz, hsz⟩ : ∃ sz, sz = w.heap.size := ⟨_, rfl⟩
  go_enter Try.func30, Try.ntmps30
  go_wp2_with fail
  rw [← hsz]
  generalize hy : World.alloc (World.alloc w _) _ = y0
  have H0 : Hid (y0.heap[sz]? = some (.cells #[v, f 0, f 1, f 2, f 3, f 4, f 5, f 6, f 7, f 8, .int .u32 ps, .int .u32 cr, f 11, f 12, f 13, f 14, f 15, f 16, f 17, f 18, mv, .int .u32 va, .int .i64 kind] 91 (0, 0)) ∧ y0.heap[sz + 1]? = some (.cells #[.int .u32 0, .int .u32 0, .int .u32 0, .int .i64 0, .int .i64 0, .int .i64 0] 34 (0, 0)) ∧ Keep [] w y0 ∧ w.heap.size ≤ sz + 1) := Lib.hid (by
    subst hy hsz
    exact ⟨heap_alloc_other _ (heap_alloc_same _ _), heap_alloc_at _ (by simp), ((Keep.refl _ _).alloc _).alloc _, by omega⟩)
  clear hy hsz
  refine (to_at (HM.out.keep0 H0.out.2.2.1) cr 16 ps va kind hc (by omega) hp hv hk1 hk2).mono ?_
  rintro e y ⟨rfl, hk⟩
  rw [HQ.out]
  simp only
  have HY : Hid (∀ x, Keep [] y x → x.rangeAt sz 0 [v, f 0, f 1, f 2, f 3, f 4, f 5, f 6, f 7, f 8, .int .u32 ps, .int .u32 cr, f 11, f 12, f 13, f 14, f 15, f 16, f 17, f 18, mv, .int .u32 va, .int .i64 kind] ∧ x.heap[sz + 1]? = some (.cells #[.int .u32 0, .int .u32 0, .int .u32 0, .int .i64 0, .int .i64 0, .int .i64 0] 34 (0, 0)) ∧ Keep [] w x ∧ (x.cell? ⟨sz, 0, none⟩ = some v ∧ x.cell? ⟨sz, 11, none⟩ = some (.int .u32 cr) ∧ x.cell? ⟨sz, 21, none⟩ = some (.int .u32 va))) := Lib.hid (fun x hx => by
    have k := hk.trans hx
    have h1 := k.heap H0.out.1 (by simp)
    exact ⟨rangeAcc h1, k.heap H0.out.2.1 (by simp), H0.out.2.2.1.trans k, cell_of h1 0 rfl, cell_of h1 11 rfl, cell_of h1 21 rfl⟩)
  have hge := Lib.hid H0.out.2.2.2
  clear hk H0
  cases qb
  · obtain ⟨⟨c0, c1, c2, c3, c4, c5⟩, f0, f1, f2, f3, f4, f5⟩ := six_cells (HY.out y (Keep.refl _ _)).2.1
    obtain rfl : r = none := by rw [HR.out]; rfl
    go_wp2_with fail
    exact bodyPost_ret (v := .tuple #[wayV none, .bool false]) (by simp [results, Try.results30, go_sem, wayV, c0, c1, c2, c3, c4, c5]) rfl ⟨rfl, keep_six (HY.out y (Keep.refl _ _)).2.2.1 hge.out⟩
  · have HR2 : Hid (r = if ps / 4 % 2 = 1 then lookF rd n cr 16 va else some (23, qa, 0, 0, 0, qa / 64)) := Lib.hid (by rw [HR.out]; simp)
    clear HR
    go_wp2_with (refine wpList_load_mid rfl 91 (.tmp 1) rfl sz 0 (by rfl) [v, f 0, f 1, f 2, f 3, f 4, f 5, f 6, f 7, f 8, .int .u32 ps, .int .u32 cr, f 11, f 12, f 13, f 14, f 15, f 16, f 17, f 18, mv, .int .u32 va, .int .i64 kind] _ (HY.out y (Keep.refl _ _)).1 Try.underlying91 rfl info_acc ?_)
    refine (paged_at v mv f ps cr va kind hp _).mono ?_
    rintro en y1 ⟨rfl, hy1⟩
    rw [HPG.out]
    have hk1 := Lib.hid (show Keep [] y y1 by rw [← hy1]; exact (Keep.refl _ _).alloc _)
    clear hy1
    cases pg
    · obtain rfl : r = some (23, qa, 0, 0, 0, qa / 64) := by rw [HR2.out, if_neg (of_decide_eq_false HPG.out)]
      obtain ⟨⟨c0, c1, c2, c3, c4, c5⟩, f0, f1, f2, f3, f4, f5⟩ := six_cells (HY.out y1 hk1.out).2.1
      go_wp2_with fail
      exact bodyPost_ret (v := .tuple #[wayV (some (23, qa, 0, 0, 0, qa / 64)), .bool true]) (by simp [results, Try.results30, go_sem, wayV, c0, c1, c2, c3, c4, c5]) rfl ⟨rfl, keep_six (HY.out y1 hk1.out).2.2.1 hge.out⟩
    · have HR3 := Lib.hid (HR2.out.trans (if_pos (of_decide_eq_true HPG.out)))
      clear HR2
      obtain ⟨b0, b1, b2⟩ := (HY.out y1 hk1.out).2.2.2
      go_wp2_with fail
      refine (look_at ((HM.out.keep0 (HY.out y1 hk1.out).2.2.1)) cr 16 va hc (by omega) hv).mono ?_
      rintro en y2 ⟨rfl, hk2⟩
      have hk3 := hk1.out.trans hk2
      obtain ⟨⟨c0, c1, c2, c3, c4, c5⟩, f0, f1, f2, f3, f4, f5⟩ := six_cells (HY.out y2 hk3).2.1
      have HK3 := Lib.hid hk3
      clear hk2 hk3 b0 b1 b2
      obtain ⟨l, hl⟩ : ∃ l, lookF rd n cr 16 va = l := ⟨_, rfl⟩
      rw [hl]
      obtain rfl : r = l := by rw [HR3.out, hl]
      clear HR3 hl
      cases r with
      | none =>
        unfold wayV
        go_wp2_with fail
        exact bodyPost_ret (v := .tuple #[wayV none, .bool false]) (by simp [results, Try.results30, go_sem, wayV, c0, c1, c2, c3, c4, c5]) rfl ⟨rfl, keep_six (HY.out y2 HK3.out).2.2.1 hge.out⟩
      | some l =>
        obtain ⟨b, a, e, d, t, p⟩ := l
        unfold wayV
        go_wp2_with fail
        exact bodyPost_ret (v := .tuple #[wayV (some (b, a, e, d, t, p)), .bool true]) (by simp [results, Try.results30, go_sem, wayV, c0, c1, c2, c3, c4, c5]) rfl ⟨rfl, keep_six (HY.out y2 HK3.out).2.2.1 hge.out⟩
end Go.Proofs.Ytnpnedimgfbnhaa
