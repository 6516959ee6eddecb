/- The verdict over a way that is watched. -/
import Derived.Test.YtnpnedimgfbnhaaLead2
import Derived.Outline
namespace Go.Proofs.Ytnpnedimgfbnhaa
open Go.RowKit Go.Mum
set_option linter.unusedVariables false
set_option maxRecDepth 100000

set_option maxHeartbeats 8000000 in
theorem watched2_at {w : World} {mv : Value} {W : Int → Bool} (hm : Wat w mv W) (v : Value) (f : Nat → Value) (ps : Nat) (cr va kind : Int) (b a e : Nat) (d t : Nat) (p : Int) (hp : ps < 4294967296) (hb : b < 4294967296) (ha : a < 4294967296) (hk : kind = 3) (hdo : b / 16 % 2 = 0 ∨ W p = true) :
    Calls Try.prog 29 #[.agg #[v, f 0, f 1, f 2, f 3, f 4, f 5, f 6, f 7, f 8, .int .u32 ps, .int .u32 cr, f 11, f 12, f 13, f 14, f 15, f 16, f 17, f 18, mv, .int .u32 va, .int .i64 kind], .agg #[.int .u32 b, .int .u32 a, .int .u32 e, .int .i64 d, .int .i64 t, .int .i64 p]] w (VerPost (overV W b a e d t p (decide (ps / 4 % 2 = 1)) kind) w) := by
  have hmf : ∀ (fn : Fn) (first cap : Array Value) (w : World), (Instr.makeFunc fn first cap).run Try.prog w = .ok (.func fn first cap) w := fun _ _ _ _ => rfl
  obtain ⟨q, hq⟩ : ∃ q, W p = q := ⟨_, rfl⟩
  obtain ⟨pg, hpg⟩ : ∃ pg, decide (ps / 4 % 2 = 1) = pg := ⟨_, rfl⟩
  rw [hpg]
  have HM := Lib.hid hm
  have HQ := Lib.hid hq
  have HPG := Lib.hid hpg
  clear hm hq hpg
  subst hk
  by_cases h16 : b / 16 % 2 = 0
  · have m16 : bits .and .u32 (b : Int) 16 = 0 := bit0 (i := 4) hb rfl (by decide) h16
    have H16 := Lib.hid h16
    clear h16 hdo
    cases pg
    · cases q
      all_goals
        go_enter Try.func29, Try.ntmps29
        go_wp2_with fail
        refine wp_loop_rounds 3 ?_
        rw [rounds_succ]
        go_wp2_with fail
        refine (ask1_at (q := true) (by simp [go_sem])).mono ?_
        rintro en w' ⟨rfl, rfl⟩
        go_wp2_with fail
        rw [rounds_succ]
        go_wp2_with fail
        refine (ask2_at (p := p) (W := W) (mv := mv) 3 (HM.out.keep0 (by repeat first | exact Keep.refl _ _ | refine Keep.alloc ?_ _)) (by simp [go_sem]) (by simp [go_sem]) (by simp [go_sem])).mono ?_
        rintro en w' ⟨rfl, rfl⟩
        rw [HQ.out]
        simp only [decide_true, Bool.true_and]
        go_wp2_with fail
        rw [rounds_succ]
        go_wp2_with (refine wpList_load_mid rfl 91 (.tmp 2) rfl w.heap.size 0 (by rfl) [v, f 0, f 1, f 2, f 3, f 4, f 5, f 6, f 7, f 8, .int .u32 ps, .int .u32 cr, f 11, f 12, f 13, f 14, f 15, f 16, f 17, f 18, mv, .int .u32 va, .int .i64 3] _ (rangeAcc (by repeat first | (refine heap_alloc_at _ ?_; (simp; done)) | refine heap_alloc_other _ ?_)) Try.underlying91 rfl info_acc ?_)
        refine (paged_at v mv f ps cr va 3 hp _).mono ?_
        rintro en w' ⟨rfl, rfl⟩
        rw [HPG.out]
        go_wp2_with fail
        exact bodyPost_ret (v := verV (overV W b a e d t p false 3) (.slice none 0 0)) (by simp [results, Try.results29, go_sem, verV, overV, HQ.out, H16.out]) rfl (verPost_of (by simp [overV]) (reads_nil _) (by repeat first | exact Keep.refl _ _ | refine Keep.alloc ?_ _ | refine Keep.drew ?_) (.inl rfl))
    · cases q
      all_goals
        go_enter Try.func29, Try.ntmps29
        go_wp2_with fail
        refine wp_loop_rounds 3 ?_
        rw [rounds_succ]
        go_wp2_with fail
        refine (ask1_at (q := true) (by simp [go_sem])).mono ?_
        rintro en w' ⟨rfl, rfl⟩
        go_wp2_with fail
        rw [rounds_succ]
        go_wp2_with fail
        refine (ask2_at (p := p) (W := W) (mv := mv) 3 (HM.out.keep0 (by repeat first | exact Keep.refl _ _ | refine Keep.alloc ?_ _)) (by simp [go_sem]) (by simp [go_sem]) (by simp [go_sem])).mono ?_
        rintro en w' ⟨rfl, rfl⟩
        rw [HQ.out]
        simp only [decide_true, Bool.true_and]
        go_wp2_with fail
        rw [rounds_succ]
        go_wp2_with (refine wpList_load_mid rfl 91 (.tmp 2) rfl w.heap.size 0 (by rfl) [v, f 0, f 1, f 2, f 3, f 4, f 5, f 6, f 7, f 8, .int .u32 ps, .int .u32 cr, f 11, f 12, f 13, f 14, f 15, f 16, f 17, f 18, mv, .int .u32 va, .int .i64 3] _ (rangeAcc (by repeat first | (refine heap_alloc_at _ ?_; (simp; done)) | refine heap_alloc_other _ ?_)) Try.underlying91 rfl info_acc ?_)
        refine (paged_at v mv f ps cr va 3 hp _).mono ?_
        rintro en w' ⟨rfl, rfl⟩
        rw [HPG.out]
        go_wp2_with fail
        refine (lboth_at d t _).mono ?_
        rintro en w' ⟨rfl, rfl⟩
        go_wp2_with fail
        exact bodyPost_ret (v := verV (overV W b a e d t p true 3) (.slice (some ⟨w.heap.size + 1 + 1 + 1 + 1 + 1 + 1, 0, none⟩) (tabs d t).length (tabs d t).length)) (by simp [results, Try.results29, go_sem, verV, overV, HQ.out, H16.out]) rfl (verPost_of (l := tabs d t) (by simp [overV]) (reads_at _ _ (by simp)) (by repeat first | exact Keep.refl _ _ | refine Keep.alloc ?_ _ | refine Keep.drew ?_) (.inr ⟨_, rfl, by omega⟩))
  · have m16 : bits .and .u32 (b : Int) 16 = 16 := bit1 (i := 4) hb rfl (by decide) h16
    have H16 : Hid (b / 16 % 2 = 1) := Lib.hid (by omega)
    obtain rfl : q = true := by
      rcases hdo with h | h
      · exact absurd h h16
      · rw [← HQ.out]; exact h
    clear h16 hdo
    cases pg
    · skip
      go_enter Try.func29, Try.ntmps29
      go_wp2_with fail
      refine wp_loop_rounds 3 ?_
      rw [rounds_succ]
      go_wp2_with fail
      refine (ask1_at (q := false) (by simp [go_sem])).mono ?_
      rintro en w' ⟨rfl, rfl⟩
      go_wp2_with fail
      rw [rounds_succ]
      go_wp2_with fail
      refine (ask2_at (p := p) (W := W) (mv := mv) 3 (HM.out.keep0 (by repeat first | exact Keep.refl _ _ | refine Keep.alloc ?_ _)) (by simp [go_sem]) (by simp [go_sem]) (by simp [go_sem])).mono ?_
      rintro en w' ⟨rfl, rfl⟩
      rw [HQ.out]
      simp only [decide_true, Bool.true_and]
      go_wp2_with fail
      rw [rounds_succ]
      go_wp2_with (refine wpList_load_mid rfl 91 (.tmp 2) rfl w.heap.size 0 (by rfl) [v, f 0, f 1, f 2, f 3, f 4, f 5, f 6, f 7, f 8, .int .u32 ps, .int .u32 cr, f 11, f 12, f 13, f 14, f 15, f 16, f 17, f 18, mv, .int .u32 va, .int .i64 3] _ (rangeAcc (by repeat first | (refine heap_alloc_at _ ?_; (simp; done)) | refine heap_alloc_other _ ?_)) Try.underlying91 rfl info_acc ?_)
      refine (paged_at v mv f ps cr va 3 hp _).mono ?_
      rintro en w' ⟨rfl, rfl⟩
      rw [HPG.out]
      go_wp2_with fail
      exact bodyPost_ret (v := verV (overV W b a e d t p false 3) (.slice none 0 0)) (by simp [results, Try.results29, go_sem, verV, overV, HQ.out, H16.out]) rfl (verPost_of (by simp [overV]) (reads_nil _) (by repeat first | exact Keep.refl _ _ | refine Keep.alloc ?_ _ | refine Keep.drew ?_) (.inl rfl))
    · skip
      go_enter Try.func29, Try.ntmps29
      go_wp2_with fail
      refine wp_loop_rounds 3 ?_
      rw [rounds_succ]
      go_wp2_with fail
      refine (ask1_at (q := false) (by simp [go_sem])).mono ?_
      rintro en w' ⟨rfl, rfl⟩
      go_wp2_with fail
      rw [rounds_succ]
      go_wp2_with fail
      refine (ask2_at (p := p) (W := W) (mv := mv) 3 (HM.out.keep0 (by repeat first | exact Keep.refl _ _ | refine Keep.alloc ?_ _)) (by simp [go_sem]) (by simp [go_sem]) (by simp [go_sem])).mono ?_
      rintro en w' ⟨rfl, rfl⟩
      rw [HQ.out]
      simp only [decide_true, Bool.true_and]
      go_wp2_with fail
      rw [rounds_succ]
      go_wp2_with (refine wpList_load_mid rfl 91 (.tmp 2) rfl w.heap.size 0 (by rfl) [v, f 0, f 1, f 2, f 3, f 4, f 5, f 6, f 7, f 8, .int .u32 ps, .int .u32 cr, f 11, f 12, f 13, f 14, f 15, f 16, f 17, f 18, mv, .int .u32 va, .int .i64 3] _ (rangeAcc (by repeat first | (refine heap_alloc_at _ ?_; (simp; done)) | refine heap_alloc_other _ ?_)) Try.underlying91 rfl info_acc ?_)
      refine (paged_at v mv f ps cr va 3 hp _).mono ?_
      rintro en w' ⟨rfl, rfl⟩
      rw [HPG.out]
      go_wp2_with fail
      refine (lboth_at d t _).mono ?_
      rintro en w' ⟨rfl, rfl⟩
      go_wp2_with fail
      exact bodyPost_ret (v := verV (overV W b a e d t p true 3) (.slice (some ⟨w.heap.size + 1 + 1 + 1 + 1 + 1 + 1, 0, none⟩) (tabs d t).length (tabs d t).length)) (by simp [results, Try.results29, go_sem, verV, overV, HQ.out, H16.out]) rfl (verPost_of (l := tabs d t) (by simp [overV]) (reads_at _ _ (by simp)) (by repeat first | exact Keep.refl _ _ | refine Keep.alloc ?_ _ | refine Keep.drew ?_) (.inr ⟨_, rfl, by omega⟩))
end Go.Proofs.Ytnpnedimgfbnhaa
