/- Contracts of the functions that the law reaches, walked, and the plain laws on them (several texts in one). -/
import Derived.Outline
import Derived.Test.YtnpnedimgfbnhaaM12
import Derived.Test.YtnpnedimgfbnhaaM04

/- The verdict over a way that is led on. -/
namespace Go.Proofs.Ytnpnedimgfbnhaa
open Go.RowKit Go.Mum
set_option linter.unusedVariables false
set_option maxRecDepth 100000

set_option maxHeartbeats 8000000 in
theorem watched1_at {w : World} {mv : Value} {W : Int → Bool} (hm : Wat w mv W) (v : Value) (f : Nat → Value) (ps : Nat) (cr va kind : Int) (b a e : Nat) (d t : Nat) (p : Int) (hp : ps < 4294967296) (hb : b < 4294967296) (ha : a < 4294967296) (hdo : ¬ (kind = 3 ∧ (b / 16 % 2 = 0 ∨ W p = true))) :
    Calls Try.prog 29 #[.agg #[v, f 0, f 1, f 2, f 3, f 4, f 5, f 6, f 7, f 8, .int .u32 ps, .int .u32 cr, f 11, f 12, f 13, f 14, f 15, f 16, f 17, f 18, mv, .int .u32 va, .int .i64 kind], .agg #[.int .u32 b, .int .u32 a, .int .u32 e, .int .i64 d, .int .i64 t, .int .i64 p]] w (VerPost (overV W b a e d t p (decide (ps / 4 % 2 = 1)) kind) w) := by
  have hmf : ∀ (fn : Fn) (first cap : Array Value) (w : World), (Instr.makeFunc fn first cap).run Try.prog w = .ok (.func fn first cap) w := fun _ _ _ _ => rfl
  obtain ⟨q, hq⟩ : ∃ q, W p = q := ⟨_, rfl⟩
  obtain ⟨pg, hpg⟩ : ∃ pg, decide (ps / 4 % 2 = 1) = pg := ⟨_, rfl⟩
  rw [hpg]
  have HM := Lib.hid hm
  have HQ := Lib.hid hq
  have HPG := Lib.hid hpg
  clear hm hpg
  by_cases hk : kind = 3
  · subst hk
    have h16 : b / 16 % 2 = 1 := by
      have : ¬ b / 16 % 2 = 0 := fun h => hdo ⟨rfl, .inl h⟩
      omega
    obtain rfl : q = false := by
      cases q
      · rfl
      · exact absurd ⟨rfl, .inr hq⟩ hdo
    have m16 : bits .and .u32 (b : Int) 16 = 16 := bit1 (i := 4) hb rfl (by decide) (by omega)
    have H16 := Lib.hid h16
    clear h16 hdo hq
    cases pg
    · skip
      go_enter Try.func29, Try.ntmps29
      go_wp2_with fail
      refine wp_loop_rounds 3 ?_
      rw [rounds_succ]
      go_wp2_with fail
      refine (ask1_at (q := false) (by simp [go_sem])).mono ?_
      rintro en w' ⟨rfl, rfl⟩
      go_wp2_with fail
      rw [rounds_succ]
      go_wp2_with fail
      refine (ask2_at (p := p) (W := W) (mv := mv) 3 (HM.out.keep0 (by repeat first | exact Keep.refl _ _ | refine Keep.alloc ?_ _)) (by simp [go_sem]) (by simp [go_sem]) (by simp [go_sem])).mono ?_
      rintro en w' ⟨rfl, rfl⟩
      rw [HQ.out]
      simp only [decide_true, Bool.true_and]
      go_wp2_with fail
      rw [rounds_succ]
      go_wp2_with (refine wpList_load_mid rfl 91 (.tmp 2) rfl w.heap.size 0 (by rfl) [v, f 0, f 1, f 2, f 3, f 4, f 5, f 6, f 7, f 8, .int .u32 ps, .int .u32 cr, f 11, f 12, f 13, f 14, f 15, f 16, f 17, f 18, mv, .int .u32 va, .int .i64 3] _ (rangeAcc (by repeat first | (refine heap_alloc_at _ ?_; (simp; done)) | refine heap_alloc_other _ ?_)) Try.underlying91 rfl info_acc ?_)
      refine (paged_at v mv f ps cr va 3 hp _).mono ?_
      rintro en w' ⟨rfl, rfl⟩
      rw [HPG.out]
      go_wp2_with fail
      generalize hY : World.alloc (World.alloc (World.alloc (World.alloc (World.alloc (World.alloc w _) _) _) _) _) _ = y
      have HA : Hid (y.heap[w.heap.size]? = some (.cells #[v, f 0, f 1, f 2, f 3, f 4, f 5, f 6, f 7, f 8, .int .u32 ps, .int .u32 cr, f 11, f 12, f 13, f 14, f 15, f 16, f 17, f 18, mv, .int .u32 va, .int .i64 3] 91 (0, 0)) ∧ y.heap[w.heap.size + 1]? = some (.cells #[.int .u32 b, .int .u32 a, .int .u32 e, .int .i64 d, .int .i64 t, .int .i64 p] 34 (0, 0))) := Lib.hid (by rw [← hY]; exact ⟨by repeat first | (refine heap_alloc_at _ ?_; (simp; done)) | refine heap_alloc_other _ ?_, by repeat first | (refine heap_alloc_at _ ?_; (simp; done)) | refine heap_alloc_other _ ?_⟩)
      have HS : Hid (∀ x, Keep [w.heap.size + 1 + 1 + 1] y x → x.cell? ⟨w.heap.size, 0, none⟩ = some v ∧ x.cell? ⟨w.heap.size, 20, none⟩ = some mv ∧ x.rangeAt w.heap.size 0 [v, f 0, f 1, f 2, f 3, f 4, f 5, f 6, f 7, f 8, .int .u32 ps, .int .u32 cr, f 11, f 12, f 13, f 14, f 15, f 16, f 17, f 18, mv, .int .u32 va, .int .i64 3] ∧ x.cell? ⟨w.heap.size + 1, 0, none⟩ = some (.int .u32 b) ∧ x.cell? ⟨w.heap.size + 1, 1, none⟩ = some (.int .u32 a) ∧ x.cell? ⟨w.heap.size + 1, 2, none⟩ = some (.int .u32 e) ∧ x.cell? ⟨w.heap.size + 1, 3, none⟩ = some (.int .i64 d) ∧ x.cell? ⟨w.heap.size + 1, 4, none⟩ = some (.int .i64 t) ∧ x.cell? ⟨w.heap.size + 1, 5, none⟩ = some (.int .i64 p)) := Lib.hid (fun x hx => ⟨cell_of (hx.heap HA.out.1 (by simp <;> omega)) 0 rfl, cell_of (hx.heap HA.out.1 (by simp <;> omega)) 20 rfl, rangeAcc (hx.heap HA.out.1 (by simp <;> omega)), cell_of (hx.heap HA.out.2 (by simp <;> omega)) 0 rfl, cell_of (hx.heap HA.out.2 (by simp <;> omega)) 1 rfl, cell_of (hx.heap HA.out.2 (by simp <;> omega)) 2 rfl, cell_of (hx.heap HA.out.2 (by simp <;> omega)) 3 rfl, cell_of (hx.heap HA.out.2 (by simp <;> omega)) 4 rfl, cell_of (hx.heap HA.out.2 (by simp <;> omega)) 5 rfl⟩)
      have HY := Lib.hid hY
      have HMY : Hid (Wat y mv W) := Lib.hid (HM.out.keep0 (by rw [← hY]; repeat first | exact Keep.refl _ _ | refine Keep.alloc ?_ _))
      clear hY HA
      refine wp_region_held_drew (S := fun x => x.cell? ⟨w.heap.size, 0, none⟩ = some v ∧ x.cell? ⟨w.heap.size, 20, none⟩ = some mv ∧ x.rangeAt w.heap.size 0 [v, f 0, f 1, f 2, f 3, f 4, f 5, f 6, f 7, f 8, .int .u32 ps, .int .u32 cr, f 11, f 12, f 13, f 14, f 15, f 16, f 17, f 18, mv, .int .u32 va, .int .i64 3] ∧ x.cell? ⟨w.heap.size + 1, 0, none⟩ = some (.int .u32 b) ∧ x.cell? ⟨w.heap.size + 1, 1, none⟩ = some (.int .u32 a) ∧ x.cell? ⟨w.heap.size + 1, 2, none⟩ = some (.int .u32 e) ∧ x.cell? ⟨w.heap.size + 1, 3, none⟩ = some (.int .i64 d) ∧ x.cell? ⟨w.heap.size + 1, 4, none⟩ = some (.int .i64 t) ∧ x.cell? ⟨w.heap.size + 1, 5, none⟩ = some (.int .i64 p)) (by kernel_rfl) (HS.out _ (Keep.refl _ y).drew) (fun hHeld => ?_)
      skip
      refine wpAnyH_take (i := 0) (oi := { dst := some 48, op := Op.fieldAddr 91 (Operand.tmp 2) 0, type := 0, pos := "lead.go:84", after := #[], guard := none }) (v := ?_) rfl (by kernel_rfl) (by kernel_rfl) (by kernel_rfl) (fun _ _ _ h => h) (Or.inl ⟨by rfl, ?_⟩) (by assumption) ?_
      rotate_left
      focus (intro w hSw; (try dsimp only at hSw); go_simp <;> with_reducible rfl)
      try simp only [Act.put, List.setIfInBounds_toArray, List.set_cons_zero, List.set_cons_succ]
      refine wpAnyH_take (i := 1) (oi := { dst := some 49, op := Op.load 48 (Operand.tmp 48), type := 48, pos := "lead.go:84", after := #[{ on := 0, ground := Ground.data }], guard := none }) (v := ?_) rfl (by kernel_rfl) (by kernel_rfl) (by kernel_rfl) (fun _ _ _ h => h) (Or.inl ⟨by rfl, ?_⟩) (by assumption) ?_
      rotate_left
      focus (intro w hSw; (try dsimp only at hSw); go_simp <;> with_reducible rfl)
      try simp only [Act.put, List.setIfInBounds_toArray, List.set_cons_zero, List.set_cons_succ]
      refine wpAnyH_take (i := 2) (oi := { dst := some 50, op := Op.load 34 (Operand.tmp 3), type := 34, pos := "lead.go:84", after := #[], guard := none }) (v := ?_) rfl (by kernel_rfl) (by kernel_rfl) (by kernel_rfl) (fun _ _ _ h => h) (Or.inl ⟨by rfl, ?_⟩) (by assumption) ?_
      rotate_left
      focus (intro w hSw; (try dsimp only at hSw); go_simp <;> with_reducible rfl)
      try simp only [Act.put, List.setIfInBounds_toArray, List.set_cons_zero, List.set_cons_succ]
      refine wpAnyH_take (i := 5) (oi := { dst := some 53, op := Op.fieldAddr 91 (Operand.tmp 2) 2, type := 0, pos := "lead.go:84", after := #[], guard := none }) (v := ?_) rfl (by kernel_rfl) (by kernel_rfl) (by kernel_rfl) (fun _ _ _ h => h) (Or.inl ⟨by rfl, ?_⟩) (by assumption) ?_
      rotate_left
      focus (intro w hSw; (try dsimp only at hSw); go_simp <;> with_reducible rfl)
      try simp only [Act.put, List.setIfInBounds_toArray, List.set_cons_zero, List.set_cons_succ]
      refine wpAnyH_take (i := 6) (oi := { dst := some 54, op := Op.load 26 (Operand.tmp 53), type := 26, pos := "lead.go:84", after := #[{ on := 5, ground := Ground.data }], guard := none }) (v := ?_) rfl (by kernel_rfl) (by kernel_rfl) (by kernel_rfl) (fun _ _ _ h => h) (Or.inl ⟨by rfl, ?_⟩) (by assumption) ?_
      rotate_left
      focus (intro w hSw; (try dsimp only at hSw); go_simp <;> with_reducible rfl)
      try simp only [Act.put, List.setIfInBounds_toArray, List.set_cons_zero, List.set_cons_succ]
      refine wpAnyH_take (i := 3) (oi := { dst := some 51, op := Op.load 91 (Operand.tmp 2), type := 91, pos := "lead.go:84", after := #[], guard := none }) (v := _) rfl (by kernel_rfl) (by kernel_rfl) (by kernel_rfl) (fun _ _ _ h => h) (yieldsIf_load_mid (by rfl) 91 (.tmp 2) rfl w.heap.size 0 rfl [v, f 0, f 1, f 2, f 3, f 4, f 5, f 6, f 7, f 8, .int .u32 ps, .int .u32 cr, f 11, f 12, f 13, f 14, f 15, f 16, f 17, f 18, mv, .int .u32 va, .int .i64 3] _ (fun _ h => h.2.2.1) Try.underlying91 rfl info_acc) (by assumption) ?_
      try simp only [Act.put, List.setIfInBounds_toArray, List.set_cons_zero, List.set_cons_succ]
      refine wpAnyH_ready (rs := [4]) (by kernel_rfl) (by simp) ?_
      refine AllReadyH.cons (o := { dst := some 52, op := Op.call { callee := Callee.value (Operand.func 48), args := #[Operand.tmp 51], argTypes := #[91] }, type := 4, pos := "lead.go:84", after := #[{ on := 3, ground := Ground.data }], guard := none }) rfl (fun K hK => ?_) AllReadyH.nil
      go_simp
      refine (paged_at v mv f ps cr va 3 hp _).mono ?_
      rintro en y1 ⟨rfl, hy1⟩
      rw [HPG.out]
      go_wp2_with fail
      have hk1 := Lib.hid (show Keep [] y y1 by rw [← hy1]; exact ((Keep.refl [] y).drew).alloc _)
      have HY1 := Lib.hid hy1
      clear hy1
      refine shut_grow (fun x => x.cell? ⟨w.heap.size, 0, none⟩ = some v ∧ x.cell? ⟨w.heap.size, 20, none⟩ = some mv ∧ x.rangeAt w.heap.size 0 [v, f 0, f 1, f 2, f 3, f 4, f 5, f 6, f 7, f 8, .int .u32 ps, .int .u32 cr, f 11, f 12, f 13, f 14, f 15, f 16, f 17, f 18, mv, .int .u32 va, .int .i64 3] ∧ x.cell? ⟨w.heap.size + 1, 0, none⟩ = some (.int .u32 b) ∧ x.cell? ⟨w.heap.size + 1, 1, none⟩ = some (.int .u32 a) ∧ x.cell? ⟨w.heap.size + 1, 2, none⟩ = some (.int .u32 e) ∧ x.cell? ⟨w.heap.size + 1, 3, none⟩ = some (.int .i64 d) ∧ x.cell? ⟨w.heap.size + 1, 4, none⟩ = some (.int .i64 t) ∧ x.cell? ⟨w.heap.size + 1, 5, none⟩ = some (.int .i64 p)) hK (fun _ h => h) (HS.out _ (hk1.out.weaken (by simp))) (fun hHeld => ?_)
      clear hK K
      skip
      refine wpAnyH_ready (rs := [7]) (by kernel_rfl) (by simp) ?_
      refine AllReadyH.cons (o := { dst := some 55, op := Op.call { callee := Callee.value (Operand.func 10), args := #[Operand.tmp 49, Operand.tmp 50, Operand.tmp 52, Operand.tmp 54], argTypes := #[48, 34, 4, 26] }, type := 22, pos := "lead.go:84", after := #[{ on := 1, ground := Ground.data }, { on := 2, ground := Ground.data }, { on := 4, ground := Ground.data }, { on := 6, ground := Ground.data }, { on := 4, ground := Ground.chain }], guard := none }) rfl (fun K hK => ?_) AllReadyH.nil
      go_simp
      refine (lbits_at (HMY.out.keep0 hk1.out) v b a e d t p hb false ha).mono ?_
      rintro en y2 ⟨rfl, hy2⟩
      go_wp2_with fail
      have hk2 := Lib.hid (show Keep [] y y2 by rw [← hy2]; exact hk1.out.alloc _)
      have HY2 := Lib.hid hy2
      have hfz : y2.frozen? ⟨w.heap.size + 1 + 1 + 1, 2, none⟩ = false ∧ y2.cell? ⟨w.heap.size + 1 + 1 + 1, 2, none⟩ = some (.int .u32 0) := by rw [← HY2.out, ← HY1.out, ← HY.out]; simp [go_sem]
      clear hy2
      refine shut_grow (fun x => x.cell? ⟨w.heap.size, 0, none⟩ = some v ∧ x.cell? ⟨w.heap.size, 20, none⟩ = some mv ∧ x.rangeAt w.heap.size 0 [v, f 0, f 1, f 2, f 3, f 4, f 5, f 6, f 7, f 8, .int .u32 ps, .int .u32 cr, f 11, f 12, f 13, f 14, f 15, f 16, f 17, f 18, mv, .int .u32 va, .int .i64 3] ∧ x.cell? ⟨w.heap.size + 1, 0, none⟩ = some (.int .u32 b) ∧ x.cell? ⟨w.heap.size + 1, 1, none⟩ = some (.int .u32 a) ∧ x.cell? ⟨w.heap.size + 1, 2, none⟩ = some (.int .u32 e) ∧ x.cell? ⟨w.heap.size + 1, 3, none⟩ = some (.int .i64 d) ∧ x.cell? ⟨w.heap.size + 1, 4, none⟩ = some (.int .i64 t) ∧ x.cell? ⟨w.heap.size + 1, 5, none⟩ = some (.int .i64 p)) hK (fun _ h => h) (HS.out _ (hk2.out.weaken (by simp))) (fun hHeld => ?_)
      clear hK K
      refine wpAnyH_take (i := 8) (oi := { dst := some 56, op := Op.fieldAddr 61 (Operand.tmp 5) 2, type := 0, pos := "lead.go:84", after := #[{ on := 0, ground := Ground.phase }, { on := 1, ground := Ground.phase }, { on := 2, ground := Ground.phase }, { on := 3, ground := Ground.phase }, { on := 4, ground := Ground.phase }, { on := 5, ground := Ground.phase }, { on := 6, ground := Ground.phase }, { on := 7, ground := Ground.phase }], guard := none }) (v := ?_) rfl (by kernel_rfl) (by kernel_rfl) (by kernel_rfl) (fun _ _ _ h => h) (Or.inl ⟨by rfl, ?_⟩) (by assumption) ?_
      rotate_left
      focus (intro w hSw; (try dsimp only at hSw); go_simp <;> with_reducible rfl)
      try simp only [Act.put, List.setIfInBounds_toArray, List.set_cons_zero, List.set_cons_succ]
      refine wpAnyH_ready (rs := [9]) (by kernel_rfl) (by simp) ?_
      refine AllReadyH.cons (o := { dst := none, op := Op.store 22 (Operand.tmp 56) (Operand.tmp 55), type := 0, pos := "lead.go:84", after := #[{ on := 8, ground := Ground.data }, { on := 7, ground := Ground.data }, { on := 7, ground := Ground.chain }, { on := 0, ground := Ground.phase }, { on := 1, ground := Ground.phase }, { on := 2, ground := Ground.phase }, { on := 3, ground := Ground.phase }, { on := 4, ground := Ground.phase }, { on := 5, ground := Ground.phase }, { on := 6, ground := Ground.phase }, { on := 7, ground := Ground.phase }], guard := none }) rfl (fun K hK => ?_) AllReadyH.nil
      go_simp
      have hS3 := HS.out _ ((hk2.out.weaken (l' := [w.heap.size + 1 + 1 + 1]) (by simp)).setCell (p := ⟨w.heap.size + 1 + 1 + 1, 2, none⟩) (.inl (by simp)) (.int .u32 (leadB b (W ((a : Int) / 64)) : Nat)))
      generalize hy3 : y2.setCell _ _ = y3 at hS3
      have HY3 := Lib.hid hy3
      clear hy3
      refine shut_grow (fun x => x = y3) hK (fun _ h => by rw [h]; exact hS3) rfl (fun hHeld => ?_)
      clear hK K hS3
      refine wpAnyH_done (by kernel_rfl) ?_ _
      clear hHeld hfz
      rw [← HY3.out, ← HY2.out, ← HY1.out, ← HY.out]
      go_wp2_with fail
      exact bodyPost_ret (v := verV (overV W b a e d t p false 3) (.slice none 0 0)) (by simp [results, Try.results29, go_sem, verV, overV, HQ.out, H16.out]) rfl (verPost_of (by simp [overV]) (reads_nil _) (by repeat first | exact Keep.refl _ _ | refine Keep.alloc ?_ _ | refine Keep.drew ?_) (.inl rfl))
    · skip
      go_enter Try.func29, Try.ntmps29
      go_wp2_with fail
      refine wp_loop_rounds 3 ?_
      rw [rounds_succ]
      go_wp2_with fail
      refine (ask1_at (q := false) (by simp [go_sem])).mono ?_
      rintro en w' ⟨rfl, rfl⟩
      go_wp2_with fail
      rw [rounds_succ]
      go_wp2_with fail
      refine (ask2_at (p := p) (W := W) (mv := mv) 3 (HM.out.keep0 (by repeat first | exact Keep.refl _ _ | refine Keep.alloc ?_ _)) (by simp [go_sem]) (by simp [go_sem]) (by simp [go_sem])).mono ?_
      rintro en w' ⟨rfl, rfl⟩
      rw [HQ.out]
      simp only [decide_true, Bool.true_and]
      go_wp2_with fail
      rw [rounds_succ]
      go_wp2_with (refine wpList_load_mid rfl 91 (.tmp 2) rfl w.heap.size 0 (by rfl) [v, f 0, f 1, f 2, f 3, f 4, f 5, f 6, f 7, f 8, .int .u32 ps, .int .u32 cr, f 11, f 12, f 13, f 14, f 15, f 16, f 17, f 18, mv, .int .u32 va, .int .i64 3] _ (rangeAcc (by repeat first | (refine heap_alloc_at _ ?_; (simp; done)) | refine heap_alloc_other _ ?_)) Try.underlying91 rfl info_acc ?_)
      refine (paged_at v mv f ps cr va 3 hp _).mono ?_
      rintro en w' ⟨rfl, rfl⟩
      rw [HPG.out]
      go_wp2_with fail
      refine (lboth_at d t _).mono ?_
      rintro en w' ⟨rfl, rfl⟩
      go_wp2_with fail
      generalize hY : World.alloc (World.alloc (World.alloc (World.alloc (World.alloc (World.alloc (World.alloc w _) _) _) _) _) _) _ = y
      have HA : Hid (y.heap[w.heap.size]? = some (.cells #[v, f 0, f 1, f 2, f 3, f 4, f 5, f 6, f 7, f 8, .int .u32 ps, .int .u32 cr, f 11, f 12, f 13, f 14, f 15, f 16, f 17, f 18, mv, .int .u32 va, .int .i64 3] 91 (0, 0)) ∧ y.heap[w.heap.size + 1]? = some (.cells #[.int .u32 b, .int .u32 a, .int .u32 e, .int .i64 d, .int .i64 t, .int .i64 p] 34 (0, 0))) := Lib.hid (by rw [← hY]; exact ⟨by repeat first | (refine heap_alloc_at _ ?_; (simp; done)) | refine heap_alloc_other _ ?_, by repeat first | (refine heap_alloc_at _ ?_; (simp; done)) | refine heap_alloc_other _ ?_⟩)
      have HS : Hid (∀ x, Keep [w.heap.size + 1 + 1 + 1] y x → x.cell? ⟨w.heap.size, 0, none⟩ = some v ∧ x.cell? ⟨w.heap.size, 20, none⟩ = some mv ∧ x.rangeAt w.heap.size 0 [v, f 0, f 1, f 2, f 3, f 4, f 5, f 6, f 7, f 8, .int .u32 ps, .int .u32 cr, f 11, f 12, f 13, f 14, f 15, f 16, f 17, f 18, mv, .int .u32 va, .int .i64 3] ∧ x.cell? ⟨w.heap.size + 1, 0, none⟩ = some (.int .u32 b) ∧ x.cell? ⟨w.heap.size + 1, 1, none⟩ = some (.int .u32 a) ∧ x.cell? ⟨w.heap.size + 1, 2, none⟩ = some (.int .u32 e) ∧ x.cell? ⟨w.heap.size + 1, 3, none⟩ = some (.int .i64 d) ∧ x.cell? ⟨w.heap.size + 1, 4, none⟩ = some (.int .i64 t) ∧ x.cell? ⟨w.heap.size + 1, 5, none⟩ = some (.int .i64 p)) := Lib.hid (fun x hx => ⟨cell_of (hx.heap HA.out.1 (by simp <;> omega)) 0 rfl, cell_of (hx.heap HA.out.1 (by simp <;> omega)) 20 rfl, rangeAcc (hx.heap HA.out.1 (by simp <;> omega)), cell_of (hx.heap HA.out.2 (by simp <;> omega)) 0 rfl, cell_of (hx.heap HA.out.2 (by simp <;> omega)) 1 rfl, cell_of (hx.heap HA.out.2 (by simp <;> omega)) 2 rfl, cell_of (hx.heap HA.out.2 (by simp <;> omega)) 3 rfl, cell_of (hx.heap HA.out.2 (by simp <;> omega)) 4 rfl, cell_of (hx.heap HA.out.2 (by simp <;> omega)) 5 rfl⟩)
      have HY := Lib.hid hY
      have HMY : Hid (Wat y mv W) := Lib.hid (HM.out.keep0 (by rw [← hY]; repeat first | exact Keep.refl _ _ | refine Keep.alloc ?_ _))
      clear hY HA
      refine wp_region_held_drew (S := fun x => x.cell? ⟨w.heap.size, 0, none⟩ = some v ∧ x.cell? ⟨w.heap.size, 20, none⟩ = some mv ∧ x.rangeAt w.heap.size 0 [v, f 0, f 1, f 2, f 3, f 4, f 5, f 6, f 7, f 8, .int .u32 ps, .int .u32 cr, f 11, f 12, f 13, f 14, f 15, f 16, f 17, f 18, mv, .int .u32 va, .int .i64 3] ∧ x.cell? ⟨w.heap.size + 1, 0, none⟩ = some (.int .u32 b) ∧ x.cell? ⟨w.heap.size + 1, 1, none⟩ = some (.int .u32 a) ∧ x.cell? ⟨w.heap.size + 1, 2, none⟩ = some (.int .u32 e) ∧ x.cell? ⟨w.heap.size + 1, 3, none⟩ = some (.int .i64 d) ∧ x.cell? ⟨w.heap.size + 1, 4, none⟩ = some (.int .i64 t) ∧ x.cell? ⟨w.heap.size + 1, 5, none⟩ = some (.int .i64 p)) (by kernel_rfl) (HS.out _ (Keep.refl _ y).drew) (fun hHeld => ?_)
      skip
      refine wpAnyH_take (i := 0) (oi := { dst := some 48, op := Op.fieldAddr 91 (Operand.tmp 2) 0, type := 0, pos := "lead.go:84", after := #[], guard := none }) (v := ?_) rfl (by kernel_rfl) (by kernel_rfl) (by kernel_rfl) (fun _ _ _ h => h) (Or.inl ⟨by rfl, ?_⟩) (by assumption) ?_
      rotate_left
      focus (intro w hSw; (try dsimp only at hSw); go_simp <;> with_reducible rfl)
      try simp only [Act.put, List.setIfInBounds_toArray, List.set_cons_zero, List.set_cons_succ]
      refine wpAnyH_take (i := 1) (oi := { dst := some 49, op := Op.load 48 (Operand.tmp 48), type := 48, pos := "lead.go:84", after := #[{ on := 0, ground := Ground.data }], guard := none }) (v := ?_) rfl (by kernel_rfl) (by kernel_rfl) (by kernel_rfl) (fun _ _ _ h => h) (Or.inl ⟨by rfl, ?_⟩) (by assumption) ?_
      rotate_left
      focus (intro w hSw; (try dsimp only at hSw); go_simp <;> with_reducible rfl)
      try simp only [Act.put, List.setIfInBounds_toArray, List.set_cons_zero, List.set_cons_succ]
      refine wpAnyH_take (i := 2) (oi := { dst := some 50, op := Op.load 34 (Operand.tmp 3), type := 34, pos := "lead.go:84", after := #[], guard := none }) (v := ?_) rfl (by kernel_rfl) (by kernel_rfl) (by kernel_rfl) (fun _ _ _ h => h) (Or.inl ⟨by rfl, ?_⟩) (by assumption) ?_
      rotate_left
      focus (intro w hSw; (try dsimp only at hSw); go_simp <;> with_reducible rfl)
      try simp only [Act.put, List.setIfInBounds_toArray, List.set_cons_zero, List.set_cons_succ]
      refine wpAnyH_take (i := 5) (oi := { dst := some 53, op := Op.fieldAddr 91 (Operand.tmp 2) 2, type := 0, pos := "lead.go:84", after := #[], guard := none }) (v := ?_) rfl (by kernel_rfl) (by kernel_rfl) (by kernel_rfl) (fun _ _ _ h => h) (Or.inl ⟨by rfl, ?_⟩) (by assumption) ?_
      rotate_left
      focus (intro w hSw; (try dsimp only at hSw); go_simp <;> with_reducible rfl)
      try simp only [Act.put, List.setIfInBounds_toArray, List.set_cons_zero, List.set_cons_succ]
      refine wpAnyH_take (i := 6) (oi := { dst := some 54, op := Op.load 26 (Operand.tmp 53), type := 26, pos := "lead.go:84", after := #[{ on := 5, ground := Ground.data }], guard := none }) (v := ?_) rfl (by kernel_rfl) (by kernel_rfl) (by kernel_rfl) (fun _ _ _ h => h) (Or.inl ⟨by rfl, ?_⟩) (by assumption) ?_
      rotate_left
      focus (intro w hSw; (try dsimp only at hSw); go_simp <;> with_reducible rfl)
      try simp only [Act.put, List.setIfInBounds_toArray, List.set_cons_zero, List.set_cons_succ]
      refine wpAnyH_take (i := 3) (oi := { dst := some 51, op := Op.load 91 (Operand.tmp 2), type := 91, pos := "lead.go:84", after := #[], guard := none }) (v := _) rfl (by kernel_rfl) (by kernel_rfl) (by kernel_rfl) (fun _ _ _ h => h) (yieldsIf_load_mid (by rfl) 91 (.tmp 2) rfl w.heap.size 0 rfl [v, f 0, f 1, f 2, f 3, f 4, f 5, f 6, f 7, f 8, .int .u32 ps, .int .u32 cr, f 11, f 12, f 13, f 14, f 15, f 16, f 17, f 18, mv, .int .u32 va, .int .i64 3] _ (fun _ h => h.2.2.1) Try.underlying91 rfl info_acc) (by assumption) ?_
      try simp only [Act.put, List.setIfInBounds_toArray, List.set_cons_zero, List.set_cons_succ]
      refine wpAnyH_ready (rs := [4]) (by kernel_rfl) (by simp) ?_
      refine AllReadyH.cons (o := { dst := some 52, op := Op.call { callee := Callee.value (Operand.func 48), args := #[Operand.tmp 51], argTypes := #[91] }, type := 4, pos := "lead.go:84", after := #[{ on := 3, ground := Ground.data }], guard := none }) rfl (fun K hK => ?_) AllReadyH.nil
      go_simp
      refine (paged_at v mv f ps cr va 3 hp _).mono ?_
      rintro en y1 ⟨rfl, hy1⟩
      rw [HPG.out]
      go_wp2_with fail
      have hk1 := Lib.hid (show Keep [] y y1 by rw [← hy1]; exact ((Keep.refl [] y).drew).alloc _)
      have HY1 := Lib.hid hy1
      clear hy1
      refine shut_grow (fun x => x.cell? ⟨w.heap.size, 0, none⟩ = some v ∧ x.cell? ⟨w.heap.size, 20, none⟩ = some mv ∧ x.rangeAt w.heap.size 0 [v, f 0, f 1, f 2, f 3, f 4, f 5, f 6, f 7, f 8, .int .u32 ps, .int .u32 cr, f 11, f 12, f 13, f 14, f 15, f 16, f 17, f 18, mv, .int .u32 va, .int .i64 3] ∧ x.cell? ⟨w.heap.size + 1, 0, none⟩ = some (.int .u32 b) ∧ x.cell? ⟨w.heap.size + 1, 1, none⟩ = some (.int .u32 a) ∧ x.cell? ⟨w.heap.size + 1, 2, none⟩ = some (.int .u32 e) ∧ x.cell? ⟨w.heap.size + 1, 3, none⟩ = some (.int .i64 d) ∧ x.cell? ⟨w.heap.size + 1, 4, none⟩ = some (.int .i64 t) ∧ x.cell? ⟨w.heap.size + 1, 5, none⟩ = some (.int .i64 p)) hK (fun _ h => h) (HS.out _ (hk1.out.weaken (by simp))) (fun hHeld => ?_)
      clear hK K
      skip
      refine wpAnyH_ready (rs := [7]) (by kernel_rfl) (by simp) ?_
      refine AllReadyH.cons (o := { dst := some 55, op := Op.call { callee := Callee.value (Operand.func 10), args := #[Operand.tmp 49, Operand.tmp 50, Operand.tmp 52, Operand.tmp 54], argTypes := #[48, 34, 4, 26] }, type := 22, pos := "lead.go:84", after := #[{ on := 1, ground := Ground.data }, { on := 2, ground := Ground.data }, { on := 4, ground := Ground.data }, { on := 6, ground := Ground.data }, { on := 4, ground := Ground.chain }], guard := none }) rfl (fun K hK => ?_) AllReadyH.nil
      go_simp
      refine (lbits_at (HMY.out.keep0 hk1.out) v b a e d t p hb true ha).mono ?_
      rintro en y2 ⟨rfl, hy2⟩
      go_wp2_with fail
      have hk2 := Lib.hid (show Keep [] y y2 by rw [← hy2]; exact hk1.out.alloc _)
      have HY2 := Lib.hid hy2
      have hfz : y2.frozen? ⟨w.heap.size + 1 + 1 + 1, 2, none⟩ = false ∧ y2.cell? ⟨w.heap.size + 1 + 1 + 1, 2, none⟩ = some (.int .u32 0) := by rw [← HY2.out, ← HY1.out, ← HY.out]; simp [go_sem]
      clear hy2
      refine shut_grow (fun x => x.cell? ⟨w.heap.size, 0, none⟩ = some v ∧ x.cell? ⟨w.heap.size, 20, none⟩ = some mv ∧ x.rangeAt w.heap.size 0 [v, f 0, f 1, f 2, f 3, f 4, f 5, f 6, f 7, f 8, .int .u32 ps, .int .u32 cr, f 11, f 12, f 13, f 14, f 15, f 16, f 17, f 18, mv, .int .u32 va, .int .i64 3] ∧ x.cell? ⟨w.heap.size + 1, 0, none⟩ = some (.int .u32 b) ∧ x.cell? ⟨w.heap.size + 1, 1, none⟩ = some (.int .u32 a) ∧ x.cell? ⟨w.heap.size + 1, 2, none⟩ = some (.int .u32 e) ∧ x.cell? ⟨w.heap.size + 1, 3, none⟩ = some (.int .i64 d) ∧ x.cell? ⟨w.heap.size + 1, 4, none⟩ = some (.int .i64 t) ∧ x.cell? ⟨w.heap.size + 1, 5, none⟩ = some (.int .i64 p)) hK (fun _ h => h) (HS.out _ (hk2.out.weaken (by simp))) (fun hHeld => ?_)
      clear hK K
      refine wpAnyH_take (i := 8) (oi := { dst := some 56, op := Op.fieldAddr 61 (Operand.tmp 5) 2, type := 0, pos := "lead.go:84", after := #[{ on := 0, ground := Ground.phase }, { on := 1, ground := Ground.phase }, { on := 2, ground := Ground.phase }, { on := 3, ground := Ground.phase }, { on := 4, ground := Ground.phase }, { on := 5, ground := Ground.phase }, { on := 6, ground := Ground.phase }, { on := 7, ground := Ground.phase }], guard := none }) (v := ?_) rfl (by kernel_rfl) (by kernel_rfl) (by kernel_rfl) (fun _ _ _ h => h) (Or.inl ⟨by rfl, ?_⟩) (by assumption) ?_
      rotate_left
      focus (intro w hSw; (try dsimp only at hSw); go_simp <;> with_reducible rfl)
      try simp only [Act.put, List.setIfInBounds_toArray, List.set_cons_zero, List.set_cons_succ]
      refine wpAnyH_ready (rs := [9]) (by kernel_rfl) (by simp) ?_
      refine AllReadyH.cons (o := { dst := none, op := Op.store 22 (Operand.tmp 56) (Operand.tmp 55), type := 0, pos := "lead.go:84", after := #[{ on := 8, ground := Ground.data }, { on := 7, ground := Ground.data }, { on := 7, ground := Ground.chain }, { on := 0, ground := Ground.phase }, { on := 1, ground := Ground.phase }, { on := 2, ground := Ground.phase }, { on := 3, ground := Ground.phase }, { on := 4, ground := Ground.phase }, { on := 5, ground := Ground.phase }, { on := 6, ground := Ground.phase }, { on := 7, ground := Ground.phase }], guard := none }) rfl (fun K hK => ?_) AllReadyH.nil
      go_simp
      have hS3 := HS.out _ ((hk2.out.weaken (l' := [w.heap.size + 1 + 1 + 1]) (by simp)).setCell (p := ⟨w.heap.size + 1 + 1 + 1, 2, none⟩) (.inl (by simp)) (.int .u32 (leadB b (W p) : Nat)))
      generalize hy3 : y2.setCell _ _ = y3 at hS3
      have HY3 := Lib.hid hy3
      clear hy3
      refine shut_grow (fun x => x = y3) hK (fun _ h => by rw [h]; exact hS3) rfl (fun hHeld => ?_)
      clear hK K hS3
      refine wpAnyH_done (by kernel_rfl) ?_ _
      clear hHeld hfz
      rw [← HY3.out, ← HY2.out, ← HY1.out, ← HY.out]
      go_wp2_with fail
      exact bodyPost_ret (v := verV (overV W b a e d t p true 3) (.slice (some ⟨w.heap.size + 1 + 1 + 1 + 1 + 1 + 1, 0, none⟩) (tabs d t).length (tabs d t).length)) (by simp [results, Try.results29, go_sem, verV, overV, HQ.out, H16.out]) rfl (verPost_of (l := tabs d t) (by simp [overV]) (by repeat first | (refine reads_at (tabs d t) _ ?_; (simp; done)) | refine Reads.keep ?_ ((Keep.refl _ _).alloc _) | refine Reads.keep ?_ (Keep.refl _ _).drew) (by repeat first | exact Keep.refl _ _ | refine Keep.alloc ?_ _ | refine Keep.drew ?_) (.inr ⟨_, rfl, by omega⟩))
  · have hk' : (kind == 3) = false := beq_eq_false_iff_ne.2 hk
    have HKN := Lib.hid hk
    clear hdo hq hk
    cases pg
    · skip
      go_enter Try.func29, Try.ntmps29
      go_wp2_with fail
      refine wp_loop_rounds 3 ?_
      rw [rounds_succ]
      go_wp2_with fail
      refine (ask1_at (q := false) (by simp [go_sem])).mono ?_
      rintro en w' ⟨rfl, rfl⟩
      go_wp2_with fail
      rw [rounds_succ]
      go_wp2_with fail
      refine (ask2_at (p := p) (W := W) (mv := mv) kind (HM.out.keep0 (by repeat first | exact Keep.refl _ _ | refine Keep.alloc ?_ _)) (by simp [go_sem]) (by simp [go_sem]) (by simp [go_sem])).mono ?_
      rintro en w' ⟨rfl, rfl⟩
      rw [decide_eq_false HKN.out]
      simp only [Bool.false_and]
      go_wp2_with fail
      rw [rounds_succ]
      go_wp2_with (refine wpList_load_mid rfl 91 (.tmp 2) rfl w.heap.size 0 (by rfl) [v, f 0, f 1, f 2, f 3, f 4, f 5, f 6, f 7, f 8, .int .u32 ps, .int .u32 cr, f 11, f 12, f 13, f 14, f 15, f 16, f 17, f 18, mv, .int .u32 va, .int .i64 kind] _ (rangeAcc (by repeat first | (refine heap_alloc_at _ ?_; (simp; done)) | refine heap_alloc_other _ ?_)) Try.underlying91 rfl info_acc ?_)
      refine (paged_at v mv f ps cr va kind hp _).mono ?_
      rintro en w' ⟨rfl, rfl⟩
      rw [HPG.out]
      go_wp2_with fail
      generalize hY : World.alloc (World.alloc (World.alloc (World.alloc (World.alloc (World.alloc w _) _) _) _) _) _ = y
      have HA : Hid (y.heap[w.heap.size]? = some (.cells #[v, f 0, f 1, f 2, f 3, f 4, f 5, f 6, f 7, f 8, .int .u32 ps, .int .u32 cr, f 11, f 12, f 13, f 14, f 15, f 16, f 17, f 18, mv, .int .u32 va, .int .i64 kind] 91 (0, 0)) ∧ y.heap[w.heap.size + 1]? = some (.cells #[.int .u32 b, .int .u32 a, .int .u32 e, .int .i64 d, .int .i64 t, .int .i64 p] 34 (0, 0))) := Lib.hid (by rw [← hY]; exact ⟨by repeat first | (refine heap_alloc_at _ ?_; (simp; done)) | refine heap_alloc_other _ ?_, by repeat first | (refine heap_alloc_at _ ?_; (simp; done)) | refine heap_alloc_other _ ?_⟩)
      have HS : Hid (∀ x, Keep [w.heap.size + 1 + 1 + 1] y x → x.cell? ⟨w.heap.size, 0, none⟩ = some v ∧ x.cell? ⟨w.heap.size, 20, none⟩ = some mv ∧ x.rangeAt w.heap.size 0 [v, f 0, f 1, f 2, f 3, f 4, f 5, f 6, f 7, f 8, .int .u32 ps, .int .u32 cr, f 11, f 12, f 13, f 14, f 15, f 16, f 17, f 18, mv, .int .u32 va, .int .i64 kind] ∧ x.cell? ⟨w.heap.size + 1, 0, none⟩ = some (.int .u32 b) ∧ x.cell? ⟨w.heap.size + 1, 1, none⟩ = some (.int .u32 a) ∧ x.cell? ⟨w.heap.size + 1, 2, none⟩ = some (.int .u32 e) ∧ x.cell? ⟨w.heap.size + 1, 3, none⟩ = some (.int .i64 d) ∧ x.cell? ⟨w.heap.size + 1, 4, none⟩ = some (.int .i64 t) ∧ x.cell? ⟨w.heap.size + 1, 5, none⟩ = some (.int .i64 p)) := Lib.hid (fun x hx => ⟨cell_of (hx.heap HA.out.1 (by simp <;> omega)) 0 rfl, cell_of (hx.heap HA.out.1 (by simp <;> omega)) 20 rfl, rangeAcc (hx.heap HA.out.1 (by simp <;> omega)), cell_of (hx.heap HA.out.2 (by simp <;> omega)) 0 rfl, cell_of (hx.heap HA.out.2 (by simp <;> omega)) 1 rfl, cell_of (hx.heap HA.out.2 (by simp <;> omega)) 2 rfl, cell_of (hx.heap HA.out.2 (by simp <;> omega)) 3 rfl, cell_of (hx.heap HA.out.2 (by simp <;> omega)) 4 rfl, cell_of (hx.heap HA.out.2 (by simp <;> omega)) 5 rfl⟩)
      have HY := Lib.hid hY
      have HMY : Hid (Wat y mv W) := Lib.hid (HM.out.keep0 (by rw [← hY]; repeat first | exact Keep.refl _ _ | refine Keep.alloc ?_ _))
      clear hY HA
      refine wp_region_held_drew (S := fun x => x.cell? ⟨w.heap.size, 0, none⟩ = some v ∧ x.cell? ⟨w.heap.size, 20, none⟩ = some mv ∧ x.rangeAt w.heap.size 0 [v, f 0, f 1, f 2, f 3, f 4, f 5, f 6, f 7, f 8, .int .u32 ps, .int .u32 cr, f 11, f 12, f 13, f 14, f 15, f 16, f 17, f 18, mv, .int .u32 va, .int .i64 kind] ∧ x.cell? ⟨w.heap.size + 1, 0, none⟩ = some (.int .u32 b) ∧ x.cell? ⟨w.heap.size + 1, 1, none⟩ = some (.int .u32 a) ∧ x.cell? ⟨w.heap.size + 1, 2, none⟩ = some (.int .u32 e) ∧ x.cell? ⟨w.heap.size + 1, 3, none⟩ = some (.int .i64 d) ∧ x.cell? ⟨w.heap.size + 1, 4, none⟩ = some (.int .i64 t) ∧ x.cell? ⟨w.heap.size + 1, 5, none⟩ = some (.int .i64 p)) (by kernel_rfl) (HS.out _ (Keep.refl _ y).drew) (fun hHeld => ?_)
      skip
      refine wpAnyH_take (i := 0) (oi := { dst := some 48, op := Op.fieldAddr 91 (Operand.tmp 2) 0, type := 0, pos := "lead.go:84", after := #[], guard := none }) (v := ?_) rfl (by kernel_rfl) (by kernel_rfl) (by kernel_rfl) (fun _ _ _ h => h) (Or.inl ⟨by rfl, ?_⟩) (by assumption) ?_
      rotate_left
      focus (intro w hSw; (try dsimp only at hSw); go_simp <;> with_reducible rfl)
      try simp only [Act.put, List.setIfInBounds_toArray, List.set_cons_zero, List.set_cons_succ]
      refine wpAnyH_take (i := 1) (oi := { dst := some 49, op := Op.load 48 (Operand.tmp 48), type := 48, pos := "lead.go:84", after := #[{ on := 0, ground := Ground.data }], guard := none }) (v := ?_) rfl (by kernel_rfl) (by kernel_rfl) (by kernel_rfl) (fun _ _ _ h => h) (Or.inl ⟨by rfl, ?_⟩) (by assumption) ?_
      rotate_left
      focus (intro w hSw; (try dsimp only at hSw); go_simp <;> with_reducible rfl)
      try simp only [Act.put, List.setIfInBounds_toArray, List.set_cons_zero, List.set_cons_succ]
      refine wpAnyH_take (i := 2) (oi := { dst := some 50, op := Op.load 34 (Operand.tmp 3), type := 34, pos := "lead.go:84", after := #[], guard := none }) (v := ?_) rfl (by kernel_rfl) (by kernel_rfl) (by kernel_rfl) (fun _ _ _ h => h) (Or.inl ⟨by rfl, ?_⟩) (by assumption) ?_
      rotate_left
      focus (intro w hSw; (try dsimp only at hSw); go_simp <;> with_reducible rfl)
      try simp only [Act.put, List.setIfInBounds_toArray, List.set_cons_zero, List.set_cons_succ]
      refine wpAnyH_take (i := 5) (oi := { dst := some 53, op := Op.fieldAddr 91 (Operand.tmp 2) 2, type := 0, pos := "lead.go:84", after := #[], guard := none }) (v := ?_) rfl (by kernel_rfl) (by kernel_rfl) (by kernel_rfl) (fun _ _ _ h => h) (Or.inl ⟨by rfl, ?_⟩) (by assumption) ?_
      rotate_left
      focus (intro w hSw; (try dsimp only at hSw); go_simp <;> with_reducible rfl)
      try simp only [Act.put, List.setIfInBounds_toArray, List.set_cons_zero, List.set_cons_succ]
      refine wpAnyH_take (i := 6) (oi := { dst := some 54, op := Op.load 26 (Operand.tmp 53), type := 26, pos := "lead.go:84", after := #[{ on := 5, ground := Ground.data }], guard := none }) (v := ?_) rfl (by kernel_rfl) (by kernel_rfl) (by kernel_rfl) (fun _ _ _ h => h) (Or.inl ⟨by rfl, ?_⟩) (by assumption) ?_
      rotate_left
      focus (intro w hSw; (try dsimp only at hSw); go_simp <;> with_reducible rfl)
      try simp only [Act.put, List.setIfInBounds_toArray, List.set_cons_zero, List.set_cons_succ]
      refine wpAnyH_take (i := 3) (oi := { dst := some 51, op := Op.load 91 (Operand.tmp 2), type := 91, pos := "lead.go:84", after := #[], guard := none }) (v := _) rfl (by kernel_rfl) (by kernel_rfl) (by kernel_rfl) (fun _ _ _ h => h) (yieldsIf_load_mid (by rfl) 91 (.tmp 2) rfl w.heap.size 0 rfl [v, f 0, f 1, f 2, f 3, f 4, f 5, f 6, f 7, f 8, .int .u32 ps, .int .u32 cr, f 11, f 12, f 13, f 14, f 15, f 16, f 17, f 18, mv, .int .u32 va, .int .i64 kind] _ (fun _ h => h.2.2.1) Try.underlying91 rfl info_acc) (by assumption) ?_
      try simp only [Act.put, List.setIfInBounds_toArray, List.set_cons_zero, List.set_cons_succ]
      refine wpAnyH_ready (rs := [4]) (by kernel_rfl) (by simp) ?_
      refine AllReadyH.cons (o := { dst := some 52, op := Op.call { callee := Callee.value (Operand.func 48), args := #[Operand.tmp 51], argTypes := #[91] }, type := 4, pos := "lead.go:84", after := #[{ on := 3, ground := Ground.data }], guard := none }) rfl (fun K hK => ?_) AllReadyH.nil
      go_simp
      refine (paged_at v mv f ps cr va kind hp _).mono ?_
      rintro en y1 ⟨rfl, hy1⟩
      rw [HPG.out]
      go_wp2_with fail
      have hk1 := Lib.hid (show Keep [] y y1 by rw [← hy1]; exact ((Keep.refl [] y).drew).alloc _)
      have HY1 := Lib.hid hy1
      clear hy1
      refine shut_grow (fun x => x.cell? ⟨w.heap.size, 0, none⟩ = some v ∧ x.cell? ⟨w.heap.size, 20, none⟩ = some mv ∧ x.rangeAt w.heap.size 0 [v, f 0, f 1, f 2, f 3, f 4, f 5, f 6, f 7, f 8, .int .u32 ps, .int .u32 cr, f 11, f 12, f 13, f 14, f 15, f 16, f 17, f 18, mv, .int .u32 va, .int .i64 kind] ∧ x.cell? ⟨w.heap.size + 1, 0, none⟩ = some (.int .u32 b) ∧ x.cell? ⟨w.heap.size + 1, 1, none⟩ = some (.int .u32 a) ∧ x.cell? ⟨w.heap.size + 1, 2, none⟩ = some (.int .u32 e) ∧ x.cell? ⟨w.heap.size + 1, 3, none⟩ = some (.int .i64 d) ∧ x.cell? ⟨w.heap.size + 1, 4, none⟩ = some (.int .i64 t) ∧ x.cell? ⟨w.heap.size + 1, 5, none⟩ = some (.int .i64 p)) hK (fun _ h => h) (HS.out _ (hk1.out.weaken (by simp))) (fun hHeld => ?_)
      clear hK K
      skip
      refine wpAnyH_ready (rs := [7]) (by kernel_rfl) (by simp) ?_
      refine AllReadyH.cons (o := { dst := some 55, op := Op.call { callee := Callee.value (Operand.func 10), args := #[Operand.tmp 49, Operand.tmp 50, Operand.tmp 52, Operand.tmp 54], argTypes := #[48, 34, 4, 26] }, type := 22, pos := "lead.go:84", after := #[{ on := 1, ground := Ground.data }, { on := 2, ground := Ground.data }, { on := 4, ground := Ground.data }, { on := 6, ground := Ground.data }, { on := 4, ground := Ground.chain }], guard := none }) rfl (fun K hK => ?_) AllReadyH.nil
      go_simp
      refine (lbits_at (HMY.out.keep0 hk1.out) v b a e d t p hb false ha).mono ?_
      rintro en y2 ⟨rfl, hy2⟩
      go_wp2_with fail
      have hk2 := Lib.hid (show Keep [] y y2 by rw [← hy2]; exact hk1.out.alloc _)
      have HY2 := Lib.hid hy2
      have hfz : y2.frozen? ⟨w.heap.size + 1 + 1 + 1, 2, none⟩ = false ∧ y2.cell? ⟨w.heap.size + 1 + 1 + 1, 2, none⟩ = some (.int .u32 0) := by rw [← HY2.out, ← HY1.out, ← HY.out]; simp [go_sem]
      clear hy2
      refine shut_grow (fun x => x.cell? ⟨w.heap.size, 0, none⟩ = some v ∧ x.cell? ⟨w.heap.size, 20, none⟩ = some mv ∧ x.rangeAt w.heap.size 0 [v, f 0, f 1, f 2, f 3, f 4, f 5, f 6, f 7, f 8, .int .u32 ps, .int .u32 cr, f 11, f 12, f 13, f 14, f 15, f 16, f 17, f 18, mv, .int .u32 va, .int .i64 kind] ∧ x.cell? ⟨w.heap.size + 1, 0, none⟩ = some (.int .u32 b) ∧ x.cell? ⟨w.heap.size + 1, 1, none⟩ = some (.int .u32 a) ∧ x.cell? ⟨w.heap.size + 1, 2, none⟩ = some (.int .u32 e) ∧ x.cell? ⟨w.heap.size + 1, 3, none⟩ = some (.int .i64 d) ∧ x.cell? ⟨w.heap.size + 1, 4, none⟩ = some (.int .i64 t) ∧ x.cell? ⟨w.heap.size + 1, 5, none⟩ = some (.int .i64 p)) hK (fun _ h => h) (HS.out _ (hk2.out.weaken (by simp))) (fun hHeld => ?_)
      clear hK K
      refine wpAnyH_take (i := 8) (oi := { dst := some 56, op := Op.fieldAddr 61 (Operand.tmp 5) 2, type := 0, pos := "lead.go:84", after := #[{ on := 0, ground := Ground.phase }, { on := 1, ground := Ground.phase }, { on := 2, ground := Ground.phase }, { on := 3, ground := Ground.phase }, { on := 4, ground := Ground.phase }, { on := 5, ground := Ground.phase }, { on := 6, ground := Ground.phase }, { on := 7, ground := Ground.phase }], guard := none }) (v := ?_) rfl (by kernel_rfl) (by kernel_rfl) (by kernel_rfl) (fun _ _ _ h => h) (Or.inl ⟨by rfl, ?_⟩) (by assumption) ?_
      rotate_left
      focus (intro w hSw; (try dsimp only at hSw); go_simp <;> with_reducible rfl)
      try simp only [Act.put, List.setIfInBounds_toArray, List.set_cons_zero, List.set_cons_succ]
      refine wpAnyH_ready (rs := [9]) (by kernel_rfl) (by simp) ?_
      refine AllReadyH.cons (o := { dst := none, op := Op.store 22 (Operand.tmp 56) (Operand.tmp 55), type := 0, pos := "lead.go:84", after := #[{ on := 8, ground := Ground.data }, { on := 7, ground := Ground.data }, { on := 7, ground := Ground.chain }, { on := 0, ground := Ground.phase }, { on := 1, ground := Ground.phase }, { on := 2, ground := Ground.phase }, { on := 3, ground := Ground.phase }, { on := 4, ground := Ground.phase }, { on := 5, ground := Ground.phase }, { on := 6, ground := Ground.phase }, { on := 7, ground := Ground.phase }], guard := none }) rfl (fun K hK => ?_) AllReadyH.nil
      go_simp
      have hS3 := HS.out _ ((hk2.out.weaken (l' := [w.heap.size + 1 + 1 + 1]) (by simp)).setCell (p := ⟨w.heap.size + 1 + 1 + 1, 2, none⟩) (.inl (by simp)) (.int .u32 (leadB b (W ((a : Int) / 64)) : Nat)))
      generalize hy3 : y2.setCell _ _ = y3 at hS3
      have HY3 := Lib.hid hy3
      clear hy3
      refine shut_grow (fun x => x = y3) hK (fun _ h => by rw [h]; exact hS3) rfl (fun hHeld => ?_)
      clear hK K hS3
      refine wpAnyH_done (by kernel_rfl) ?_ _
      clear hHeld hfz
      rw [← HY3.out, ← HY2.out, ← HY1.out, ← HY.out]
      go_wp2_with fail
      exact bodyPost_ret (v := verV (overV W b a e d t p false kind) (.slice none 0 0)) (by simp [results, Try.results29, go_sem, verV, overV, HQ.out, HKN.out]) rfl (verPost_of (by simp [overV]) (reads_nil _) (by repeat first | exact Keep.refl _ _ | refine Keep.alloc ?_ _ | refine Keep.drew ?_) (.inl rfl))
    · skip
      go_enter Try.func29, Try.ntmps29
      go_wp2_with fail
      refine wp_loop_rounds 3 ?_
      rw [rounds_succ]
      go_wp2_with fail
      refine (ask1_at (q := false) (by simp [go_sem])).mono ?_
      rintro en w' ⟨rfl, rfl⟩
      go_wp2_with fail
      rw [rounds_succ]
      go_wp2_with fail
      refine (ask2_at (p := p) (W := W) (mv := mv) kind (HM.out.keep0 (by repeat first | exact Keep.refl _ _ | refine Keep.alloc ?_ _)) (by simp [go_sem]) (by simp [go_sem]) (by simp [go_sem])).mono ?_
      rintro en w' ⟨rfl, rfl⟩
      rw [decide_eq_false HKN.out]
      simp only [Bool.false_and]
      go_wp2_with fail
      rw [rounds_succ]
      go_wp2_with (refine wpList_load_mid rfl 91 (.tmp 2) rfl w.heap.size 0 (by rfl) [v, f 0, f 1, f 2, f 3, f 4, f 5, f 6, f 7, f 8, .int .u32 ps, .int .u32 cr, f 11, f 12, f 13, f 14, f 15, f 16, f 17, f 18, mv, .int .u32 va, .int .i64 kind] _ (rangeAcc (by repeat first | (refine heap_alloc_at _ ?_; (simp; done)) | refine heap_alloc_other _ ?_)) Try.underlying91 rfl info_acc ?_)
      refine (paged_at v mv f ps cr va kind hp _).mono ?_
      rintro en w' ⟨rfl, rfl⟩
      rw [HPG.out]
      go_wp2_with fail
      refine (lboth_at d t _).mono ?_
      rintro en w' ⟨rfl, rfl⟩
      go_wp2_with fail
      generalize hY : World.alloc (World.alloc (World.alloc (World.alloc (World.alloc (World.alloc (World.alloc w _) _) _) _) _) _) _ = y
      have HA : Hid (y.heap[w.heap.size]? = some (.cells #[v, f 0, f 1, f 2, f 3, f 4, f 5, f 6, f 7, f 8, .int .u32 ps, .int .u32 cr, f 11, f 12, f 13, f 14, f 15, f 16, f 17, f 18, mv, .int .u32 va, .int .i64 kind] 91 (0, 0)) ∧ y.heap[w.heap.size + 1]? = some (.cells #[.int .u32 b, .int .u32 a, .int .u32 e, .int .i64 d, .int .i64 t, .int .i64 p] 34 (0, 0))) := Lib.hid (by rw [← hY]; exact ⟨by repeat first | (refine heap_alloc_at _ ?_; (simp; done)) | refine heap_alloc_other _ ?_, by repeat first | (refine heap_alloc_at _ ?_; (simp; done)) | refine heap_alloc_other _ ?_⟩)
      have HS : Hid (∀ x, Keep [w.heap.size + 1 + 1 + 1] y x → x.cell? ⟨w.heap.size, 0, none⟩ = some v ∧ x.cell? ⟨w.heap.size, 20, none⟩ = some mv ∧ x.rangeAt w.heap.size 0 [v, f 0, f 1, f 2, f 3, f 4, f 5, f 6, f 7, f 8, .int .u32 ps, .int .u32 cr, f 11, f 12, f 13, f 14, f 15, f 16, f 17, f 18, mv, .int .u32 va, .int .i64 kind] ∧ x.cell? ⟨w.heap.size + 1, 0, none⟩ = some (.int .u32 b) ∧ x.cell? ⟨w.heap.size + 1, 1, none⟩ = some (.int .u32 a) ∧ x.cell? ⟨w.heap.size + 1, 2, none⟩ = some (.int .u32 e) ∧ x.cell? ⟨w.heap.size + 1, 3, none⟩ = some (.int .i64 d) ∧ x.cell? ⟨w.heap.size + 1, 4, none⟩ = some (.int .i64 t) ∧ x.cell? ⟨w.heap.size + 1, 5, none⟩ = some (.int .i64 p)) := Lib.hid (fun x hx => ⟨cell_of (hx.heap HA.out.1 (by simp <;> omega)) 0 rfl, cell_of (hx.heap HA.out.1 (by simp <;> omega)) 20 rfl, rangeAcc (hx.heap HA.out.1 (by simp <;> omega)), cell_of (hx.heap HA.out.2 (by simp <;> omega)) 0 rfl, cell_of (hx.heap HA.out.2 (by simp <;> omega)) 1 rfl, cell_of (hx.heap HA.out.2 (by simp <;> omega)) 2 rfl, cell_of (hx.heap HA.out.2 (by simp <;> omega)) 3 rfl, cell_of (hx.heap HA.out.2 (by simp <;> omega)) 4 rfl, cell_of (hx.heap HA.out.2 (by simp <;> omega)) 5 rfl⟩)
      have HY := Lib.hid hY
      have HMY : Hid (Wat y mv W) := Lib.hid (HM.out.keep0 (by rw [← hY]; repeat first | exact Keep.refl _ _ | refine Keep.alloc ?_ _))
      clear hY HA
      refine wp_region_held_drew (S := fun x => x.cell? ⟨w.heap.size, 0, none⟩ = some v ∧ x.cell? ⟨w.heap.size, 20, none⟩ = some mv ∧ x.rangeAt w.heap.size 0 [v, f 0, f 1, f 2, f 3, f 4, f 5, f 6, f 7, f 8, .int .u32 ps, .int .u32 cr, f 11, f 12, f 13, f 14, f 15, f 16, f 17, f 18, mv, .int .u32 va, .int .i64 kind] ∧ x.cell? ⟨w.heap.size + 1, 0, none⟩ = some (.int .u32 b) ∧ x.cell? ⟨w.heap.size + 1, 1, none⟩ = some (.int .u32 a) ∧ x.cell? ⟨w.heap.size + 1, 2, none⟩ = some (.int .u32 e) ∧ x.cell? ⟨w.heap.size + 1, 3, none⟩ = some (.int .i64 d) ∧ x.cell? ⟨w.heap.size + 1, 4, none⟩ = some (.int .i64 t) ∧ x.cell? ⟨w.heap.size + 1, 5, none⟩ = some (.int .i64 p)) (by kernel_rfl) (HS.out _ (Keep.refl _ y).drew) (fun hHeld => ?_)
      skip
      refine wpAnyH_take (i := 0) (oi := { dst := some 48, op := Op.fieldAddr 91 (Operand.tmp 2) 0, type := 0, pos := "lead.go:84", after := #[], guard := none }) (v := ?_) rfl (by kernel_rfl) (by kernel_rfl) (by kernel_rfl) (fun _ _ _ h => h) (Or.inl ⟨by rfl, ?_⟩) (by assumption) ?_
      rotate_left
      focus (intro w hSw; (try dsimp only at hSw); go_simp <;> with_reducible rfl)
      try simp only [Act.put, List.setIfInBounds_toArray, List.set_cons_zero, List.set_cons_succ]
      refine wpAnyH_take (i := 1) (oi := { dst := some 49, op := Op.load 48 (Operand.tmp 48), type := 48, pos := "lead.go:84", after := #[{ on := 0, ground := Ground.data }], guard := none }) (v := ?_) rfl (by kernel_rfl) (by kernel_rfl) (by kernel_rfl) (fun _ _ _ h => h) (Or.inl ⟨by rfl, ?_⟩) (by assumption) ?_
      rotate_left
      focus (intro w hSw; (try dsimp only at hSw); go_simp <;> with_reducible rfl)
      try simp only [Act.put, List.setIfInBounds_toArray, List.set_cons_zero, List.set_cons_succ]
      refine wpAnyH_take (i := 2) (oi := { dst := some 50, op := Op.load 34 (Operand.tmp 3), type := 34, pos := "lead.go:84", after := #[], guard := none }) (v := ?_) rfl (by kernel_rfl) (by kernel_rfl) (by kernel_rfl) (fun _ _ _ h => h) (Or.inl ⟨by rfl, ?_⟩) (by assumption) ?_
      rotate_left
      focus (intro w hSw; (try dsimp only at hSw); go_simp <;> with_reducible rfl)
      try simp only [Act.put, List.setIfInBounds_toArray, List.set_cons_zero, List.set_cons_succ]
      refine wpAnyH_take (i := 5) (oi := { dst := some 53, op := Op.fieldAddr 91 (Operand.tmp 2) 2, type := 0, pos := "lead.go:84", after := #[], guard := none }) (v := ?_) rfl (by kernel_rfl) (by kernel_rfl) (by kernel_rfl) (fun _ _ _ h => h) (Or.inl ⟨by rfl, ?_⟩) (by assumption) ?_
      rotate_left
      focus (intro w hSw; (try dsimp only at hSw); go_simp <;> with_reducible rfl)
      try simp only [Act.put, List.setIfInBounds_toArray, List.set_cons_zero, List.set_cons_succ]
      refine wpAnyH_take (i := 6) (oi := { dst := some 54, op := Op.load 26 (Operand.tmp 53), type := 26, pos := "lead.go:84", after := #[{ on := 5, ground := Ground.data }], guard := none }) (v := ?_) rfl (by kernel_rfl) (by kernel_rfl) (by kernel_rfl) (fun _ _ _ h => h) (Or.inl ⟨by rfl, ?_⟩) (by assumption) ?_
      rotate_left
      focus (intro w hSw; (try dsimp only at hSw); go_simp <;> with_reducible rfl)
      try simp only [Act.put, List.setIfInBounds_toArray, List.set_cons_zero, List.set_cons_succ]
      refine wpAnyH_take (i := 3) (oi := { dst := some 51, op := Op.load 91 (Operand.tmp 2), type := 91, pos := "lead.go:84", after := #[], guard := none }) (v := _) rfl (by kernel_rfl) (by kernel_rfl) (by kernel_rfl) (fun _ _ _ h => h) (yieldsIf_load_mid (by rfl) 91 (.tmp 2) rfl w.heap.size 0 rfl [v, f 0, f 1, f 2, f 3, f 4, f 5, f 6, f 7, f 8, .int .u32 ps, .int .u32 cr, f 11, f 12, f 13, f 14, f 15, f 16, f 17, f 18, mv, .int .u32 va, .int .i64 kind] _ (fun _ h => h.2.2.1) Try.underlying91 rfl info_acc) (by assumption) ?_
      try simp only [Act.put, List.setIfInBounds_toArray, List.set_cons_zero, List.set_cons_succ]
      refine wpAnyH_ready (rs := [4]) (by kernel_rfl) (by simp) ?_
      refine AllReadyH.cons (o := { dst := some 52, op := Op.call { callee := Callee.value (Operand.func 48), args := #[Operand.tmp 51], argTypes := #[91] }, type := 4, pos := "lead.go:84", after := #[{ on := 3, ground := Ground.data }], guard := none }) rfl (fun K hK => ?_) AllReadyH.nil
      go_simp
      refine (paged_at v mv f ps cr va kind hp _).mono ?_
      rintro en y1 ⟨rfl, hy1⟩
      rw [HPG.out]
      go_wp2_with fail
      have hk1 := Lib.hid (show Keep [] y y1 by rw [← hy1]; exact ((Keep.refl [] y).drew).alloc _)
      have HY1 := Lib.hid hy1
      clear hy1
      refine shut_grow (fun x => x.cell? ⟨w.heap.size, 0, none⟩ = some v ∧ x.cell? ⟨w.heap.size, 20, none⟩ = some mv ∧ x.rangeAt w.heap.size 0 [v, f 0, f 1, f 2, f 3, f 4, f 5, f 6, f 7, f 8, .int .u32 ps, .int .u32 cr, f 11, f 12, f 13, f 14, f 15, f 16, f 17, f 18, mv, .int .u32 va, .int .i64 kind] ∧ x.cell? ⟨w.heap.size + 1, 0, none⟩ = some (.int .u32 b) ∧ x.cell? ⟨w.heap.size + 1, 1, none⟩ = some (.int .u32 a) ∧ x.cell? ⟨w.heap.size + 1, 2, none⟩ = some (.int .u32 e) ∧ x.cell? ⟨w.heap.size + 1, 3, none⟩ = some (.int .i64 d) ∧ x.cell? ⟨w.heap.size + 1, 4, none⟩ = some (.int .i64 t) ∧ x.cell? ⟨w.heap.size + 1, 5, none⟩ = some (.int .i64 p)) hK (fun _ h => h) (HS.out _ (hk1.out.weaken (by simp))) (fun hHeld => ?_)
      clear hK K
      skip
      refine wpAnyH_ready (rs := [7]) (by kernel_rfl) (by simp) ?_
      refine AllReadyH.cons (o := { dst := some 55, op := Op.call { callee := Callee.value (Operand.func 10), args := #[Operand.tmp 49, Operand.tmp 50, Operand.tmp 52, Operand.tmp 54], argTypes := #[48, 34, 4, 26] }, type := 22, pos := "lead.go:84", after := #[{ on := 1, ground := Ground.data }, { on := 2, ground := Ground.data }, { on := 4, ground := Ground.data }, { on := 6, ground := Ground.data }, { on := 4, ground := Ground.chain }], guard := none }) rfl (fun K hK => ?_) AllReadyH.nil
      go_simp
      refine (lbits_at (HMY.out.keep0 hk1.out) v b a e d t p hb true ha).mono ?_
      rintro en y2 ⟨rfl, hy2⟩
      go_wp2_with fail
      have hk2 := Lib.hid (show Keep [] y y2 by rw [← hy2]; exact hk1.out.alloc _)
      have HY2 := Lib.hid hy2
      have hfz : y2.frozen? ⟨w.heap.size + 1 + 1 + 1, 2, none⟩ = false ∧ y2.cell? ⟨w.heap.size + 1 + 1 + 1, 2, none⟩ = some (.int .u32 0) := by rw [← HY2.out, ← HY1.out, ← HY.out]; simp [go_sem]
      clear hy2
      refine shut_grow (fun x => x.cell? ⟨w.heap.size, 0, none⟩ = some v ∧ x.cell? ⟨w.heap.size, 20, none⟩ = some mv ∧ x.rangeAt w.heap.size 0 [v, f 0, f 1, f 2, f 3, f 4, f 5, f 6, f 7, f 8, .int .u32 ps, .int .u32 cr, f 11, f 12, f 13, f 14, f 15, f 16, f 17, f 18, mv, .int .u32 va, .int .i64 kind] ∧ x.cell? ⟨w.heap.size + 1, 0, none⟩ = some (.int .u32 b) ∧ x.cell? ⟨w.heap.size + 1, 1, none⟩ = some (.int .u32 a) ∧ x.cell? ⟨w.heap.size + 1, 2, none⟩ = some (.int .u32 e) ∧ x.cell? ⟨w.heap.size + 1, 3, none⟩ = some (.int .i64 d) ∧ x.cell? ⟨w.heap.size + 1, 4, none⟩ = some (.int .i64 t) ∧ x.cell? ⟨w.heap.size + 1, 5, none⟩ = some (.int .i64 p)) hK (fun _ h => h) (HS.out _ (hk2.out.weaken (by simp))) (fun hHeld => ?_)
      clear hK K
      refine wpAnyH_take (i := 8) (oi := { dst := some 56, op := Op.fieldAddr 61 (Operand.tmp 5) 2, type := 0, pos := "lead.go:84", after := #[{ on := 0, ground := Ground.phase }, { on := 1, ground := Ground.phase }, { on := 2, ground := Ground.phase }, { on := 3, ground := Ground.phase }, { on := 4, ground := Ground.phase }, { on := 5, ground := Ground.phase }, { on := 6, ground := Ground.phase }, { on := 7, ground := Ground.phase }], guard := none }) (v := ?_) rfl (by kernel_rfl) (by kernel_rfl) (by kernel_rfl) (fun _ _ _ h => h) (Or.inl ⟨by rfl, ?_⟩) (by assumption) ?_
      rotate_left
      focus (intro w hSw; (try dsimp only at hSw); go_simp <;> with_reducible rfl)
      try simp only [Act.put, List.setIfInBounds_toArray, List.set_cons_zero, List.set_cons_succ]
      refine wpAnyH_ready (rs := [9]) (by kernel_rfl) (by simp) ?_
      refine AllReadyH.cons (o := { dst := none, op := Op.store 22 (Operand.tmp 56) (Operand.tmp 55), type := 0, pos := "lead.go:84", after := #[{ on := 8, ground := Ground.data }, { on := 7, ground := Ground.data }, { on := 7, ground := Ground.chain }, { on := 0, ground := Ground.phase }, { on := 1, ground := Ground.phase }, { on := 2, ground := Ground.phase }, { on := 3, ground := Ground.phase }, { on := 4, ground := Ground.phase }, { on := 5, ground := Ground.phase }, { on := 6, ground := Ground.phase }, { on := 7, ground := Ground.phase }], guard := none }) rfl (fun K hK => ?_) AllReadyH.nil
      go_simp
      have hS3 := HS.out _ ((hk2.out.weaken (l' := [w.heap.size + 1 + 1 + 1]) (by simp)).setCell (p := ⟨w.heap.size + 1 + 1 + 1, 2, none⟩) (.inl (by simp)) (.int .u32 (leadB b (W p) : Nat)))
      generalize hy3 : y2.setCell _ _ = y3 at hS3
      have HY3 := Lib.hid hy3
      clear hy3
      refine shut_grow (fun x => x = y3) hK (fun _ h => by rw [h]; exact hS3) rfl (fun hHeld => ?_)
      clear hK K hS3
      refine wpAnyH_done (by kernel_rfl) ?_ _
      clear hHeld hfz
      rw [← HY3.out, ← HY2.out, ← HY1.out, ← HY.out]
      go_wp2_with fail
      exact bodyPost_ret (v := verV (overV W b a e d t p true kind) (.slice (some ⟨w.heap.size + 1 + 1 + 1 + 1 + 1 + 1, 0, none⟩) (tabs d t).length (tabs d t).length)) (by simp [results, Try.results29, go_sem, verV, overV, HQ.out, HKN.out]) rfl (verPost_of (l := tabs d t) (by simp [overV]) (by repeat first | (refine reads_at (tabs d t) _ ?_; (simp; done)) | refine Reads.keep ?_ ((Keep.refl _ _).alloc _) | refine Reads.keep ?_ (Keep.refl _ _).drew) (by repeat first | exact Keep.refl _ _ | refine Keep.alloc ?_ _ | refine Keep.drew ?_) (.inr ⟨_, rfl, by omega⟩))
end Go.Proofs.Ytnpnedimgfbnhaa
