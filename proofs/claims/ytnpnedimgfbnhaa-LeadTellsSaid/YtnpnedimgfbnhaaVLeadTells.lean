/- The law LeadTells, walked. -/
import Derived.Outline
import Derived.Test.YtnpnedimgfbnhaaM20
import Derived.Test.YtnpnedimgfbnhaaM22
namespace Go.Proofs.Ytnpnedimgfbnhaa
open Go.RowKit Go.Mum
set_option linter.unusedVariables false
set_option linter.unusedSimpArgs false
set_option maxRecDepth 100000

set_option maxHeartbeats 8000000 in
theorem LeadTells_walk (c0 : Array Value) (n0 : Nat) (s1 : Option Addr) (len1 cap1 n1 : Nat) (c2 : Array Value) (n2 : Nat) (w : World) (w0 : Fits Try.prog w maxLen n0 46 c0.toList) (w1 : Fits Try.prog w maxLen n1 23 [.slice s1 len1 cap1]) (w2 : Fits Try.prog w maxLen n2 47 c2.toList) :
    Calls Try.prog 4 #[.agg c0, .slice s1 len1 cap1, .agg c2] w fun e w' => e = .returned (.bool true) ∧ Below w.heap.size w w' := by
  obtain ⟨fr, en, is, cs, ss, ds, ic, cl, cc, sl, sc, dl, dc, IL, f, ps, cr, rfl, hI, hC, hil, he0, he1, hps, hcr, hf⟩ := guest_of_fits w0
  have hM := marks_of_fits w1
  obtain ⟨x0, x1, rfl, hx0, hx1⟩ := two_of_fits w2
  have HMD := Lib.hid (fun y (hy : Keep [] w y) => made_at fr en is cs ss ds s1 ic cl cc sl sc dl dc len1 cap1 IL f ps cr y (hI.keep0 hy) (hC.keep0 hy) hil he0 he1 (hM.keep0 hy))
  clear w0 w1 w2 hI hC hM
  obtain ⟨sz, hsz⟩ : ∃ sz, sz = w.heap.size := ⟨_, rfl⟩
  have hgs : ((w.alloc (.cells #[.int .i64 fr, .slice is IL.length ic, .slice cs cl cc, .int .u16 en, f 0, f 1, f 2, f 3, f 4, f 5, f 6, f 7, f 8, .int .u32 ps, .int .u32 cr, f 11, f 12, f 13, f 14, f 15, f 16, f 17, f 18, .slice ss sl sc, .slice ds dl dc] 46)).alloc (.cells #[.int .u32 x0, .int .u32 x1] 47)).rangeAt sz 0 [.int .i64 fr, .slice is IL.length ic, .slice cs cl cc, .int .u16 en, f 0, f 1, f 2, f 3, f 4, f 5, f 6, f 7, f 8, .int .u32 ps, .int .u32 cr, f 11, f 12, f 13, f 14, f 15, f 16, f 17, f 18, .slice ss sl sc, .slice ds dl dc] := by
    subst hsz
    exact rangeAcc (by repeat first | (refine heap_alloc_at _ ?_; (simp; done)) | refine heap_alloc_other _ ?_)
  go_enter Try.func4, Try.ntmps4
  go_wp2_with (refine wpList_load_mid rfl 46 (.tmp 3) rfl sz 0 (by rw [hsz]; rfl) [.int .i64 fr, .slice is IL.length ic, .slice cs cl cc, .int .u16 en, f 0, f 1, f 2, f 3, f 4, f 5, f 6, f 7, f 8, .int .u32 ps, .int .u32 cr, f 11, f 12, f 13, f 14, f 15, f 16, f 17, f 18, .slice ss sl sc, .slice ds dl dc] _ hgs Try.underlying46 rfl info_guest ?_)
  rw [← hsz]
  generalize hy : World.alloc (World.alloc w _) _ = y0
  have H0 : Hid (Keep [] w y0 ∧ y0.rangeAt sz 0 [.int .i64 fr, .slice is IL.length ic, .slice cs cl cc, .int .u16 en, f 0, f 1, f 2, f 3, f 4, f 5, f 6, f 7, f 8, .int .u32 ps, .int .u32 cr, f 11, f 12, f 13, f 14, f 15, f 16, f 17, f 18, .slice ss sl sc, .slice ds dl dc] ∧ y0.heap[sz + 1]? = some (.cells #[.int .u32 x0, .int .u32 x1] 47 (0, 0)) ∧ w.heap.size = sz) := Lib.hid (by
    rw [hy] at hgs
    refine ⟨by subst hy; exact ((Keep.refl _ _).alloc _).alloc _, hgs, by subst hy hsz; exact heap_alloc_at _ (by simp), hsz.symm⟩)
  clear hy hsz hgs
  refine (HMD.out _ H0.out.1).mono ?_
  rintro e y1 ⟨n, r, fb, g, b, m1, m2, q, c, t, L, s1', s2', rfl, hn1, hn2, hMA⟩
  have HA := Lib.hid hMA
  clear hMA HMD
  unfold rval
  have xk : ∀ o1 o2, ((y1.alloc o1).alloc o2).cell? ⟨sz + 1, 1, none⟩ = some (.int .u32 x1) := fun o1 o2 =>
    (((Keep.refl [] y1).alloc o1).alloc o2).cell (HA.out.keep.cell (cell_of H0.out.2.2.1 1 rfl) (by simp)) (by simp)
  obtain ⟨kk, hkk⟩ : ∃ kk, kk = x1 % 5 := ⟨_, rfl⟩
  have t1 : ((x1 : Int)).tmod 5 = (kk : Int) := by rw [Int.tmod_eq_emod_of_nonneg (by omega)]; omega
  have u1 : (x1 : Int) % 5 = (kk : Int) := by omega
  have hK5 : kk < 5 := by omega
  have t2 : IntKind.i64.wrap (kk : Int) = (kk : Int) := IntWalk.i64_in _ (by omega)
  clear hkk
  go_wp2_with fail
  obtain ⟨wb, hwb⟩ : ∃ wb, wb = y1.heap.size := ⟨_, rfl⟩
  rw [← hwb]
  generalize hy2 : World.alloc (World.alloc y1 _) _ = y2
  have H2 : Hid (Keep [] y1 y2 ∧ y2.heap[wb]? = some (.cells #[.slice (some ⟨q, 0, none⟩) (64 * n) (64 * n)] 50 (0, 0)) ∧ y2.heap[wb + 1]? = some (.cells #[.slice (some ⟨c, 0, none⟩) n n, .slice (some ⟨t, 0, none⟩) n n] 53 (0, 0))) := Lib.hid (by
    subst hy2 hwb
    refine ⟨((Keep.refl _ _).alloc _).alloc _, ?_, ?_⟩
    all_goals repeat first | (refine heap_alloc_at _ ?_; (simp; done)) | refine heap_alloc_other _ ?_)
  clear hy2 hwb xk
  have HS : Hid (y2.rangeAt sz 4 [f 0, f 1, f 2, f 3, f 4, f 5, f 6, f 7, f 8, .int .u32 ps, .int .u32 cr, f 11, f 12, f 13, f 14, f 15, f 16, f 17, f 18] ∧ y2.cell? ⟨sz + 1, 0, none⟩ = some (.int .u32 x0) ∧ y2.cell? ⟨wb, 0, none⟩ = some (.slice (some ⟨q, 0, none⟩) (64 * n) (64 * n)) ∧ y2.cell? ⟨wb + 1, 0, none⟩ = some (.slice (some ⟨c, 0, none⟩) n n) ∧ y2.cell? ⟨wb + 1, 1, none⟩ = some (.slice (some ⟨t, 0, none⟩) n n)) := Lib.hid (by
    have hk := HA.out.keep.trans H2.out.1
    exact ⟨rangeState (keepRange hk H0.out.2.1), hk.cell (cell_of H0.out.2.2.1 0 rfl) (by simp), cell_of H2.out.2.1 0 rfl, cell_of H2.out.2.2 0 rfl, cell_of H2.out.2.2 1 rfl⟩)
  refine wp_region_held_drew (S := fun x => x.rangeAt sz 4 [f 0, f 1, f 2, f 3, f 4, f 5, f 6, f 7, f 8, .int .u32 ps, .int .u32 cr, f 11, f 12, f 13, f 14, f 15, f 16, f 17, f 18] ∧ x.cell? ⟨sz + 1, 0, none⟩ = some (.int .u32 x0) ∧ x.cell? ⟨wb, 0, none⟩ = some (.slice (some ⟨q, 0, none⟩) (64 * n) (64 * n)) ∧ x.cell? ⟨wb + 1, 0, none⟩ = some (.slice (some ⟨c, 0, none⟩) n n) ∧ x.cell? ⟨wb + 1, 1, none⟩ = some (.slice (some ⟨t, 0, none⟩) n n)) (by kernel_rfl) HS.out (fun hHeld => ?_)
  skip
  refine wpAnyH_take (i := 0) (oi := { dst := some 26, op := Op.move (Operand.tmp 7), type := 48, pos := "law.go:74", after := #[], guard := none }) (v := ?_) rfl (by kernel_rfl) (by kernel_rfl) (by kernel_rfl) (fun _ _ _ h => h) (Or.inl ⟨by rfl, ?_⟩) (by assumption) ?_
  rotate_left
  focus (intro w hSw; (try dsimp only at hSw); go_simp <;> with_reducible rfl)
  try simp only [Act.put, List.setIfInBounds_toArray, List.set_cons_zero, List.set_cons_succ]
  refine wpAnyH_take (i := 1) (oi := { dst := some 27, op := Op.fieldAddr 46 (Operand.tmp 3) 4, type := 0, pos := "law.go:74", after := #[], guard := none }) (v := ?_) rfl (by kernel_rfl) (by kernel_rfl) (by kernel_rfl) (fun _ _ _ h => h) (Or.inl ⟨by rfl, ?_⟩) (by assumption) ?_
  rotate_left
  focus (intro w hSw; (try dsimp only at hSw); go_simp <;> with_reducible rfl)
  try simp only [Act.put, List.setIfInBounds_toArray, List.set_cons_zero, List.set_cons_succ]
  refine wpAnyH_take (i := 3) (oi := { dst := some 29, op := Op.move (Operand.tmp 8), type := 26, pos := "law.go:74", after := #[], guard := none }) (v := ?_) rfl (by kernel_rfl) (by kernel_rfl) (by kernel_rfl) (fun _ _ _ h => h) (Or.inl ⟨by rfl, ?_⟩) (by assumption) ?_
  rotate_left
  focus (intro w hSw; (try dsimp only at hSw); go_simp <;> with_reducible rfl)
  try simp only [Act.put, List.setIfInBounds_toArray, List.set_cons_zero, List.set_cons_succ]
  refine wpAnyH_take (i := 4) (oi := { dst := some 30, op := Op.indexAddr 47 (Operand.tmp 5) (Operand.const (Value.int IntKind.i64 0)), type := 0, pos := "law.go:74", after := #[], guard := none }) (v := ?_) rfl (by kernel_rfl) (by kernel_rfl) (by kernel_rfl) (fun _ _ _ h => h) (Or.inl ⟨by rfl, ?_⟩) (by assumption) ?_
  rotate_left
  focus (intro w hSw; (try dsimp only at hSw); go_simp <;> with_reducible rfl)
  try simp only [Act.put, List.setIfInBounds_toArray, List.set_cons_zero, List.set_cons_succ]
  refine wpAnyH_take (i := 5) (oi := { dst := some 31, op := Op.load 22 (Operand.tmp 30), type := 22, pos := "law.go:74", after := #[{ on := 4, ground := Ground.data }], guard := none }) (v := ?_) rfl (by kernel_rfl) (by kernel_rfl) (by kernel_rfl) (fun _ _ _ h => h) (Or.inl ⟨by rfl, ?_⟩) (by assumption) ?_
  rotate_left
  focus (intro w hSw; (try dsimp only at hSw); go_simp <;> with_reducible rfl)
  try simp only [Act.put, List.setIfInBounds_toArray, List.set_cons_zero, List.set_cons_succ]
  refine wpAnyH_take (i := 6) (oi := { dst := some 32, op := Op.move (Operand.tmp 11), type := 3, pos := "law.go:74", after := #[], guard := none }) (v := ?_) rfl (by kernel_rfl) (by kernel_rfl) (by kernel_rfl) (fun _ _ _ h => h) (Or.inl ⟨by rfl, ?_⟩) (by assumption) ?_
  rotate_left
  focus (intro w hSw; (try dsimp only at hSw); go_simp <;> with_reducible rfl)
  try simp only [Act.put, List.setIfInBounds_toArray, List.set_cons_zero, List.set_cons_succ]
  refine wpAnyH_take (i := 8) (oi := { dst := some 34, op := Op.load 50 (Operand.tmp 9), type := 50, pos := "law.go:74", after := #[], guard := none }) (v := ?_) rfl (by kernel_rfl) (by kernel_rfl) (by kernel_rfl) (fun _ _ _ h => h) (Or.inl ⟨by rfl, ?_⟩) (by assumption) ?_
  rotate_left
  focus (intro w hSw; (try dsimp only at hSw); go_simp <;> with_reducible rfl)
  try simp only [Act.put, List.setIfInBounds_toArray, List.set_cons_zero, List.set_cons_succ]
  refine wpAnyH_take (i := 9) (oi := { dst := some 35, op := Op.fieldAddr 46 (Operand.tmp 3) 4, type := 0, pos := "law.go:74", after := #[], guard := none }) (v := ?_) rfl (by kernel_rfl) (by kernel_rfl) (by kernel_rfl) (fun _ _ _ h => h) (Or.inl ⟨by rfl, ?_⟩) (by assumption) ?_
  rotate_left
  focus (intro w hSw; (try dsimp only at hSw); go_simp <;> with_reducible rfl)
  try simp only [Act.put, List.setIfInBounds_toArray, List.set_cons_zero, List.set_cons_succ]
  refine wpAnyH_take (i := 11) (oi := { dst := some 37, op := Op.load 53 (Operand.tmp 10), type := 53, pos := "law.go:74", after := #[], guard := none }) (v := ?_) rfl (by kernel_rfl) (by kernel_rfl) (by kernel_rfl) (fun _ _ _ h => h) (Or.inl ⟨by rfl, ?_⟩) (by assumption) ?_
  rotate_left
  focus (intro w hSw; (try dsimp only at hSw); go_simp <;> with_reducible rfl)
  try simp only [Act.put, List.setIfInBounds_toArray, List.set_cons_zero, List.set_cons_succ]
  refine wpAnyH_take (i := 12) (oi := { dst := some 38, op := Op.indexAddr 47 (Operand.tmp 5) (Operand.const (Value.int IntKind.i64 0)), type := 0, pos := "law.go:74", after := #[], guard := none }) (v := ?_) rfl (by kernel_rfl) (by kernel_rfl) (by kernel_rfl) (fun _ _ _ h => h) (Or.inl ⟨by rfl, ?_⟩) (by assumption) ?_
  rotate_left
  focus (intro w hSw; (try dsimp only at hSw); go_simp <;> with_reducible rfl)
  try simp only [Act.put, List.setIfInBounds_toArray, List.set_cons_zero, List.set_cons_succ]
  refine wpAnyH_take (i := 13) (oi := { dst := some 39, op := Op.load 22 (Operand.tmp 38), type := 22, pos := "law.go:74", after := #[{ on := 12, ground := Ground.data }], guard := none }) (v := ?_) rfl (by kernel_rfl) (by kernel_rfl) (by kernel_rfl) (fun _ _ _ h => h) (Or.inl ⟨by rfl, ?_⟩) (by assumption) ?_
  rotate_left
  focus (intro w hSw; (try dsimp only at hSw); go_simp <;> with_reducible rfl)
  try simp only [Act.put, List.setIfInBounds_toArray, List.set_cons_zero, List.set_cons_succ]
  refine wpAnyH_take (i := 14) (oi := { dst := some 40, op := Op.move (Operand.tmp 11), type := 3, pos := "law.go:74", after := #[], guard := none }) (v := ?_) rfl (by kernel_rfl) (by kernel_rfl) (by kernel_rfl) (fun _ _ _ h => h) (Or.inl ⟨by rfl, ?_⟩) (by assumption) ?_
  rotate_left
  focus (intro w hSw; (try dsimp only at hSw); go_simp <;> with_reducible rfl)
  try simp only [Act.put, List.setIfInBounds_toArray, List.set_cons_zero, List.set_cons_succ]
  refine wpAnyH_take (i := 2) (oi := { dst := some 28, op := Op.load 43 (Operand.tmp 27), type := 43, pos := "law.go:74", after := #[{ on := 1, ground := Ground.data }], guard := none }) (v := _) rfl (by kernel_rfl) (by kernel_rfl) (by kernel_rfl) (fun _ _ _ h => h) (yieldsIf_load_mid (by rfl) 43 (.tmp 27) rfl sz 4 rfl [f 0, f 1, f 2, f 3, f 4, f 5, f 6, f 7, f 8, .int .u32 ps, .int .u32 cr, f 11, f 12, f 13, f 14, f 15, f 16, f 17, f 18] _ (fun _ h => h.1) Try.underlying43 rfl info_state) (by assumption) ?_
  try simp only [Act.put, List.setIfInBounds_toArray, List.set_cons_zero, List.set_cons_succ]
  refine wpAnyH_take (i := 10) (oi := { dst := some 36, op := Op.load 43 (Operand.tmp 35), type := 43, pos := "law.go:74", after := #[{ on := 9, ground := Ground.data }], guard := none }) (v := _) rfl (by kernel_rfl) (by kernel_rfl) (by kernel_rfl) (fun _ _ _ h => h) (yieldsIf_load_mid (by rfl) 43 (.tmp 35) rfl sz 4 rfl [f 0, f 1, f 2, f 3, f 4, f 5, f 6, f 7, f 8, .int .u32 ps, .int .u32 cr, f 11, f 12, f 13, f 14, f 15, f 16, f 17, f 18] _ (fun _ h => h.1) Try.underlying43 rfl info_state) (by assumption) ?_
  try simp only [Act.put, List.setIfInBounds_toArray, List.set_cons_zero, List.set_cons_succ]
  refine wpAnyH_ready (rs := [7]) (by kernel_rfl) (by simp) ?_
  refine AllReadyH.cons (o := { dst := some 33, op := Op.call { callee := Callee.value (Operand.func 14), args := #[Operand.tmp 26, Operand.tmp 28, Operand.tmp 29, Operand.tmp 31, Operand.tmp 32], argTypes := #[48, 43, 26, 22, 3] }, type := 61, pos := "law.go:74", after := #[{ on := 0, ground := Ground.data }, { on := 2, ground := Ground.data }, { on := 3, ground := Ground.data }, { on := 5, ground := Ground.data }, { on := 6, ground := Ground.data }], guard := none }) rfl (fun K hK => ?_) AllReadyH.nil
  go_simp
  have hM1 : Mem y2.drew (.pointer (some ⟨r, 0, none⟩)) n (rdOf n L) := mem_of_ram (HA.out.ram.keep0 (H2.out.1.trans (Keep.refl [] y2).drew)) HA.out.ref.len (by omega)
  have hW1 := (HA.out.marks.keep (H2.out.1.trans (Keep.refl [] y2).drew) (by simp) (by simp) (by simp)).wat
  refine (decide_at hM1 hW1 f hf ps cr x0 kk hps hcr hx0 (by omega) (by omega)).mono ?_
  rintro e y3 ⟨ta, cap, rfl, hR, hk3, hg⟩
  have HR := Lib.hid (And.intro hR hk3)
  have hH3 : y3.rangeAt sz 4 [f 0, f 1, f 2, f 3, f 4, f 5, f 6, f 7, f 8, .int .u32 ps, .int .u32 cr, f 11, f 12, f 13, f 14, f 15, f 16, f 17, f 18] ∧ y3.cell? ⟨sz + 1, 0, none⟩ = some (.int .u32 x0) ∧ y3.cell? ⟨wb, 0, none⟩ = some (.slice (some ⟨q, 0, none⟩) (64 * n) (64 * n)) ∧ y3.cell? ⟨wb + 1, 0, none⟩ = some (.slice (some ⟨c, 0, none⟩) n n) ∧ y3.cell? ⟨wb + 1, 1, none⟩ = some (.slice (some ⟨t, 0, none⟩) n n) :=
    ⟨keepRange hk3 hHeld.1, hk3.cell hHeld.2.1 (by simp), hk3.cell hHeld.2.2.1 (by simp), hk3.cell hHeld.2.2.2.1 (by simp), hk3.cell hHeld.2.2.2.2 (by simp)⟩
  have HH3 := Lib.hid hH3
  clear hR hk3 hg hM1 hW1 hH3
  obtain ⟨V, hV⟩ : ∃ V, V = decF (rdOf n L) n (fun x => decide (x ∈ s1') || decide (x ∈ s2')) cr ps x0 (kk : Int) := ⟨_, rfl⟩
  have HV := Lib.hid hV
  rw [← hV] at HR ⊢
  clear hV
  unfold verV
  go_wp2_with fail
  refine shut_grow (fun x => x.rangeAt sz 4 [f 0, f 1, f 2, f 3, f 4, f 5, f 6, f 7, f 8, .int .u32 ps, .int .u32 cr, f 11, f 12, f 13, f 14, f 15, f 16, f 17, f 18] ∧ x.cell? ⟨sz + 1, 0, none⟩ = some (.int .u32 x0) ∧ x.cell? ⟨wb, 0, none⟩ = some (.slice (some ⟨q, 0, none⟩) (64 * n) (64 * n)) ∧ x.cell? ⟨wb + 1, 0, none⟩ = some (.slice (some ⟨c, 0, none⟩) n n) ∧ x.cell? ⟨wb + 1, 1, none⟩ = some (.slice (some ⟨t, 0, none⟩) n n)) hK (fun _ h => h) HH3.out (fun hHeld => ?_)
  clear hK K
  skip
  refine wpAnyH_ready (rs := [15]) (by kernel_rfl) (by simp) ?_
  refine AllReadyH.cons (o := { dst := some 41, op := Op.call { callee := Callee.value (Operand.func 15), args := #[Operand.tmp 34, Operand.tmp 36, Operand.tmp 37, Operand.tmp 39, Operand.tmp 40], argTypes := #[50, 43, 53, 22, 3] }, type := 63, pos := "law.go:74", after := #[{ on := 8, ground := Ground.data }, { on := 10, ground := Ground.data }, { on := 11, ground := Ground.data }, { on := 13, ground := Ground.data }, { on := 14, ground := Ground.data }, { on := 7, ground := Ground.chain }], guard := none }) rfl (fun K hK => ?_) AllReadyH.nil
  go_simp
  have hk13 : Keep [] y1 y3 := (H2.out.1.trans (Keep.refl [] y2).drew).trans HR.out.2
  have hD1 := rdecide_at (dmem_of_ref (HA.out.ref.keep0 hk13) (by omega)) ((HA.out.rm.keep hk13 (by simp) (by simp)).dwat HA.out.in1 HA.out.in2) (fun a z h => rdOf_lt HA.out.ref.ref.2.1 HA.out.ref.len h) f ps cr x0 kk hps hcr hx0 (by omega) (by omega)
  rw [← HV.out] at hD1
  refine hD1.mono ?_
  rintro e y4 ⟨tb, capb, rfl, hRb, hk4, hgb⟩
  have HRb := Lib.hid (And.intro (HR.out.1.keepL hk4 (HR.out.1.elim .inl (fun ⟨g, e, _⟩ => .inr ⟨g, e, by simp⟩))) (And.intro hRb (And.intro hk4 (show V.tables.length ≤ 2 by rw [HV.out]; exact dec_tables _ _ _ _ _ _ _))))
  have HH4 := Lib.hid (show y4.rangeAt sz 4 [f 0, f 1, f 2, f 3, f 4, f 5, f 6, f 7, f 8, .int .u32 ps, .int .u32 cr, f 11, f 12, f 13, f 14, f 15, f 16, f 17, f 18] ∧ y4.cell? ⟨sz + 1, 0, none⟩ = some (.int .u32 x0) ∧ y4.cell? ⟨wb, 0, none⟩ = some (.slice (some ⟨q, 0, none⟩) (64 * n) (64 * n)) ∧ y4.cell? ⟨wb + 1, 0, none⟩ = some (.slice (some ⟨c, 0, none⟩) n n) ∧ y4.cell? ⟨wb + 1, 1, none⟩ = some (.slice (some ⟨t, 0, none⟩) n n) from ⟨keepRange hk4 hHeld.1, hk4.cell hHeld.2.1 (by simp), hk4.cell hHeld.2.2.1 (by simp), hk4.cell hHeld.2.2.2.1 (by simp), hk4.cell hHeld.2.2.2.2 (by simp)⟩)
  clear hRb hk4 hgb hD1 hk13
  unfold verV
  go_wp2_with fail
  refine shut_grow (fun x => x.rangeAt sz 4 [f 0, f 1, f 2, f 3, f 4, f 5, f 6, f 7, f 8, .int .u32 ps, .int .u32 cr, f 11, f 12, f 13, f 14, f 15, f 16, f 17, f 18] ∧ x.cell? ⟨sz + 1, 0, none⟩ = some (.int .u32 x0) ∧ x.cell? ⟨wb, 0, none⟩ = some (.slice (some ⟨q, 0, none⟩) (64 * n) (64 * n)) ∧ x.cell? ⟨wb + 1, 0, none⟩ = some (.slice (some ⟨c, 0, none⟩) n n) ∧ x.cell? ⟨wb + 1, 1, none⟩ = some (.slice (some ⟨t, 0, none⟩) n n)) hK (fun _ h => h) HH4.out (fun hHeld => ?_)
  clear hK K
  skip
  refine wpAnyH_ready (rs := [16]) (by kernel_rfl) (by simp) ?_
  refine AllReadyH.cons (o := { dst := some 42, op := Op.call { callee := Callee.value (Operand.func 13), args := #[Operand.tmp 33, Operand.tmp 41], argTypes := #[61, 63] }, type := 4, pos := "law.go:74", after := #[{ on := 7, ground := Ground.data }, { on := 15, ground := Ground.data }, { on := 15, ground := Ground.chain }], guard := none }) rfl (fun K hK => ?_) AllReadyH.nil
  go_simp
  refine (lsame_at V.act V.frame V.bits V.entry V.cause V.addr V.soils HRb.out.1 HRb.out.2.1 HRb.out.2.2.2).mono ?_
  rintro e y5 ⟨rfl, hk5⟩
  have HH5 := Lib.hid (show y5.rangeAt sz 4 [f 0, f 1, f 2, f 3, f 4, f 5, f 6, f 7, f 8, .int .u32 ps, .int .u32 cr, f 11, f 12, f 13, f 14, f 15, f 16, f 17, f 18] ∧ y5.cell? ⟨sz + 1, 0, none⟩ = some (.int .u32 x0) ∧ y5.cell? ⟨wb, 0, none⟩ = some (.slice (some ⟨q, 0, none⟩) (64 * n) (64 * n)) ∧ y5.cell? ⟨wb + 1, 0, none⟩ = some (.slice (some ⟨c, 0, none⟩) n n) ∧ y5.cell? ⟨wb + 1, 1, none⟩ = some (.slice (some ⟨t, 0, none⟩) n n) from ⟨keepRange hk5 hHeld.1, hk5.cell hHeld.2.1 (by simp), hk5.cell hHeld.2.2.1 (by simp), hk5.cell hHeld.2.2.2.1 (by simp), hk5.cell hHeld.2.2.2.2 (by simp)⟩)
  have HK5 : Hid (Keep [] w y5) := Lib.hid ((H0.out.1.trans (HA.out.keep.trans (H2.out.1.trans (Keep.refl [] y2).drew))).trans (HR.out.2.trans (HRb.out.2.2.1.trans hk5)))
  clear hk5
  go_wp2_with fail
  refine shut_grow (fun x => x.rangeAt sz 4 [f 0, f 1, f 2, f 3, f 4, f 5, f 6, f 7, f 8, .int .u32 ps, .int .u32 cr, f 11, f 12, f 13, f 14, f 15, f 16, f 17, f 18] ∧ x.cell? ⟨sz + 1, 0, none⟩ = some (.int .u32 x0) ∧ x.cell? ⟨wb, 0, none⟩ = some (.slice (some ⟨q, 0, none⟩) (64 * n) (64 * n)) ∧ x.cell? ⟨wb + 1, 0, none⟩ = some (.slice (some ⟨c, 0, none⟩) n n) ∧ x.cell? ⟨wb + 1, 1, none⟩ = some (.slice (some ⟨t, 0, none⟩) n n)) hK (fun _ h => h) HH5.out (fun hHeld => ?_)
  clear hK K
  refine wpAnyH_take (i := 17) (oi := { dst := some 43, op := Op.move (Operand.tmp 42), type := 4, pos := "law.go:74", after := #[{ on := 16, ground := Ground.data }, { on := 16, ground := Ground.chain }], guard := none }) (v := ?_) rfl (by kernel_rfl) (by kernel_rfl) (by kernel_rfl) (fun _ _ _ h => h) (Or.inl ⟨by rfl, ?_⟩) (by assumption) ?_
  rotate_left
  focus (intro w hSw; (try dsimp only at hSw); go_simp <;> with_reducible rfl)
  try simp only [Act.put, List.setIfInBounds_toArray, List.set_cons_zero, List.set_cons_succ]
  refine wpAnyH_ready (rs := [18]) (by kernel_rfl) (by simp) ?_
  refine AllReadyH.cons (o := { dst := some 44, op := Op.call { callee := Callee.value (Operand.func 11), args := #[], argTypes := #[] }, type := 4, pos := "law.go:74", after := #[{ on := 17, ground := Ground.chain }, { on := 17, ground := Ground.guard }], guard := some (17, true) }) rfl (fun K hK => ?_) AllReadyH.nil
  go_simp
  refine (lworks_at _).mono ?_
  rintro e y6 ⟨rfl, hk6⟩
  have HH6 := Lib.hid (show y6.rangeAt sz 4 [f 0, f 1, f 2, f 3, f 4, f 5, f 6, f 7, f 8, .int .u32 ps, .int .u32 cr, f 11, f 12, f 13, f 14, f 15, f 16, f 17, f 18] ∧ y6.cell? ⟨sz + 1, 0, none⟩ = some (.int .u32 x0) ∧ y6.cell? ⟨wb, 0, none⟩ = some (.slice (some ⟨q, 0, none⟩) (64 * n) (64 * n)) ∧ y6.cell? ⟨wb + 1, 0, none⟩ = some (.slice (some ⟨c, 0, none⟩) n n) ∧ y6.cell? ⟨wb + 1, 1, none⟩ = some (.slice (some ⟨t, 0, none⟩) n n) from ⟨keepRange hk6 hHeld.1, hk6.cell hHeld.2.1 (by simp), hk6.cell hHeld.2.2.1 (by simp), hk6.cell hHeld.2.2.2.1 (by simp), hk6.cell hHeld.2.2.2.2 (by simp)⟩)
  have HF := Lib.hid (Keep.below (HK5.out.trans hk6) (Nat.le_refl _) (by simp))
  clear hk6
  go_wp2_with fail
  refine shut_grow (fun x => x.rangeAt sz 4 [f 0, f 1, f 2, f 3, f 4, f 5, f 6, f 7, f 8, .int .u32 ps, .int .u32 cr, f 11, f 12, f 13, f 14, f 15, f 16, f 17, f 18] ∧ x.cell? ⟨sz + 1, 0, none⟩ = some (.int .u32 x0) ∧ x.cell? ⟨wb, 0, none⟩ = some (.slice (some ⟨q, 0, none⟩) (64 * n) (64 * n)) ∧ x.cell? ⟨wb + 1, 0, none⟩ = some (.slice (some ⟨c, 0, none⟩) n n) ∧ x.cell? ⟨wb + 1, 1, none⟩ = some (.slice (some ⟨t, 0, none⟩) n n)) hK (fun _ h => h) HH6.out (fun hHeld => ?_)
  clear hK K
  refine wpAnyH_take (i := 19) (oi := { dst := some 45, op := Op.pick (Operand.tmp 43) (Operand.tmp 44) (Operand.const (Value.bool false)), type := 4, pos := "law.go:74", after := #[{ on := 17, ground := Ground.data }, { on := 18, ground := Ground.data }], guard := none }) (v := ?_) rfl (by kernel_rfl) (by kernel_rfl) (by kernel_rfl) (fun _ _ _ h => h) (Or.inl ⟨by rfl, ?_⟩) (by assumption) ?_
  rotate_left
  focus (intro w hSw; (try dsimp only at hSw); go_simp <;> with_reducible rfl)
  try simp only [Act.put, List.setIfInBounds_toArray, List.set_cons_zero, List.set_cons_succ]
  refine wpAnyH_take (i := 20) (oi := { dst := some 6, op := Op.assign (Operand.tmp 45), type := 4, pos := "law.go:74", after := #[{ on := 19, ground := Ground.data }, { on := 18, ground := Ground.chain }, { on := 0, ground := Ground.phase }, { on := 1, ground := Ground.phase }, { on := 2, ground := Ground.phase }, { on := 3, ground := Ground.phase }, { on := 4, ground := Ground.phase }, { on := 5, ground := Ground.phase }, { on := 6, ground := Ground.phase }, { on := 7, ground := Ground.phase }, { on := 8, ground := Ground.phase }, { on := 9, ground := Ground.phase }, { on := 10, ground := Ground.phase }, { on := 11, ground := Ground.phase }, { on := 12, ground := Ground.phase }, { on := 13, ground := Ground.phase }, { on := 14, ground := Ground.phase }, { on := 15, ground := Ground.phase }, { on := 16, ground := Ground.phase }, { on := 17, ground := Ground.phase }, { on := 18, ground := Ground.phase }, { on := 19, ground := Ground.phase }], guard := none }) (v := ?_) rfl (by kernel_rfl) (by kernel_rfl) (by kernel_rfl) (fun _ _ _ h => h) (Or.inl ⟨by rfl, ?_⟩) (by assumption) ?_
  rotate_left
  focus (intro w hSw; (try dsimp only at hSw); go_simp <;> with_reducible rfl)
  try simp only [Act.put, List.setIfInBounds_toArray, List.set_cons_zero, List.set_cons_succ]
  refine wpAnyH_done (by kernel_rfl) ?_ _
  go_wp2_with fail
  go_ret
  exact ⟨rfl, HF.out⟩
end Go.Proofs.Ytnpnedimgfbnhaa
