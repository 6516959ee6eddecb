/- The law LeadMarked, walked. -/
import Derived.Deep.Cut
import Derived.Deep.CutBlock
import Derived.Deep.DeepCutAuto
import Derived.Outline
import Derived.Test.YtnpnedimgfbnhaaM20
import Derived.Test.YtnpnedimgfbnhaaVLeadP
import Derived.Test.YtnpnedimgfbnhaaM22
namespace Go.Proofs.Ytnpnedimgfbnhaa
open Go.RowKit Go.Mum
set_option linter.unusedVariables false
set_option linter.unusedSimpArgs false
set_option maxRecDepth 100000

set_option maxHeartbeats 8000000 in
theorem LeadMarked_walk (c0 : Array Value) (n0 : Nat) (s1 : Option Addr) (len1 cap1 n1 : Nat) (c2 : Array Value) (n2 : Nat) (w : World) (w0 : Fits Try.prog w maxLen n0 46 c0.toList) (w1 : Fits Try.prog w maxLen n1 23 [.slice s1 len1 cap1]) (w2 : Fits Try.prog w maxLen n2 72 c2.toList) :
    Calls Try.prog 6 #[.agg c0, .slice s1 len1 cap1, .agg c2] w fun e w' => e = .returned (.bool true) ∧ Below w.heap.size w w' := by
  obtain ⟨fr, en, is, cs, ss, ds, ic, cl, cc, sl, sc, dl, dc, IL, f, ps, cr, rfl, hI, hC, hil, he0, he1, hps, hcr, hf⟩ := guest_of_fits w0
  have hM := marks_of_fits w1
  obtain ⟨x0, x1, x2, rfl, hx0, hx1, hx2⟩ := three_of_fits w2
  have HMD := Lib.hid (fun y (hy : Keep [] w y) => made_at fr en is cs ss ds s1 ic cl cc sl sc dl dc len1 cap1 IL f ps cr y (hI.keep0 hy) (hC.keep0 hy) hil he0 he1 (hM.keep0 hy))
  clear w0 w1 w2 hI hC hM
  obtain ⟨sz, hsz⟩ : ∃ sz, sz = w.heap.size := ⟨_, rfl⟩
  have hgs : ((w.alloc (.cells #[.int .i64 fr, .slice is IL.length ic, .slice cs cl cc, .int .u16 en, f 0, f 1, f 2, f 3, f 4, f 5, f 6, f 7, f 8, .int .u32 ps, .int .u32 cr, f 11, f 12, f 13, f 14, f 15, f 16, f 17, f 18, .slice ss sl sc, .slice ds dl dc] 46)).alloc (.cells #[.int .u32 x0, .int .u32 x1, .int .u32 x2] 72)).rangeAt sz 0 [.int .i64 fr, .slice is IL.length ic, .slice cs cl cc, .int .u16 en, f 0, f 1, f 2, f 3, f 4, f 5, f 6, f 7, f 8, .int .u32 ps, .int .u32 cr, f 11, f 12, f 13, f 14, f 15, f 16, f 17, f 18, .slice ss sl sc, .slice ds dl dc] := by
    subst hsz
    exact rangeAcc (by repeat first | (refine heap_alloc_at _ ?_; (simp; done)) | refine heap_alloc_other _ ?_)
  go_enter Try.func6, Try.ntmps6
  go_wp2_with (refine wpList_load_mid rfl 46 (.tmp 3) rfl sz 0 (by rw [hsz]; rfl) [.int .i64 fr, .slice is IL.length ic, .slice cs cl cc, .int .u16 en, f 0, f 1, f 2, f 3, f 4, f 5, f 6, f 7, f 8, .int .u32 ps, .int .u32 cr, f 11, f 12, f 13, f 14, f 15, f 16, f 17, f 18, .slice ss sl sc, .slice ds dl dc] _ hgs Try.underlying46 rfl info_guest ?_)
  rw [← hsz]
  generalize hy : World.alloc (World.alloc w _) _ = y0
  have H0 : Hid (Keep [] w y0 ∧ y0.rangeAt sz 0 [.int .i64 fr, .slice is IL.length ic, .slice cs cl cc, .int .u16 en, f 0, f 1, f 2, f 3, f 4, f 5, f 6, f 7, f 8, .int .u32 ps, .int .u32 cr, f 11, f 12, f 13, f 14, f 15, f 16, f 17, f 18, .slice ss sl sc, .slice ds dl dc] ∧ y0.heap[sz + 1]? = some (.cells #[.int .u32 x0, .int .u32 x1, .int .u32 x2] 72 (0, 0)) ∧ w.heap.size = sz) := Lib.hid (by
    rw [hy] at hgs
    refine ⟨by subst hy; exact ((Keep.refl _ _).alloc _).alloc _, hgs, by subst hy hsz; exact heap_alloc_at _ (by simp), hsz.symm⟩)
  clear hy hsz hgs
  refine (HMD.out _ H0.out.1).mono ?_
  rintro e y1 ⟨n, r, fb, g, b, m1, m2, q, c, t, L, s1', s2', rfl, hn1, hn2, hMA⟩
  have HA := Lib.hid hMA
  clear hMA HMD
  unfold rval
  have xk : ∀ o1 o2, ((y1.alloc o1).alloc o2).cell? ⟨sz + 1, 1, none⟩ = some (.int .u32 x1) := fun o1 o2 =>
    (((Keep.refl [] y1).alloc o1).alloc o2).cell (HA.out.keep.cell (cell_of H0.out.2.2.1 1 rfl) (by simp)) (by simp)
  obtain ⟨kk, hkk⟩ : ∃ kk, kk = x1 % 5 := ⟨_, rfl⟩
  have t1 : ((x1 : Int)).tmod 5 = (kk : Int) := by rw [Int.tmod_eq_emod_of_nonneg (by omega)]; omega
  have u1 : (x1 : Int) % 5 = (kk : Int) := by omega
  have hK5 : kk < 5 := by omega
  have t2 : IntKind.i64.wrap (kk : Int) = (kk : Int) := IntWalk.i64_in _ (by omega)
  clear hkk
  go_upto_region 5 with fail
  obtain ⟨wb, hwb⟩ : ∃ wb, wb = y1.heap.size := ⟨_, rfl⟩
  rw [← hwb]
  generalize hy2 : World.alloc (World.alloc y1 _) _ = y2
  have H2 : Hid (Keep [] y1 y2 ∧ y2.heap[wb]? = some (.cells #[.slice (some ⟨q, 0, none⟩) (64 * n) (64 * n)] 50 (0, 0)) ∧ y1.heap.size = wb) := Lib.hid (by
    subst hy2 hwb
    refine ⟨((Keep.refl _ _).alloc _).alloc _, ?_, rfl⟩
    repeat first | (refine heap_alloc_at _ ?_; (simp; done)) | refine heap_alloc_other _ ?_)
  clear hy2 hwb xk t1 t2 u1
  have HK2 : Hid (Keep [] w y2) := Lib.hid (H0.out.1.trans (HA.out.keep.trans H2.out.1))
  have HS2 : Hid (y2.rangeAt sz 4 [f 0, f 1, f 2, f 3, f 4, f 5, f 6, f 7, f 8, .int .u32 ps, .int .u32 cr, f 11, f 12, f 13, f 14, f 15, f 16, f 17, f 18] ∧ (y2.cell? ⟨sz + 1, 0, none⟩ = some (.int .u32 x0) ∧ y2.cell? ⟨sz + 1, 1, none⟩ = some (.int .u32 x1) ∧ y2.cell? ⟨sz + 1, 2, none⟩ = some (.int .u32 x2)) ∧ sz + 1 < wb) := Lib.hid (by
    have hk := HA.out.keep.trans H2.out.1
    exact ⟨rangeState (keepRange hk H0.out.2.1), ⟨hk.cell (cell_of H0.out.2.2.1 0 rfl) (by simp), hk.cell (cell_of H0.out.2.2.1 1 rfl) (by simp), hk.cell (cell_of H0.out.2.2.1 2 rfl) (by simp)⟩, by have h1 := lt_of_heap H0.out.2.2.1; have h2 := HA.out.keep.size; have h3 := H2.out.2.2; omega⟩)
  obtain ⟨r1, ⟨g0, g1, g2⟩, hlt1⟩ := HS2.out
  have C2 : Hid (∀ z, Keep [] y2 z → Calls Try.prog 14 #[.pointer (some ⟨r, 0, none⟩), .agg #[f 0, f 1, f 2, f 3, f 4, f 5, f 6, f 7, f 8, .int .u32 ps, .int .u32 cr, f 11, f 12, f 13, f 14, f 15, f 16, f 17, f 18], .pointer (some ⟨b, 0, none⟩), .int .u32 x0, .int .i64 kk] z (VerPost (decF (rdOf n L) n (fun x => decide (x ∈ s1') || decide (x ∈ s2')) cr ps x0 kk) z)) := Lib.hid (fun z hz =>
    decide_at (mem_of_ram (HA.out.ram.keep0 (H2.out.1.trans hz)) HA.out.ref.len (by omega)) ((HA.out.marks.keep (H2.out.1.trans hz) (by simp) (by simp) (by simp)).wat) f hf ps cr x0 kk hps hcr hx0 (by omega) (by omega))
  obtain ⟨V, hV⟩ : ∃ V, V = decF (rdOf n L) n (fun x => decide (x ∈ s1') || decide (x ∈ s2')) cr ps x0 (kk : Int) := ⟨_, rfl⟩
  have HV := Lib.hid hV
  rw [← hV] at C2
  clear hV
  go_wp2_with (refine wpList_load_mid rfl 43 (.tmp 30) rfl sz 4 (by rfl) [f 0, f 1, f 2, f 3, f 4, f 5, f 6, f 7, f 8, .int .u32 ps, .int .u32 cr, f 11, f 12, f 13, f 14, f 15, f 16, f 17, f 18] _ r1 Try.underlying43 rfl info_state ?_)
  refine (C2.out _ (Keep.refl _ _)).mono ?_
  rintro e y3 ⟨ta, cap, rfl, hR, hk3, hg⟩
  have H3 : Hid (Keep [] y2 y3) := Lib.hid hk3
  clear hR hk3 hg r1 g0 g1 g2
  unfold verV
  go_upto_region 6 with fail
  obtain ⟨vb, hvb⟩ : ∃ vb, vb = y3.heap.size := ⟨_, rfl⟩
  rw [← hvb]
  generalize hy4 : World.alloc y3 _ = y4
  have H4 : Hid (y4.heap[vb]? = some (.cells #[.int .i64 V.act, .int .i64 V.frame, .int .u32 V.bits, .slice ta V.tables.length cap, .int .u32 V.entry, .bool V.soils, .int .i64 V.cause, .int .u32 V.addr] 61 (0, 0)) ∧ Keep [] y2 y4 ∧ y2.heap.size ≤ vb) := Lib.hid (by
    subst hy4 hvb
    exact ⟨heap_alloc_same y3 _, H3.out.trans ((Keep.refl _ _).alloc _), H3.out.size⟩)
  clear hy4 hvb
  have w0 : y4.cell? ⟨wb, 0, none⟩ = some (.slice (some ⟨q, 0, none⟩) (64 * n) (64 * n)) := H4.out.2.1.cell (cell_of H2.out.2.1 0 rfl) (by simp)
  have n1 : (64 * (n : Int)).tdiv 64 = (n : Int) := by rw [Int.tdiv_eq_ediv_of_nonneg (by omega)]; omega
  have n2 : (64 * (n : Int)) / 64 = (n : Int) := by omega
  go_upto_region 7 with fail
  obtain ⟨ff, hf1⟩ : ∃ f, f = x2 % n := ⟨_, rfl⟩
  obtain ⟨dd, hd1⟩ : ∃ d, d = x2 / 64 := ⟨_, rfl⟩
  obtain ⟨qk, hq1⟩ : ∃ q, q = dd % 2 := ⟨_, rfl⟩
  have t1 : ((x2 : Int)).tmod (n : Int) = (ff : Int) := by rw [Int.tmod_eq_emod_of_nonneg (by omega), hf1]; exact (Int.natCast_emod _ _).symm
  have u1 : (x2 : Int) % (n : Int) = (ff : Int) := by rw [hf1]; exact (Int.natCast_emod _ _).symm
  have t2 : ((x2 : Int)).tdiv 64 = (dd : Int) := by rw [Int.tdiv_eq_ediv_of_nonneg (by omega)]; omega
  have u2 : (x2 : Int) / 64 = (dd : Int) := by omega
  have t3 : ((dd : Int)).tmod 2 = (qk : Int) := by rw [Int.tmod_eq_emod_of_nonneg (by omega)]; omega
  have u3 : (dd : Int) % 2 = (qk : Int) := by omega
  have hq2 : qk < 2 := by omega
  have t4 : IntKind.i64.wrap (x2 : Int) = (x2 : Int) := IntWalk.i64_in _ (by omega)
  have t5 : IntKind.i64.wrap (qk : Int) = (qk : Int) := IntWalk.i64_in _ (by omega)
  have t6 : IntKind.i64.wrap (1 + (qk : Int)) = 1 + (qk : Int) := IntWalk.i64_in _ (by omega)
  have hfn : ff < n := by rw [hf1]; exact Nat.mod_lt _ (by omega)
  have t7 : IntKind.i64.wrap (ff : Int) = (ff : Int) := IntWalk.i64_in _ (by omega)
  have t8 : IntKind.u32.wrap (dd : Int) = (dd : Int) := IntWalk.u32_in _ (by omega)
  have hn0 : ¬ ((n : Int) = 0) := by omega
  have hn00 : ¬ (n = 0) := by omega
  clear hf1 hd1 hq1
  have c2 : y4.cell? ⟨sz + 1, 2, none⟩ = some (.int .u32 x2) := H4.out.2.1.cell HS2.out.2.1.2.2 (by simp)
  refine wp_region_held_drew (S := fun x => x.cell? ⟨sz + 1, 2, none⟩ = some (.int .u32 x2)) (by kernel_rfl) c2 (fun hHeld => ?_)
  skip
  refine wpAnyH_take (i := 0) (oi := { dst := some 41, op := Op.move (Operand.tmp 8), type := 26, pos := "law.go:163", after := #[], guard := none }) (v := ?_) rfl (by kernel_rfl) (by kernel_rfl) (by kernel_rfl) (fun _ _ _ h => h) (Or.inl ⟨by rfl, ?_⟩) (by assumption) ?_
  rotate_left
  focus (intro w hSw; (try dsimp only at hSw); go_simp <;> with_reducible rfl)
  try simp only [Act.put, List.setIfInBounds_toArray, List.set_cons_zero, List.set_cons_succ]
  refine wpAnyH_take (i := 1) (oi := { dst := some 42, op := Op.indexAddr 72 (Operand.tmp 5) (Operand.const (Value.int IntKind.i64 2)), type := 0, pos := "law.go:163", after := #[], guard := none }) (v := ?_) rfl (by kernel_rfl) (by kernel_rfl) (by kernel_rfl) (fun _ _ _ h => h) (Or.inl ⟨by rfl, ?_⟩) (by assumption) ?_
  rotate_left
  focus (intro w hSw; (try dsimp only at hSw); go_simp <;> with_reducible rfl)
  try simp only [Act.put, List.setIfInBounds_toArray, List.set_cons_zero, List.set_cons_succ]
  refine wpAnyH_take (i := 2) (oi := { dst := some 43, op := Op.load 22 (Operand.tmp 42), type := 22, pos := "law.go:163", after := #[{ on := 1, ground := Ground.data }], guard := none }) (v := ?_) rfl (by kernel_rfl) (by kernel_rfl) (by kernel_rfl) (fun _ _ _ h => h) (Or.inl ⟨by rfl, ?_⟩) (by assumption) ?_
  rotate_left
  focus (intro w hSw; (try dsimp only at hSw); go_simp <;> with_reducible rfl)
  try simp only [Act.put, List.setIfInBounds_toArray, List.set_cons_zero, List.set_cons_succ]
  refine wpAnyH_take (i := 3) (oi := { dst := some 44, op := Op.convert 22 3 (Operand.tmp 43), type := 3, pos := "law.go:163", after := #[{ on := 2, ground := Ground.data }], guard := none }) (v := ?_) rfl (by kernel_rfl) (by kernel_rfl) (by kernel_rfl) (fun _ _ _ h => h) (Or.inl ⟨by rfl, ?_⟩) (by assumption) ?_
  rotate_left
  focus (intro w hSw; (try dsimp only at hSw); go_simp <;> with_reducible rfl)
  try simp only [Act.put, List.setIfInBounds_toArray, List.set_cons_zero, List.set_cons_succ]
  refine wpAnyH_take (i := 4) (oi := { dst := some 45, op := Op.move (Operand.tmp 13), type := 3, pos := "law.go:163", after := #[], guard := none }) (v := ?_) rfl (by kernel_rfl) (by kernel_rfl) (by kernel_rfl) (fun _ _ _ h => h) (Or.inl ⟨by rfl, ?_⟩) (by assumption) ?_
  rotate_left
  focus (intro w hSw; (try dsimp only at hSw); go_simp <;> with_reducible rfl)
  try simp only [Act.put, List.setIfInBounds_toArray, List.set_cons_zero, List.set_cons_succ]
  refine wpAnyH_take (i := 5) (oi := { dst := some 46, op := Op.binOp BinOp.rem 3 (Operand.tmp 44) (Operand.tmp 45) 3, type := 3, pos := "law.go:163", after := #[{ on := 3, ground := Ground.data }, { on := 4, ground := Ground.data }], guard := none }) (v := ?_) rfl (by kernel_rfl) (by kernel_rfl) (by kernel_rfl) (fun _ _ _ h => h) (Or.inl ⟨by rfl, ?_⟩) (by assumption) ?_
  rotate_left
  focus (intro w hSw; (try dsimp only at hSw); go_simp <;> with_reducible rfl)
  try simp only [Act.put, List.setIfInBounds_toArray, List.set_cons_zero, List.set_cons_succ]
  refine wpAnyH_take (i := 6) (oi := { dst := some 47, op := Op.indexAddr 72 (Operand.tmp 5) (Operand.const (Value.int IntKind.i64 2)), type := 0, pos := "law.go:163", after := #[], guard := none }) (v := ?_) rfl (by kernel_rfl) (by kernel_rfl) (by kernel_rfl) (fun _ _ _ h => h) (Or.inl ⟨by rfl, ?_⟩) (by assumption) ?_
  rotate_left
  focus (intro w hSw; (try dsimp only at hSw); go_simp <;> with_reducible rfl)
  try simp only [Act.put, List.setIfInBounds_toArray, List.set_cons_zero, List.set_cons_succ]
  refine wpAnyH_take (i := 7) (oi := { dst := some 48, op := Op.load 22 (Operand.tmp 47), type := 22, pos := "law.go:163", after := #[{ on := 6, ground := Ground.data }], guard := none }) (v := ?_) rfl (by kernel_rfl) (by kernel_rfl) (by kernel_rfl) (fun _ _ _ h => h) (Or.inl ⟨by rfl, ?_⟩) (by assumption) ?_
  rotate_left
  focus (intro w hSw; (try dsimp only at hSw); go_simp <;> with_reducible rfl)
  try simp only [Act.put, List.setIfInBounds_toArray, List.set_cons_zero, List.set_cons_succ]
  refine wpAnyH_take (i := 8) (oi := { dst := some 49, op := Op.binOp BinOp.quo 22 (Operand.tmp 48) (Operand.const (Value.int IntKind.u32 64)) 22, type := 22, pos := "law.go:163", after := #[{ on := 7, ground := Ground.data }], guard := none }) (v := ?_) rfl (by kernel_rfl) (by kernel_rfl) (by kernel_rfl) (fun _ _ _ h => h) (Or.inl ⟨by rfl, ?_⟩) (by assumption) ?_
  rotate_left
  focus (intro w hSw; (try dsimp only at hSw); go_simp <;> with_reducible rfl)
  try simp only [Act.put, List.setIfInBounds_toArray, List.set_cons_zero, List.set_cons_succ]
  refine wpAnyH_take (i := 9) (oi := { dst := some 50, op := Op.binOp BinOp.rem 22 (Operand.tmp 49) (Operand.const (Value.int IntKind.u32 2)) 22, type := 22, pos := "law.go:163", after := #[{ on := 8, ground := Ground.data }], guard := none }) (v := ?_) rfl (by kernel_rfl) (by kernel_rfl) (by kernel_rfl) (fun _ _ _ h => h) (Or.inl ⟨by rfl, ?_⟩) (by assumption) ?_
  rotate_left
  focus (intro w hSw; (try dsimp only at hSw); go_simp <;> with_reducible rfl)
  try simp only [Act.put, List.setIfInBounds_toArray, List.set_cons_zero, List.set_cons_succ]
  refine wpAnyH_take (i := 10) (oi := { dst := some 51, op := Op.convert 22 3 (Operand.tmp 50), type := 3, pos := "law.go:163", after := #[{ on := 9, ground := Ground.data }], guard := none }) (v := ?_) rfl (by kernel_rfl) (by kernel_rfl) (by kernel_rfl) (fun _ _ _ h => h) (Or.inl ⟨by rfl, ?_⟩) (by assumption) ?_
  rotate_left
  focus (intro w hSw; (try dsimp only at hSw); go_simp <;> with_reducible rfl)
  try simp only [Act.put, List.setIfInBounds_toArray, List.set_cons_zero, List.set_cons_succ]
  refine wpAnyH_take (i := 11) (oi := { dst := some 52, op := Op.binOp BinOp.add 3 (Operand.const (Value.int IntKind.i64 1)) (Operand.tmp 51) 3, type := 3, pos := "law.go:163", after := #[{ on := 10, ground := Ground.data }], guard := none }) (v := ?_) rfl (by kernel_rfl) (by kernel_rfl) (by kernel_rfl) (fun _ _ _ h => h) (Or.inl ⟨by rfl, ?_⟩) (by assumption) ?_
  rotate_left
  focus (intro w hSw; (try dsimp only at hSw); go_simp <;> with_reducible rfl)
  try simp only [Act.put, List.setIfInBounds_toArray, List.set_cons_zero, List.set_cons_succ]
  refine wpAnyH_ready (rs := [12]) (by kernel_rfl) (by simp) ?_
  refine AllReadyH.cons (o := { dst := some 53, op := Op.call { callee := Callee.value (Operand.func 9), args := #[Operand.tmp 41, Operand.tmp 46, Operand.tmp 52], argTypes := #[26, 3, 3] }, type := 4, pos := "law.go:163", after := #[{ on := 0, ground := Ground.data }, { on := 5, ground := Ground.data }, { on := 11, ground := Ground.data }], guard := none }) rfl (fun K hK => ?_) AllReadyH.nil
  go_simp
  refine (mmark_any (HA.out.marks.keep (H2.out.1.trans (H4.out.2.1.trans (Keep.refl [] y4).drew)) (by simp) (by simp) (by simp)) ff (1 + qk)).mono ?_
  rintro e y5 ⟨rfl, hM5, hk5⟩
  have ho := HA.out.order
  have hml : m1 < y1.heap.size ∧ m2 < y1.heap.size := by
    obtain ⟨_, _, h1, _⟩ := HA.out.marks.one
    obtain ⟨_, _, h2, _⟩ := HA.out.marks.two
    exact ⟨lt_of_heap h1, lt_of_heap h2⟩
  have hy0 := lt_of_heap H0.out.2.2.1
  have h2w := H2.out.2.2
  have h4v := H4.out.2.2
  have h2s := H2.out.1.size
  have hk45 : Keep [m1, m2] y4 y5 := ((Keep.refl [m1, m2] y4).drew).trans hk5
  have hk15 : Keep [m1, m2] y1 y5 := ((H2.out.1.trans H4.out.2.1).weaken (by simp)).trans hk45
  have c2' : y5.cell? ⟨sz + 1, 2, none⟩ = some (.int .u32 x2) := hk45.cell c2 (by simp; omega)
  have H5 : Hid (MarksAt y5 b m1 m2 n (mark1 n ff (1 + qk) s1') (mark2 n ff (1 + qk) s2') ∧ RamAt y5 r fb g (List.range n) L ∧ Keep [] w y5 ∧ y5.rangeAt sz 4 [f 0, f 1, f 2, f 3, f 4, f 5, f 6, f 7, f 8, .int .u32 ps, .int .u32 cr, f 11, f 12, f 13, f 14, f 15, f 16, f 17, f 18] ∧ y5.cell? ⟨sz + 1, 0, none⟩ = some (.int .u32 x0) ∧ y5.heap[vb]? = some (.cells #[.int .i64 V.act, .int .i64 V.frame, .int .u32 V.bits, .slice ta V.tables.length cap, .int .u32 V.entry, .bool V.soils, .int .i64 V.cause, .int .u32 V.addr] 61 (0, 0))) := Lib.hid (by
    refine ⟨hM5, HA.out.ram.keep hk15 (by simp; omega) (by simp; omega) (by simp; omega), (H0.out.1.trans HA.out.keep).then hk15 (by have := H0.out.1.size; simp; omega), ?_, hk45.cell (H4.out.2.1.cell HS2.out.2.1.1 (by simp)) (by simp; omega), hk45.heap H4.out.1 (by simp; omega)⟩
    exact fun j v hj => hk45.cell (H4.out.2.1.cell (HS2.out.1 j v hj) (by simp)) (by simp; omega))
  clear hM5 hk5 ho hml hy0 h2w h4v h2s hk45 hk15
  go_wp2_with fail
  refine shut_grow (fun x => x = y5) hK (fun _ h => by rw [h]; exact c2') rfl (fun hHeld => ?_)
  clear hK K
  refine wpAnyH_done (by kernel_rfl) ?_ _
  clear hHeld c2 c2' t1 t2 t3 t4 t5 t6 t7 t8 u1 u2 u3 n1 n2 w0
  have C5 : Hid (Calls Try.prog 14 #[.pointer (some ⟨r, 0, none⟩), .agg #[f 0, f 1, f 2, f 3, f 4, f 5, f 6, f 7, f 8, .int .u32 ps, .int .u32 cr, f 11, f 12, f 13, f 14, f 15, f 16, f 17, f 18], .pointer (some ⟨b, 0, none⟩), .int .u32 x0, .int .i64 kk] y5 (VerPost (decF (rdOf n L) n (fun x => decide (x ∈ mark1 n ff (1 + qk) s1') || decide (x ∈ mark2 n ff (1 + qk) s2')) cr ps x0 kk) y5)) := Lib.hid (
    decide_at (mem_of_ram H5.out.2.1 HA.out.ref.len (by omega)) H5.out.1.wat f hf ps cr x0 kk hps hcr hx0 (by omega) (by omega))
  obtain ⟨V', hV'⟩ : ∃ V, V = decF (rdOf n L) n (fun x => decide (x ∈ mark1 n ff (1 + qk) s1') || decide (x ∈ mark2 n ff (1 + qk) s2')) cr ps x0 (kk : Int) := ⟨_, rfl⟩
  have HM : Hid ((V.act = 3 ∧ V' = V) ∨ (((V.act = 1 ∧ V'.act = 1) ∨ (V.act = 1 ∧ V'.act = 2) ∨ (V.act = 2 ∧ V'.act = 2)) ∧ V.frame = V'.frame ∧ BitsLe V.bits V'.bits)) := Lib.hid (by
    rw [HV.out, hV']
    exact dec_marked (fun x hx => by
      rcases Bool.or_eq_true .. ▸ hx with h | h
      · have := of_decide_eq_true h
        simp only [Bool.or_eq_true, decide_eq_true_eq]
        left
        unfold mark1
        split
        · exact mem_ins.2 (.inr this)
        · exact this
      · have := of_decide_eq_true h
        simp only [Bool.or_eq_true, decide_eq_true_eq]
        right
        unfold mark2
        split
        · exact mem_ins.2 (.inr this)
        · exact this) _ _ _ _ _ _)
  rw [← hV'] at C5
  clear hV'
  have r1 := H5.out.2.2.2.1
  have g0 := H5.out.2.2.2.2.1
  go_wp2_with (refine wpList_load_mid rfl 43 (.tmp 55) rfl sz 4 (by rfl) [f 0, f 1, f 2, f 3, f 4, f 5, f 6, f 7, f 8, .int .u32 ps, .int .u32 cr, f 11, f 12, f 13, f 14, f 15, f 16, f 17, f 18] _ r1 Try.underlying43 rfl info_state ?_)
  refine C5.out.mono ?_
  rintro e y6 ⟨tb, capb, rfl, hR, hk6, hg⟩
  unfold verV
  go_upto_region 9 with fail
  obtain ⟨vc, hvc⟩ : ∃ vc, vc = y6.heap.size := ⟨_, rfl⟩
  rw [← hvc]
  generalize hy7 : World.alloc y6 _ = y7
  have H7 : Hid (y7.heap[vc]? = some (.cells #[.int .i64 V'.act, .int .i64 V'.frame, .int .u32 V'.bits, .slice tb V'.tables.length capb, .int .u32 V'.entry, .bool V'.soils, .int .i64 V'.cause, .int .u32 V'.addr] 61 (0, 0)) ∧ y7.heap[vb]? = some (.cells #[.int .i64 V.act, .int .i64 V.frame, .int .u32 V.bits, .slice ta V.tables.length cap, .int .u32 V.entry, .bool V.soils, .int .i64 V.cause, .int .u32 V.addr] 61 (0, 0)) ∧ Keep [] w y7) := Lib.hid (by
    have hk := hk6.trans ((Keep.refl [] y6).alloc (.cells #[.int .i64 V'.act, .int .i64 V'.frame, .int .u32 V'.bits, .slice tb V'.tables.length capb, .int .u32 V'.entry, .bool V'.soils, .int .i64 V'.cause, .int .u32 V'.addr] 61))
    subst hy7
    exact ⟨heap_alloc_at _ hvc, hk.heap H5.out.2.2.2.2.2 (by simp), H5.out.2.2.1.trans hk⟩)
  clear hy7 hvc hR hk6 hg r1 g0
  have HAN : Hid (bits .andNot .u32 V'.bits V.bits = 0 ∨ V.act = 3) := Lib.hid (by
    rcases HM.out with ⟨h3, _⟩ | ⟨_, _, hB⟩
    · exact .inr h3
    · left
      rcases hB with ⟨h1, h2⟩ | ⟨h2, h1 | h1 | h1 | h1⟩ | ⟨h0, h1 | h1 | h1 | h1⟩ | ⟨h1, h2⟩ | ⟨h1, h2⟩
      all_goals first
        | (rw [h1, h2]; decide +kernel)
        | (rw [← h0, h1]; decide +kernel))
  have d0 : y7.cell? ⟨vb, 0, none⟩ = some (.int .i64 V.act) := cell_of H7.out.2.1 0 rfl
  have d1 : y7.cell? ⟨vb, 1, none⟩ = some (.int .i64 V.frame) := cell_of H7.out.2.1 1 rfl
  have d2 : y7.cell? ⟨vb, 2, none⟩ = some (.int .u32 V.bits) := cell_of H7.out.2.1 2 rfl
  have d6 : y7.cell? ⟨vb, 6, none⟩ = some (.int .i64 V.cause) := cell_of H7.out.2.1 6 rfl
  have d7 : y7.cell? ⟨vb, 7, none⟩ = some (.int .u32 V.addr) := cell_of H7.out.2.1 7 rfl
  have e0 : y7.cell? ⟨vc, 0, none⟩ = some (.int .i64 V'.act) := cell_of H7.out.1 0 rfl
  have e1 : y7.cell? ⟨vc, 1, none⟩ = some (.int .i64 V'.frame) := cell_of H7.out.1 1 rfl
  have e2 : y7.cell? ⟨vc, 2, none⟩ = some (.int .u32 V'.bits) := cell_of H7.out.1 2 rfl
  have e6 : y7.cell? ⟨vc, 6, none⟩ = some (.int .i64 V'.cause) := cell_of H7.out.1 6 rfl
  have e7 : y7.cell? ⟨vc, 7, none⟩ = some (.int .u32 V'.addr) := cell_of H7.out.1 7 rfl
  rcases HM.out with ⟨h3, hE⟩ | ⟨hA, hF, hB⟩
  · rw [hE] at e0 e6 e7
    rw [h3] at d0 e0
    clear h3 hE e1 e2 d1 d2
    go_wp2_with fail
    refine (lworks_at _).mono ?_
    rintro e y8 ⟨rfl, hk8⟩
    have HF := Lib.hid (Keep.below (H7.out.2.2.trans hk8) (Nat.le_refl _) (by simp))
    clear hk8
    go_wp2_with fail
    go_ret
    exact ⟨rfl, HF.out⟩
  · have hAN := HAN.out.resolve_right (by rcases hA with ⟨h, _⟩ | ⟨h, _⟩ | ⟨h, _⟩ <;> omega)
    rw [← hF] at e1
    clear hB hF d6 d7 e6 e7
    rcases hA with ⟨ha, ha'⟩ | ⟨ha, ha'⟩ | ⟨ha, ha'⟩
    all_goals
      rw [ha] at d0
      rw [ha'] at e0
      clear ha ha'
      go_wp2_with fail
      refine (lworks_at _).mono ?_
      rintro e y8 ⟨rfl, hk8⟩
      have HF := Lib.hid (Keep.below (H7.out.2.2.trans hk8) (Nat.le_refl _) (by simp))
      clear hk8
      go_wp2_with fail
      go_ret
      exact ⟨rfl, HF.out⟩
end Go.Proofs.Ytnpnedimgfbnhaa
