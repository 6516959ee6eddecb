/- Contracts of the functions that the law reaches, walked, and the plain laws on them (several texts in one). -/
import Derived.Outline
import Derived.Test.YtpinoejckagjbaaM21
import Derived.Test.YtpinoejckagjbaaM07

/- The law ShadowLast, walked. -/
namespace Go.Proofs.Ytpinoejckagjbaa
open Go.RowKit Go.Mum
set_option linter.unusedVariables false
set_option linter.unusedSimpArgs false
set_option maxRecDepth 100000

/-- Steps that came in. -/
def StepsIn (w : World) (s : Option Addr) (len : Nat) : Prop :=
  len = 0 ∨ ∃ lb off, s = some ⟨lb, off, none⟩ ∧ len ≤ 9223372036854775807 ∧ ∀ i, i < len → ∃ (kd fr : Int) (va bb : Nat), (-9223372036854775808 ≤ kd ∧ kd ≤ 9223372036854775807) ∧ (-9223372036854775808 ≤ fr ∧ fr ≤ 9223372036854775807) ∧ va < 4294967296 ∧ bb < 4294967296 ∧
    w.cell? ⟨lb, off + i * 4, none⟩ = some (.int .i64 kd) ∧ w.cell? ⟨lb, off + i * 4 + 1, none⟩ = some (.int .u32 va) ∧ w.cell? ⟨lb, off + i * 4 + 2, none⟩ = some (.int .i64 fr) ∧ w.cell? ⟨lb, off + i * 4 + 3, none⟩ = some (.int .u32 bb)

theorem step_of_fits {w : World} {B n : Nat} {c : Array Value} (h : Fits Try.prog w B n 24 c.toList) : ∃ (kd fr : Int) (va bb : Nat), c = #[.int .i64 kd, .int .u32 va, .int .i64 fr, .int .u32 bb] ∧ (-9223372036854775808 ≤ kd ∧ kd ≤ 9223372036854775807) ∧ (-9223372036854775808 ≤ fr ∧ fr ≤ 9223372036854775807) ∧ va < 4294967296 ∧ bb < 4294967296 := by
  obtain ⟨m2, hl, hfs⟩ := h.struct Try.underlying24
  have cs : Try.prog.cellsOf 24 = 4 := by kernel_rfl
  rw [cs] at hl
  obtain ⟨l⟩ := c
  match l, hl with
  | [d0, d1, d2, d3], _ =>
    have q1 : Try.prog.cellsOf 3 = 1 := by kernel_rfl
    have q2 : Try.prog.cellsOf 22 = 1 := by kernel_rfl
    obtain ⟨z0, e0, g0⟩ := (hfs _ (.head _)).int Try.underlying3
    obtain ⟨z1, e1, g1⟩ := (hfs _ (.tail _ (.head _))).int Try.underlying22
    obtain ⟨z2, e2, g2⟩ := (hfs _ (.tail _ (.tail _ (.head _)))).int Try.underlying3
    obtain ⟨z3, e3, g3⟩ := (hfs _ (.tail _ (.tail _ (.tail _ (.head _))))).int Try.underlying22
    simp [q1, q2] at e0 e1 e2 e3
    subst e0 e1 e2 e3
    have h0 := wf_i64 g0
    have h1 := wf_u32 g1
    have h2 := wf_i64 g2
    have h3 := wf_u32 g3
    exact ⟨z0, z2, z1.toNat, z3.toNat, by rw [Int.toNat_of_nonneg h1.1, Int.toNat_of_nonneg h3.1], h0, h2, by omega, by omega⟩

theorem steps_of_fits {w : World} {B n : Nat} {s : Option Addr} {len cap : Nat} (h : Fits Try.prog w B n 25 [.slice s len cap]) : StepsIn w s len := by
  rcases h.rows Try.underlying25 4 (by kernel_rfl) (by omega) with h | ⟨lb, off, mm, rfl, _, h1, h2, _, hlt, h3⟩
  · exact .inl h
  · refine .inr ⟨lb, off, rfl, by unfold maxLen at h2; omega, fun i hi => ?_⟩
    obtain ⟨ds, hd, hc, hf⟩ := h3 i hi
    obtain ⟨kd, fr, va, bb, he, b0, b1, b2, b3⟩ := step_of_fits (c := ds.toArray) hf
    have he : ds = [.int .i64 kd, .int .u32 va, .int .i64 fr, .int .u32 bb] := by simpa using congrArg Array.toList he
    subst he
    exact ⟨kd, fr, va, bb, b0, b1, b2, b3, by simpa using hc 0 (by omega), by simpa using hc 1 (by omega), by simpa using hc 2 (by omega), by simpa using hc 3 (by omega)⟩

/-- A page leads where it led, whatever is put for another. -/
theorem leads_put {T T1 : Nat → Tab} {va o e : Nat} (hT : Lent T T1 (o / 1024)) (hn : va / 1024 < 32) (ht : (T (va / 1024)).th = true) (hne : o / 64 ≠ va / 64) :
    (setTab T1 (o / 1024) (setEn (T1 (o / 1024)) (o / 64 % 16) e) (va / 1024)).th = true ∧ leads (setTab T1 (o / 1024) (setEn (T1 (o / 1024)) (o / 64 % 16) e)) va = leads T va := by
  have h1 : T1 (va / 1024) = T (va / 1024) := by
    rcases hT with ⟨_, rfl⟩ | ⟨h, f, rfl⟩
    · rfl
    · rw [setTab_ne (by rintro hh; rw [hh] at ht; rw [ht] at h; cases h)]
  unfold leads
  by_cases hh : va / 1024 = o / 1024
  · rw [hh] at h1 ht hn ⊢
    rw [setTab_same]
    have hk : va / 64 % 16 ≠ o / 64 % 16 := by omega
    have h2 : (setEn (T1 (o / 1024)) (o / 64 % 16) e).th = true := by rw [h1]; exact ht
    refine ⟨h2, ?_⟩
    rw [if_pos ⟨hn, h2⟩, if_pos ⟨hn, ht⟩]
    show (if va / 64 % 16 = o / 64 % 16 then e else (T1 (o / 1024)).en (va / 64 % 16)) = _
    rw [if_neg hk, h1]
  · rw [setTab_ne hh, h1]
    exact ⟨ht, rfl⟩

theorem and_14 (bb : Nat) (h : bb < 4294967296) : bits .and .u32 (bb : Int) 14 = ((bb % 16 / 2 * 2 : Nat) : Int) := by
  have e : bb &&& 14 = bb % 16 / 2 * 2 := by
    have h2 : ∀ m, m < 16 → m &&& 14 = m / 2 * 2 := by decide
    have h3 : bb &&& 15 = bb % 16 := Nat.and_two_pow_sub_one_eq_mod bb 4
    rw [← h2 _ (by omega), ← h3, Nat.and_assoc]
    rfl
  have := and_u32 bb 14 h (by omega)
  rw [e] at this
  exact this

set_option maxHeartbeats 8000000 in
theorem ShadowLast_walk (c0 : Array Value) (n0 : Nat) (s1 : Option Addr) (len1 cap1 n1 : Nat) (w : World) (w0 : Fits Try.prog w maxLen n0 24 c0.toList) (w1 : Fits Try.prog w maxLen n1 25 [.slice s1 len1 cap1]) :
    Calls Try.prog 3 #[.agg c0, .slice s1 len1 cap1] w fun e w' => e = .returned (.bool true) ∧ Below w.heap.size w w' := by
  obtain ⟨kd, fr0, va0, bb, rfl, b0, b1, b2, b3⟩ := step_of_fits w0
  have HM := Lib.hid (steps_of_fits w1)
  clear w0 w1
  obtain ⟨va, hva⟩ : ∃ v, v = nearF va0 % 32768 := ⟨_, rfl⟩
  have hnl := nearF_lt b2
  have v1 : ((nearF va0 : Nat) : Int) % 32768 = (va : Int) := by omega
  have v2 : (((nearF va0 : Nat) : Int)).tmod 32768 = (va : Int) := by rw [Int.tmod_eq_emod_of_nonneg (by omega)]; exact v1
  have hva32 : va < 32768 := by omega
  obtain ⟨fr, hfr⟩ : ∃ f : Nat, (IntKind.u64.wrap fr0).tmod 40 = (f : Int) ∧ f < 40 := by
    have h0 : 0 ≤ IntKind.u64.wrap fr0 := by rw [IntKind.wrap_u64]; omega
    rw [Int.tmod_eq_emod_of_nonneg h0]
    exact ⟨(IntKind.u64.wrap fr0 % 40).toNat, by omega, by omega⟩
  have f1 := hfr.1
  have f3 : IntKind.i64.wrap (fr : Int) = (fr : Int) := IntWalk.i64_in _ (by omega)
  have f4 : IntKind.u64.wrap fr0 % 40 = (fr : Int) := by rw [← f1, Int.tmod_eq_emod_of_nonneg (by rw [IntKind.wrap_u64]; omega)]
  have hf40 := hfr.2
  clear hfr hva
  obtain ⟨sz, hsz⟩ : ∃ sz, sz = w.heap.size := ⟨_, rfl⟩
  go_enter Try.func3, Try.ntmps3
  go_wp2_with fail
  rw [← hsz]
  generalize hy : World.alloc w _ = y0
  have H0 : Hid (Keep [] w y0 ∧ y0.heap[sz]? = some (.cells #[.int .i64 kd, .int .u32 va0, .int .i64 fr0, .int .u32 bb] 24 (0, 0)) ∧ w.heap.size = sz) := Lib.hid (by
    subst hy hsz
    exact ⟨(Keep.refl _ _).alloc _, heap_alloc_same w _, rfl⟩)
  clear hy hsz
  refine (smade_at 12 (by omega) _).mono ?_
  rintro e y1 ⟨r, fb, g, s, p, pm, rfl, hS, hk, hn⟩
  have H1 : Hid (SAt y1 s r fb g p pm 12 (fun _ => tab0) memL0 0 ∧ Keep [] y0 y1 ∧ (y0.heap.size ≤ g ∧ y0.heap.size ≤ s ∧ y0.heap.size ≤ p ∧ y0.heap.size ≤ pm) ∧ y1.heap[sz]? = some (.cells #[.int .i64 kd, .int .u32 va0, .int .i64 fr0, .int .u32 bb] 24 (0, 0)) ∧ sz < y0.heap.size) := Lib.hid ⟨hS, hk, by omega, hk.heap H0.out.2.1 (by simp), lt_of_heap H0.out.2.1⟩
  clear hS hk hn
  have c1 : y1.cell? ⟨sz, 1, none⟩ = some (.int .u32 va0) := cell_of H1.out.2.2.2.1 1 rfl
  have c2 : y1.cell? ⟨sz, 2, none⟩ = some (.int .i64 fr0) := cell_of H1.out.2.2.2.1 2 rfl
  have c3 : y1.cell? ⟨sz, 3, none⟩ = some (.int .u32 bb) := cell_of H1.out.2.2.2.1 3 rfl
  go_wp2_with fail
  refine wp_region_held_drew (S := fun x => x.cell? ⟨sz, 1, none⟩ = some (.int .u32 va0) ∧ x.cell? ⟨sz, 2, none⟩ = some (.int .i64 fr0)) (by kernel_rfl) ⟨c1, c2⟩ (fun hHeld => ?_)
  skip
  refine wpAnyH_take (i := 0) (oi := { dst := some 21, op := Op.fieldAddr 24 (Operand.tmp 2) 1, type := 0, pos := "law.go:150", after := #[], guard := none }) (v := ?_) rfl (by kernel_rfl) (by kernel_rfl) (by kernel_rfl) (fun _ _ _ h => h) (Or.inl ⟨by rfl, ?_⟩) (by assumption) ?_
  rotate_left
  focus (intro w hSw; (try dsimp only at hSw); go_simp <;> with_reducible rfl)
  try simp only [Act.put, List.setIfInBounds_toArray, List.set_cons_zero, List.set_cons_succ]
  refine wpAnyH_take (i := 1) (oi := { dst := some 22, op := Op.load 22 (Operand.tmp 21), type := 22, pos := "law.go:150", after := #[{ on := 0, ground := Ground.data }], guard := none }) (v := ?_) rfl (by kernel_rfl) (by kernel_rfl) (by kernel_rfl) (fun _ _ _ h => h) (Or.inl ⟨by rfl, ?_⟩) (by assumption) ?_
  rotate_left
  focus (intro w hSw; (try dsimp only at hSw); go_simp <;> with_reducible rfl)
  try simp only [Act.put, List.setIfInBounds_toArray, List.set_cons_zero, List.set_cons_succ]
  refine wpAnyH_take (i := 4) (oi := { dst := some 25, op := Op.fieldAddr 24 (Operand.tmp 2) 2, type := 0, pos := "law.go:150", after := #[{ on := 9, ground := Ground.gcOnly Departure.lateStores }], guard := none }) (v := ?_) rfl (by kernel_rfl) (by kernel_rfl) (by kernel_rfl) (fun _ _ _ h => h) (Or.inl ⟨by rfl, ?_⟩) (by assumption) ?_
  rotate_left
  focus (intro w hSw; (try dsimp only at hSw); go_simp <;> with_reducible rfl)
  try simp only [Act.put, List.setIfInBounds_toArray, List.set_cons_zero, List.set_cons_succ]
  refine wpAnyH_take (i := 5) (oi := { dst := some 26, op := Op.load 3 (Operand.tmp 25), type := 3, pos := "law.go:150", after := #[{ on := 4, ground := Ground.data }, { on := 9, ground := Ground.gcOnly Departure.lateStores }], guard := none }) (v := ?_) rfl (by kernel_rfl) (by kernel_rfl) (by kernel_rfl) (fun _ _ _ h => h) (Or.inl ⟨by rfl, ?_⟩) (by assumption) ?_
  rotate_left
  focus (intro w hSw; (try dsimp only at hSw); go_simp <;> with_reducible rfl)
  try simp only [Act.put, List.setIfInBounds_toArray, List.set_cons_zero, List.set_cons_succ]
  refine wpAnyH_take (i := 6) (oi := { dst := some 27, op := Op.convert 3 32 (Operand.tmp 26), type := 32, pos := "law.go:150", after := #[{ on := 5, ground := Ground.data }, { on := 9, ground := Ground.gcOnly Departure.lateStores }], guard := none }) (v := ?_) rfl (by kernel_rfl) (by kernel_rfl) (by kernel_rfl) (fun _ _ _ h => h) (Or.inl ⟨by rfl, ?_⟩) (by assumption) ?_
  rotate_left
  focus (intro w hSw; (try dsimp only at hSw); go_simp <;> with_reducible rfl)
  try simp only [Act.put, List.setIfInBounds_toArray, List.set_cons_zero, List.set_cons_succ]
  refine wpAnyH_take (i := 7) (oi := { dst := some 28, op := Op.binOp BinOp.rem 32 (Operand.tmp 27) (Operand.const (Value.int IntKind.u64 40)) 32, type := 32, pos := "law.go:150", after := #[{ on := 6, ground := Ground.data }, { on := 9, ground := Ground.gcOnly Departure.lateStores }], guard := none }) (v := ?_) rfl (by kernel_rfl) (by kernel_rfl) (by kernel_rfl) (fun _ _ _ h => h) (Or.inl ⟨by rfl, ?_⟩) (by assumption) ?_
  rotate_left
  focus (intro w hSw; (try dsimp only at hSw); go_simp <;> with_reducible rfl)
  try simp only [Act.put, List.setIfInBounds_toArray, List.set_cons_zero, List.set_cons_succ]
  refine wpAnyH_take (i := 8) (oi := { dst := some 29, op := Op.convert 32 3 (Operand.tmp 28), type := 3, pos := "law.go:150", after := #[{ on := 7, ground := Ground.data }, { on := 9, ground := Ground.gcOnly Departure.lateStores }], guard := none }) (v := ?_) rfl (by kernel_rfl) (by kernel_rfl) (by kernel_rfl) (fun _ _ _ h => h) (Or.inl ⟨by rfl, ?_⟩) (by assumption) ?_
  rotate_left
  focus (intro w hSw; (try dsimp only at hSw); go_simp <;> with_reducible rfl)
  try simp only [Act.put, List.setIfInBounds_toArray, List.set_cons_zero, List.set_cons_succ]
  refine wpAnyH_ready (rs := [2]) (by kernel_rfl) (by simp) ?_
  refine AllReadyH.cons (o := { dst := some 23, op := Op.call { callee := Callee.value (Operand.func 12), args := #[Operand.tmp 22], argTypes := #[22] }, type := 22, pos := "law.go:150", after := #[{ on := 1, ground := Ground.data }], guard := none }) rfl (fun K hK => ?_) AllReadyH.nil
  go_simp
  refine (near_at va0 b2 _).mono ?_
  rintro e y2 ⟨rfl, rfl⟩
  go_wp2_with fail
  refine shut_grow (fun x => x.cell? ⟨sz, 1, none⟩ = some (.int .u32 va0) ∧ x.cell? ⟨sz, 2, none⟩ = some (.int .i64 fr0)) hK (fun _ h => h) hHeld (fun hHeld => ?_)
  clear hK K
  refine wpAnyH_take (i := 3) (oi := { dst := some 24, op := Op.binOp BinOp.rem 22 (Operand.tmp 23) (Operand.const (Value.int IntKind.u32 32768)) 22, type := 22, pos := "law.go:150", after := #[{ on := 2, ground := Ground.data }], guard := none }) (v := ?_) rfl (by kernel_rfl) (by kernel_rfl) (by kernel_rfl) (fun _ _ _ h => h) (Or.inl ⟨by rfl, ?_⟩) (by assumption) ?_
  rotate_left
  focus (intro w hSw; (try dsimp only at hSw); go_simp <;> with_reducible rfl)
  try simp only [Act.put, List.setIfInBounds_toArray, List.set_cons_zero, List.set_cons_succ]
  refine wpAnyH_take (i := 9) (oi := { dst := some 8, op := Op.assign (Operand.tmp 24), type := 22, pos := "law.go:150", after := #[{ on := 3, ground := Ground.data }, { on := 2, ground := Ground.chain }, { on := 0, ground := Ground.phase }, { on := 1, ground := Ground.phase }, { on := 2, ground := Ground.phase }, { on := 3, ground := Ground.phase }, { on := 4, ground := Ground.textOnly Departure.lateStores }, { on := 5, ground := Ground.textOnly Departure.lateStores }, { on := 6, ground := Ground.textOnly Departure.lateStores }, { on := 7, ground := Ground.textOnly Departure.lateStores }, { on := 8, ground := Ground.textOnly Departure.lateStores }], guard := none }) (v := ?_) rfl (by kernel_rfl) (by kernel_rfl) (by kernel_rfl) (fun _ _ _ h => h) (Or.inl ⟨by rfl, ?_⟩) (by assumption) ?_
  rotate_left
  focus (intro w hSw; (try dsimp only at hSw); go_simp <;> with_reducible rfl)
  try simp only [Act.put, List.setIfInBounds_toArray, List.set_cons_zero, List.set_cons_succ]
  refine wpAnyH_take (i := 10) (oi := { dst := some 9, op := Op.assign (Operand.tmp 29), type := 3, pos := "law.go:150", after := #[{ on := 8, ground := Ground.data }, { on := 9, ground := Ground.chain }, { on := 0, ground := Ground.phase }, { on := 1, ground := Ground.phase }, { on := 2, ground := Ground.phase }, { on := 3, ground := Ground.phase }, { on := 4, ground := Ground.phase }, { on := 5, ground := Ground.phase }, { on := 6, ground := Ground.phase }, { on := 7, ground := Ground.phase }, { on := 8, ground := Ground.phase }, { on := 9, ground := Ground.phase }], guard := none }) (v := ?_) rfl (by kernel_rfl) (by kernel_rfl) (by kernel_rfl) (fun _ _ _ h => h) (Or.inl ⟨by rfl, ?_⟩) (by assumption) ?_
  rotate_left
  focus (intro w hSw; (try dsimp only at hSw); go_simp <;> with_reducible rfl)
  try simp only [Act.put, List.setIfInBounds_toArray, List.set_cons_zero, List.set_cons_succ]
  refine wpAnyH_done (by kernel_rfl) ?_ _
  clear hHeld c1 c2 v1 v2 f1 f3 f4
  generalize hy2 : World.drew y1 = y2
  have H2 : Hid (SAt y2 s r fb g p pm 12 (fun _ => tab0) memL0 0 ∧ Keep [] y1 y2 ∧ y2.cell? ⟨sz, 3, none⟩ = some (.int .u32 bb)) := Lib.hid (by
    have hk : Keep [] y1 y2 := by subst hy2; exact (Keep.refl [] y1).drew
    exact ⟨H1.out.1.keep0 hk, hk, hk.cell c3 (by simp)⟩)
  have c4 := H2.out.2.2
  clear hy2 c3
  go_wp2_with fail
  refine (sput_at H2.out.1 (by omega) va fr bb (by omega) (by omega) (by omega) b3).mono ?_
  rintro e y3 ⟨hk, hP⟩
  have hP2 : e = .returned (.bool true) ∧ ∃ T L, SAt y3 s r fb g p pm 12 T L 1 ∧ (T (va / 1024)).th = true ∧ leads T va = entryOf fr bb := by
    rcases hP with ⟨h, _⟩ | ⟨_, _, _, rfl, T1, L', hl, h⟩ | ⟨_, _, _, _, hf, _⟩
    · omega
    · refine ⟨rfl, _, L', h, ?_, ?_⟩
      · rw [setTab_same]; exact hl.th
      · have := hl.th
        unfold leads
        rw [setTab_same, if_pos ⟨by omega, this⟩]
        show (if va / 64 % 16 = va / 64 % 16 then entryOf ((fr : Int).toNat) bb else _) = _
        rw [if_pos rfl, Int.toNat_natCast]
    · exact absurd hf (not_full (by decide))
  obtain ⟨rfl, T, L, hS, hth, hle⟩ := hP2
  have H3 : Hid (SAt y3 s r fb g p pm 12 T L 1 ∧ (T (va / 1024)).th = true ∧ leads T va = entryOf fr bb ∧ Keep [] w y3 ∧ y3.cell? ⟨sz, 3, none⟩ = some (.int .u32 bb)) := Lib.hid (by
    have h1 := H1.out.2.2.1
    have h2 := H0.out.2.2
    have h3 := H0.out.1.size
    have h4 := H1.out.2.2.2.2
    exact ⟨hS, hth, hle, (H0.out.1.trans (H1.out.2.1.trans H2.out.2.1)).then hk (by simp; omega), hk.cell H2.out.2.2 (by simp; omega)⟩)
  clear hP hS hth hle hk c4
  have hvi : (va : Int) < 32768 := by omega
  go_wp2_with fail
  go_loopw [10, 11] (fun kv ov wr => ∃ (k : Nat) (T : Nat → Tab) (L : List Int) (o : Value), kv = .int .i64 k ∧ ov = o ∧ k ≤ 40 ∧ k ≤ len1 ∧ Hid (SAt wr s r fb g p pm 12 T L (k + 1) ∧ (T (va / 1024)).th = true ∧ leads T va = entryOf fr bb ∧ Keep [] w wr ∧ wr.cell? ⟨sz, 3, none⟩ = some (.int .u32 bb))) (fun kv _ _ => 40 - (intOf kv).toNat)
  case atStart => exact ⟨0, T, L, _, rfl, rfl, by omega, by omega, H3⟩
  case round =>
    clear H3
    obtain ⟨k, T', L', o, rfl, rfl, hk1, hk2, HR⟩ := hrel
    rename World => wo
    by_cases hlt : k < len1 ∧ k < 40
    · obtain ⟨hl1, hl2⟩ := hlt
      obtain ⟨lb, off, rfl, hl64, kd', fr', va', bb', g1, g2, g3, g4, d0, d1, d2, d3⟩ : ∃ lb off, s1 = some ⟨lb, off, none⟩ ∧ len1 ≤ 9223372036854775807 ∧ ∃ (kd fr : Int) (va bb : Nat), (-9223372036854775808 ≤ kd ∧ kd ≤ 9223372036854775807) ∧ (-9223372036854775808 ≤ fr ∧ fr ≤ 9223372036854775807) ∧ va < 4294967296 ∧ bb < 4294967296 ∧
    wo.cell? ⟨lb, off + k * 4, none⟩ = some (.int .i64 kd) ∧ wo.cell? ⟨lb, off + k * 4 + 1, none⟩ = some (.int .u32 va) ∧ wo.cell? ⟨lb, off + k * 4 + 2, none⟩ = some (.int .i64 fr) ∧ wo.cell? ⟨lb, off + k * 4 + 3, none⟩ = some (.int .u32 bb) := by
        rcases HM.out with h | ⟨lb, off, h1, h2, h3⟩
        · omega
        · obtain ⟨kd, fr, va, bb, q0, q1, q2, q3, e0, e1, e2, e3⟩ := h3 k hl1
          have hk := HR.out.2.2.2.1
          exact ⟨lb, off, h1, h2, kd, fr, va, bb, q0, q1, q2, q3, hk.cell e0 (by simp), hk.cell e1 (by simp), hk.cell e2 (by simp), hk.cell e3 (by simp)⟩
      have hk0 : (0 : Int) ≤ (k : Int) := by omega
      have hk3 : (k : Int) < (len1 : Int) := by omega
      have hk4 : (k : Int) < 40 := by omega
      have hol := nearF_lt g3
      have CN := Lib.hid (near_at va' g3 wo)
      have HS : Hid (SAt wo s r fb g p pm 12 T' L' (k + 1 + 1) ∧ (T' (va / 1024)).th = true ∧ leads T' va = entryOf fr bb ∧ Keep [] w wo ∧ wo.cell? ⟨sz, 3, none⟩ = some (.int .u32 bb)) := Lib.hid ⟨HR.out.1.later, HR.out.2⟩
      have HNE : Hid (w.heap.size ≤ s ∧ w.heap.size ≤ g ∧ w.heap.size ≤ p ∧ w.heap.size ≤ pm ∧ sz ≠ s ∧ sz ≠ g ∧ sz ≠ p ∧ sz ≠ pm) := Lib.hid (by
        have h1 := H1.out.2.2.1
        have h2 := H0.out.2.2
        have h3 := H0.out.1.size
        have h4 := H1.out.2.2.2.2
        omega)
      generalize hno : nearF va' = no at hol CN
      have HNO := Lib.hid hno
      clear hno
      by_cases heq : no / 64 = va / 64
      · have e1 : (no : Int) / 64 = (va : Int) / 64 := by omega
        clear heq
        go_wp2_with fail
        refine CN.out.mono ?_
        rintro e z ⟨rfl, rfl⟩
        go_wp2_with fail
        go_roundw
        case rel => exact ⟨k + 1, T', L', _, by go_num, rfl, by omega, by omega, HS⟩
        case measure => simp [intOf]; omega
      · have e1 : ((no : Int) / 64 == (va : Int) / 64) = false := by rw [beq_eq_false_iff_ne]; omega
        by_cases hk2' : kd' = 2
        · subst hk2'
          clear heq
          go_wp2_with fail
          refine CN.out.mono ?_
          rintro e z ⟨rfl, rfl⟩
          go_wp2_with fail
          go_roundw
          case rel => exact ⟨k + 1, T', L', _, by go_num, rfl, by omega, by omega, HS⟩
          case measure => simp [intOf]; omega
        · have e2 : (kd' == 2) = false := by rw [beq_eq_false_iff_ne]; exact hk2'
          have HEQ := Lib.hid heq
          by_cases hk1' : kd' = 1
          · subst hk1'
            clear heq hk2'
            go_wp2_with fail
            refine CN.out.mono ?_
            rintro e z ⟨rfl, rfl⟩
            go_wp2_with fail
            refine (sdrop_at HR.out.1 no hol).mono ?_
            rintro e z ⟨⟨v, rfl⟩, hk, hD⟩
            have hD2 : ∃ T L, Hid (SAt z s r fb g p pm 12 T L (k + 1 + 1) ∧ (T (va / 1024)).th = true ∧ leads T va = entryOf fr bb ∧ Keep [] w z ∧ z.cell? ⟨sz, 3, none⟩ = some (.int .u32 bb)) := by
              have hne := HNE.out
              have hkw : Keep [] w z := HR.out.2.2.2.1.then hk (by simp; omega)
              have hc3 := hk.cell HR.out.2.2.2.2 (by simp; omega)
              rcases hD with ⟨_, hS⟩ | ⟨h1, h2, L2, hS⟩
              · exact ⟨_, _, Lib.hid ⟨hS.later, HR.out.2.1, HR.out.2.2.1, hkw, hc3⟩⟩
              · have hl := leads_put (T := T') (T1 := T') (va := va) (o := no) (e := 0) (.inl ⟨h2, rfl⟩) (by omega) HR.out.2.1 HEQ.out
                exact ⟨_, _, Lib.hid ⟨hS.later, hl.1, hl.2.trans HR.out.2.2.1, hkw, hc3⟩⟩
            obtain ⟨T2, L2, HD⟩ := hD2
            clear hk hD
            go_wp2_with fail
            go_roundw
            case rel => exact ⟨k + 1, T2, L2, _, by go_num, rfl, by omega, by omega, HD⟩
            case measure => simp [intOf]; omega
          · have e3 : (kd' == 1) = false := by rw [beq_eq_false_iff_ne]; exact hk1'
            clear heq hk2' hk1'
            go_wp2_with fail
            refine CN.out.mono ?_
            rintro e z ⟨rfl, rfl⟩
            go_wp2_with fail
            refine wp_region_held_drew (S := fun x => x.cell? ⟨lb, off + k * 4 + 2, none⟩ = some (.int .i64 fr') ∧ x.cell? ⟨lb, off + k * 4 + 3, none⟩ = some (.int .u32 bb')) (by kernel_rfl) ⟨d2, d3⟩ (fun hHeld => ?_)
            skip
            refine wpAnyH_take (i := 0) (oi := { dst := some 75, op := Op.move (Operand.tmp 6), type := 27, pos := "law.go:162", after := #[], guard := none }) (v := ?_) rfl (by kernel_rfl) (by kernel_rfl) (by kernel_rfl) (fun _ _ _ h => h) (Or.inl ⟨by rfl, ?_⟩) (by assumption) ?_
            rotate_left
            focus (intro w hSw; (try dsimp only at hSw); go_simp <;> with_reducible rfl)
            try simp only [Act.put, List.setIfInBounds_toArray, List.set_cons_zero, List.set_cons_succ]
            refine wpAnyH_take (i := 1) (oi := { dst := some 76, op := Op.move (Operand.tmp 11), type := 22, pos := "law.go:162", after := #[], guard := none }) (v := ?_) rfl (by kernel_rfl) (by kernel_rfl) (by kernel_rfl) (fun _ _ _ h => h) (Or.inl ⟨by rfl, ?_⟩) (by assumption) ?_
            rotate_left
            focus (intro w hSw; (try dsimp only at hSw); go_simp <;> with_reducible rfl)
            try simp only [Act.put, List.setIfInBounds_toArray, List.set_cons_zero, List.set_cons_succ]
            refine wpAnyH_take (i := 2) (oi := { dst := some 77, op := Op.move (Operand.tmp 1), type := 25, pos := "law.go:162", after := #[], guard := none }) (v := ?_) rfl (by kernel_rfl) (by kernel_rfl) (by kernel_rfl) (fun _ _ _ h => h) (Or.inl ⟨by rfl, ?_⟩) (by assumption) ?_
            rotate_left
            focus (intro w hSw; (try dsimp only at hSw); go_simp <;> with_reducible rfl)
            try simp only [Act.put, List.setIfInBounds_toArray, List.set_cons_zero, List.set_cons_succ]
            refine wpAnyH_take (i := 3) (oi := { dst := some 78, op := Op.move (Operand.tmp 10), type := 3, pos := "law.go:162", after := #[], guard := none }) (v := ?_) rfl (by kernel_rfl) (by kernel_rfl) (by kernel_rfl) (fun _ _ _ h => h) (Or.inl ⟨by rfl, ?_⟩) (by assumption) ?_
            rotate_left
            focus (intro w hSw; (try dsimp only at hSw); go_simp <;> with_reducible rfl)
            try simp only [Act.put, List.setIfInBounds_toArray, List.set_cons_zero, List.set_cons_succ]
            refine wpAnyH_take (i := 4) (oi := { dst := some 79, op := Op.indexAddr 25 (Operand.tmp 77) (Operand.tmp 78), type := 0, pos := "law.go:162", after := #[{ on := 2, ground := Ground.data }, { on := 3, ground := Ground.data }], guard := none }) (v := ?_) rfl (by kernel_rfl) (by kernel_rfl) (by kernel_rfl) (fun _ _ _ h => h) (Or.inl ⟨by rfl, ?_⟩) (by assumption) ?_
            rotate_left
            focus (intro w hSw; (try dsimp only at hSw); go_simp <;> with_reducible rfl)
            try simp only [Act.put, List.setIfInBounds_toArray, List.set_cons_zero, List.set_cons_succ]
            refine wpAnyH_take (i := 5) (oi := { dst := some 80, op := Op.fieldAddr 24 (Operand.tmp 79) 2, type := 0, pos := "law.go:162", after := #[{ on := 4, ground := Ground.data }], guard := none }) (v := ?_) rfl (by kernel_rfl) (by kernel_rfl) (by kernel_rfl) (fun _ _ _ h => h) (Or.inl ⟨by rfl, ?_⟩) (by assumption) ?_
            rotate_left
            focus (intro w hSw; (try dsimp only at hSw); go_simp <;> with_reducible rfl)
            try simp only [Act.put, List.setIfInBounds_toArray, List.set_cons_zero, List.set_cons_succ]
            refine wpAnyH_take (i := 6) (oi := { dst := some 81, op := Op.load 3 (Operand.tmp 80), type := 3, pos := "law.go:162", after := #[{ on := 5, ground := Ground.data }], guard := none }) (v := ?_) rfl (by kernel_rfl) (by kernel_rfl) (by kernel_rfl) (fun _ _ _ h => h) (Or.inl ⟨by rfl, ?_⟩) (by assumption) ?_
            rotate_left
            focus (intro w hSw; (try dsimp only at hSw); go_simp <;> with_reducible rfl)
            try simp only [Act.put, List.setIfInBounds_toArray, List.set_cons_zero, List.set_cons_succ]
            refine wpAnyH_take (i := 7) (oi := { dst := some 82, op := Op.move (Operand.tmp 1), type := 25, pos := "law.go:162", after := #[], guard := none }) (v := ?_) rfl (by kernel_rfl) (by kernel_rfl) (by kernel_rfl) (fun _ _ _ h => h) (Or.inl ⟨by rfl, ?_⟩) (by assumption) ?_
            rotate_left
            focus (intro w hSw; (try dsimp only at hSw); go_simp <;> with_reducible rfl)
            try simp only [Act.put, List.setIfInBounds_toArray, List.set_cons_zero, List.set_cons_succ]
            refine wpAnyH_take (i := 8) (oi := { dst := some 83, op := Op.move (Operand.tmp 10), type := 3, pos := "law.go:162", after := #[], guard := none }) (v := ?_) rfl (by kernel_rfl) (by kernel_rfl) (by kernel_rfl) (fun _ _ _ h => h) (Or.inl ⟨by rfl, ?_⟩) (by assumption) ?_
            rotate_left
            focus (intro w hSw; (try dsimp only at hSw); go_simp <;> with_reducible rfl)
            try simp only [Act.put, List.setIfInBounds_toArray, List.set_cons_zero, List.set_cons_succ]
            refine wpAnyH_take (i := 9) (oi := { dst := some 84, op := Op.indexAddr 25 (Operand.tmp 82) (Operand.tmp 83), type := 0, pos := "law.go:162", after := #[{ on := 7, ground := Ground.data }, { on := 8, ground := Ground.data }], guard := none }) (v := ?_) rfl (by kernel_rfl) (by kernel_rfl) (by kernel_rfl) (fun _ _ _ h => h) (Or.inl ⟨by rfl, ?_⟩) (by assumption) ?_
            rotate_left
            focus (intro w hSw; (try dsimp only at hSw); go_simp <;> with_reducible rfl)
            try simp only [Act.put, List.setIfInBounds_toArray, List.set_cons_zero, List.set_cons_succ]
            refine wpAnyH_take (i := 10) (oi := { dst := some 85, op := Op.fieldAddr 24 (Operand.tmp 84) 3, type := 0, pos := "law.go:162", after := #[{ on := 9, ground := Ground.data }], guard := none }) (v := ?_) rfl (by kernel_rfl) (by kernel_rfl) (by kernel_rfl) (fun _ _ _ h => h) (Or.inl ⟨by rfl, ?_⟩) (by assumption) ?_
            rotate_left
            focus (intro w hSw; (try dsimp only at hSw); go_simp <;> with_reducible rfl)
            try simp only [Act.put, List.setIfInBounds_toArray, List.set_cons_zero, List.set_cons_succ]
            refine wpAnyH_take (i := 11) (oi := { dst := some 86, op := Op.load 22 (Operand.tmp 85), type := 22, pos := "law.go:162", after := #[{ on := 10, ground := Ground.data }], guard := none }) (v := ?_) rfl (by kernel_rfl) (by kernel_rfl) (by kernel_rfl) (fun _ _ _ h => h) (Or.inl ⟨by rfl, ?_⟩) (by assumption) ?_
            rotate_left
            focus (intro w hSw; (try dsimp only at hSw); go_simp <;> with_reducible rfl)
            try simp only [Act.put, List.setIfInBounds_toArray, List.set_cons_zero, List.set_cons_succ]
            refine wpAnyH_ready (rs := [12]) (by kernel_rfl) (by simp) ?_
            refine AllReadyH.cons (o := { dst := some 87, op := Op.call { callee := Callee.value (Operand.func 13), args := #[Operand.tmp 75, Operand.tmp 76, Operand.tmp 81, Operand.tmp 86], argTypes := #[27, 22, 3, 22] }, type := 4, pos := "law.go:162", after := #[{ on := 0, ground := Ground.data }, { on := 1, ground := Ground.data }, { on := 6, ground := Ground.data }, { on := 11, ground := Ground.data }], guard := none }) rfl (fun K hK => ?_) AllReadyH.nil
            go_simp
            refine (sput_at (HR.out.1.keep0 (Keep.refl [] wo).drew) (by omega) no fr' bb' hol g2.1 g2.2 g4).mono ?_
            rintro e z ⟨hk, hP⟩
            have hkz : Keep [s, g, p, pm] wo z := (Keep.refl [s, g, p, pm] wo).drew.trans hk
            have hlbw : lb < w.heap.size := by
              rcases HM.out with h | ⟨lb', off', h1, h2, h3⟩
              · omega
              · cases h1
                obtain ⟨_, _, _, _, _, _, _, _, q3, _⟩ := h3 k hl1
                have := World.block_lt_of_cell? w _ q3
                simpa using this
            have hne := HNE.out
            have hP2 : ∃ q, e = .returned (.bool q) ∧ ∃ T L, Hid (SAt z s r fb g p pm 12 T L (k + 1 + 1) ∧ (T (va / 1024)).th = true ∧ leads T va = entryOf fr bb ∧ Keep [] w z ∧ z.cell? ⟨sz, 3, none⟩ = some (.int .u32 bb)) := by
              have hkw : Keep [] w z := HR.out.2.2.2.1.then hkz (by simp; omega)
              have hc3 := hkz.cell HR.out.2.2.2.2 (by simp; omega)
              rcases hP with ⟨_, rfl, hS⟩ | ⟨h1, _, _, rfl, T1, L1, hl, hS⟩ | ⟨_, _, _, _, _, rfl, hS⟩
              · exact ⟨_, rfl, _, _, Lib.hid ⟨hS, HR.out.2.1, HR.out.2.2.1, hkw, hc3⟩⟩
              · have hl2 := leads_put (T := T') (T1 := T1) (va := va) (o := no) (e := entryOf fr'.toNat bb') hl (by omega) HR.out.2.1 HEQ.out
                exact ⟨_, rfl, _, _, Lib.hid ⟨hS, hl2.1, hl2.2.trans HR.out.2.2.1, hkw, hc3⟩⟩
              · exact ⟨_, rfl, _, _, Lib.hid ⟨hS, HR.out.2.1, HR.out.2.2.1, hkw, hc3⟩⟩
            obtain ⟨q, rfl, T2, L2, HD⟩ := hP2
            have x2 := hk.cell hHeld.1 (by simp; omega)
            have x3 := hk.cell hHeld.2 (by simp; omega)
            clear hk hP hkz hne
            go_wp2_with fail
            refine shut_grow (fun x => x = z) hK (fun _ h => by rw [h]; exact ⟨x2, x3⟩) rfl (fun hHeld => ?_)
            clear hK K
            refine wpAnyH_done (by kernel_rfl) ?_ _
            clear hHeld
            go_wp2_with fail
            go_roundw
            case rel => exact ⟨k + 1, T2, L2, _, by go_num, rfl, by omega, by omega, HD⟩
            case measure => simp [intOf]; omega
    · have hex : ¬ ((k : Int) < (len1 : Int)) ∨ (k : Int) < (len1 : Int) ∧ ¬ ((k : Int) < 40) := by omega
      have hL : Hid (∃ e d t, lookF (rdOf 40 L') 40 512 32 va = some (bb % 16 / 2 * 2 + 1, 64 * fr + va % 64, e, d, t, fr)) := Lib.hid (by
        rcases look_sh HR.out.1.inv va with ⟨h0, _⟩ | ⟨f, b, h1, h2, h3, h4, e, d, t, h5⟩
        · rw [HR.out.2.2.1] at h0
          unfold entryOf at h0
          omega
        · rw [HR.out.2.2.1] at h4
          unfold entryOf at h4
          obtain rfl : f = fr := by omega
          obtain rfl : b = bb % 16 / 2 * 2 + 1 := by omega
          exact ⟨e, d, t, h5⟩)
      have a14 := and_14 bb b3
      obtain ⟨bz, hbz⟩ : ∃ z, z = bb % 16 / 2 * 2 := ⟨_, rfl⟩
      rw [← hbz] at a14 hL
      have o14 : bits .or .u32 (bz : Int) 1 = ((bz + 1 : Nat) : Int) := by
        have h2 : ∀ m, m < 8 → (m * 2) ||| 1 = m * 2 + 1 := by decide
        have := or_u32 bz 1 (by omega) (by omega)
        rw [hbz, h2 _ (by omega), ← hbz] at this
        exact this
      have q0 := HR.out.1.sh.heads
      have cbb := HR.out.2.2.2.2
      clear hlt hk1 hk2 hbz
      rcases hex with h1 | ⟨h1, h1'⟩
      all_goals
        go_wp2_with fail
        refine (sroot_at (dir := 8) q0.1 q0.2.2.1 (by omega)).mono ?_
        rintro e z1 ⟨rfl, rfl⟩
        go_wp2_with fail
        have hlk := look_at HR.out.1.mem 512 32 va (by omega) (by omega) (by omega)
        obtain ⟨e', d, t, hle⟩ := hL.out
        rw [hle] at hlk
        clear hle
        refine hlk.mono ?_
        rintro e z2 ⟨rfl, hk2⟩
        have HK2 := Lib.hid (HR.out.2.2.2.1.trans hk2)
        have cb2 := hk2.cell cbb (by simp)
        have cb3 : ∀ o, (z2.alloc o).cell? ⟨sz, 3, none⟩ = some (.int .u32 bb) := fun o => ((Keep.refl [] z2).alloc o).cell cb2 (by simp)
        clear hk2 hlk cbb cb2
        unfold wayV
        go_wp2_with fail
        refine (sworks_at _).mono ?_
        rintro e z3 ⟨rfl, hk3⟩
        have HF := Lib.hid (Keep.below ((HK2.out.alloc _).trans hk3) (Nat.le_refl _) (by simp))
        clear hk3
        go_wp2_with fail
        go_ret
        exact ⟨rfl, HF.out⟩
end Go.Proofs.Ytpinoejckagjbaa
