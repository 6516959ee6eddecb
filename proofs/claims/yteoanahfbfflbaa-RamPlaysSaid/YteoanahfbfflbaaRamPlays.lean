/- The law RamPlays, walked. -/
import Derived.Test.YteoanahfbfflbaaRamP7
import Derived.Test.YteoanahfbfflbaaFits2
namespace Go.Proofs.Yteoanahfbfflbaa
open Go.RowKit Go.Mum
set_option linter.unusedVariables false

/-- One step of a list that came in. -/
structure StepAt (w : World) (lb o : Nat) (kind : Int) (a W : Nat) (sb : Option Addr) (cb : Nat) (M : List Int) (N : Int) : Prop where
  c0 : w.cell? ⟨lb, o, none⟩ = some (.int .i64 kind)
  c1 : w.cell? ⟨lb, o + 1, none⟩ = some (.int .u32 a)
  c2 : w.cell? ⟨lb, o + 2, none⟩ = some (.int .u32 W)
  c3 : w.cell? ⟨lb, o + 3, none⟩ = some (.slice sb M.length cb)
  c4 : w.cell? ⟨lb, o + 4, none⟩ = some (.int .i64 N)
  ha : a < 4294967296
  hW : W < 4294967296
  hM : Row w sb cb M
  hm : M.length ≤ 9223372036854775807
  hN : -9223372036854775808 ≤ N ∧ N ≤ 9223372036854775807

theorem step_of_cells {w : World} {B m : Nat} {ds : List Value} (hd : ds.length = 5) (hf : Fits Try.prog w B m 48 ds) :
    ∃ (kind : Int) (a W : Nat) (sb : Option Addr) (cb : Nat) (M : List Int) (N : Int), ds = [.int .i64 kind, .int .u32 a, .int .u32 W, .slice sb M.length cb, .int .i64 N] ∧ a < 4294967296 ∧ W < 4294967296 ∧ Row w sb cb M ∧ M.length ≤ 9223372036854775807 ∧ -9223372036854775808 ≤ N ∧ N ≤ 9223372036854775807 := by
  obtain ⟨m2, hl, hfs⟩ := hf.struct Try.underlying48
  match ds, hd with
  | [d0, d1, d2, d3, d4], _ =>
    have q1 : Try.prog.cellsOf 3 = 1 := by kernel_rfl
    have q2 : Try.prog.cellsOf 26 = 1 := by kernel_rfl
    have q3 : Try.prog.cellsOf 30 = 1 := by kernel_rfl
    obtain ⟨z0, e0, _⟩ := (hfs _ (.head _)).int Try.underlying3
    obtain ⟨z1, e1, g1⟩ := (hfs _ (.tail _ (.head _))).int Try.underlying26
    obtain ⟨z2, e2, g2⟩ := (hfs _ (.tail _ (.tail _ (.head _)))).int Try.underlying26
    have f3 := hfs _ (.tail _ (.tail _ (.tail _ (.head _))))
    obtain ⟨z4, e4, g4⟩ := (hfs _ (.tail _ (.tail _ (.tail _ (.tail _ (.head _)))))).int Try.underlying3
    simp [q1, q2] at e0 e1 e2 e4
    simp [q3] at f3
    subst e0 e1 e2 e4
    obtain ⟨sb, len, cb, rfl⟩ : ∃ a l c, d3 = .slice a l c := by
      cases m2 with
      | zero => exact f3.elim
      | succ k =>
        unfold Fits at f3
        rw [Try.underlying30] at f3
        rcases f3 with h | ⟨a, l, c, h, _⟩
        · simp at h; exact ⟨_, _, _, h⟩
        · simp at h; exact ⟨_, _, _, h⟩
    obtain ⟨M, rfl, hR, _⟩ := row_of_fits f3
    have h1 := wf_u32 g1
    have h2 := wf_u32 g2
    have h4 := wf_i64 g4
    refine ⟨z0, z1.toNat, z2.toNat, sb, cb, M, z4, by rw [Int.toNat_of_nonneg h1.1, Int.toNat_of_nonneg h2.1], by omega, by omega, hR, ?_, h4.1, h4.2⟩
    have := hR.cap
    unfold maxLen at this
    omega

theorem steps_of_fits {w : World} {B n : Nat} {a : Option Addr} {len cap : Nat} (h : Fits Try.prog w B n 46 [.slice a len cap]) :
    len = 0 ∨ ∃ lb off, a = some ⟨lb, off, none⟩ ∧ 0 < len ∧ len ≤ cap ∧ cap ≤ maxLen ∧ ∀ i, i < len → ∃ kind a W sb cb M N, StepAt w lb (off + i * 5) kind a W sb cb M N := by
  rcases h.rows Try.underlying46 5 (by kernel_rfl) (by omega) with h | ⟨lb, off, m, rfl, h0, h1, h2, h3, h4, h5⟩
  · exact .inl h
  · refine .inr ⟨lb, off, rfl, h0, h1, h2, fun i hi => ?_⟩
    obtain ⟨ds, hd, hc, hf⟩ := h5 i hi
    obtain ⟨kind, a, W, sb, cb, M, N, rfl, ha, hW, hR, hm, hN⟩ := step_of_cells hd hf
    exact ⟨kind, a, W, sb, cb, M, N, by simpa using hc 0 (by omega), hc 1 (by omega), hc 2 (by omega), hc 3 (by omega), hc 4 (by omega), ha, hW, hR, hm, hN⟩
theorem StepAt.keep {l : List Nat} {w x : World} {lb o : Nat} {kind : Int} {a W : Nat} {sb : Option Addr} {cb : Nat} {M : List Int} {N : Int} (h : StepAt w lb o kind a W sb cb M N) (hk : Keep l w x) (h1 : lb ∉ l) (h2 : ∀ b, sb = some b → b.block ∉ l) : StepAt x lb o kind a W sb cb M N :=
  ⟨hk.cell h.c0 h1, hk.cell h.c1 h1, hk.cell h.c2 h1, hk.cell h.c3 h1, hk.cell h.c4 h1, h.ha, h.hW, h.hM.keep hk h2, h.hm, h.hN⟩

set_option maxRecDepth 100000 in
set_option maxHeartbeats 4000000 in
theorem RamPlays_walk (a0 : Int) (s1 : Option Addr) (len1 cap1 n1 : Nat) (w : World) (w0 : (Lit.int .i64 a0).wf = true) (w1 : Fits Try.prog w maxLen n1 46 [.slice s1 len1 cap1]) :
    Calls Try.prog 6 #[.int .i64 a0, .slice s1 len1 cap1] w fun e w' => e = .returned (.bool true) ∧ Below w.heap.size w w' := by
  have HS := Lib.hid (steps_of_fits w1)
  have hlen : len1 ≤ 9223372036854775807 := by
    rcases HS.out with h | ⟨_, _, _, _, h1, h2, _⟩
    · omega
    · unfold maxLen at h2; omega
  clear w0 w1
  go_enter Try.func6, Try.ntmps6
  go_wp2_with fail
  refine (made_at a0 _).mono ?_
  rintro e y ⟨r, fb, g, q, n, hn5, hr, hfb, hg, hq, rfl, hB, hK⟩
  have HB := Lib.hid (And.intro hB hK)
  have hsz := hK.size
  clear hB hK
  go_wp2_with fail
  obtain ⟨bx, hbx⟩ : ∃ bx, bx = y.heap.size := ⟨_, rfl⟩
  rw [← hbx]
  have hbw : w.heap.size ≤ bx := by omega
  generalize hy2 : y.alloc _ = y2
  have HB2 : Hid (Both y2 r fb g q n (List.replicate (64 * n) 0) ∧ Keep [] w y2 ∧ y2.cell? ⟨bx, 0, none⟩ = some (.slice (some ⟨q, 0, none⟩) (64 * n) (64 * n)) ∧ g < bx ∧ q < bx) := Lib.hid (by
    subst hy2 hbx
    exact ⟨HB.out.1.keep0 ((Keep.refl _ _).alloc _), HB.out.2.alloc _, cell_of (heap_alloc_same y _) 0 rfl, HB.out.1.lt.2.2.1, HB.out.1.lt.2.2.2⟩)
  clear hy2 hbx hsz HB
  go_loopw [7, 8] (fun kv _ wr => ∃ (k : Nat) (L : List Int), kv = .int .i64 k ∧ k ≤ len1 ∧ k ≤ 100 ∧ Both wr r fb g q n L ∧ Keep [] w wr ∧ wr.cell? ⟨bx, 0, none⟩ = some (.slice (some ⟨q, 0, none⟩) (64 * n) (64 * n)) ∧ g < bx ∧ q < bx) (fun kv _ _ => 100 - (intOf kv).toNat)
  case atStart => exact ⟨0, _, rfl, by omega, by omega, HB2.out⟩
  case round =>
    clear HB2
    obtain ⟨k, L, rfl, hk, hk100, hB, hK, hcb, hgb, hqb⟩ := hrel
    have HR := Lib.hid (And.intro hB hK)
    clear hB hK
    by_cases hlt : k < len1
    · by_cases h100 : k < 100
      · obtain ⟨lb, off, rfl, -, -, -, hst⟩ : ∃ lb off, s1 = some ⟨lb, off, none⟩ ∧ 0 < len1 ∧ len1 ≤ cap1 ∧ cap1 ≤ maxLen ∧ ∀ i, i < len1 → ∃ kind a W sb cb M N, StepAt w lb (off + i * 5) kind a W sb cb M N := by
          rcases HS.out with h | h
          · omega
          · exact h
        obtain ⟨kind, a, W, sb, cb, M, N, hs⟩ := hst k hlt
        have hlbw : lb < w.heap.size := by have := World.block_lt_of_cell? w _ hs.c0; simpa using this
        have hs2 := hs.keep HR.out.2 (by simp) (by simp)
        obtain ⟨c0, c1, c2, c3, c4, ha, hW, hM, hm, hN⟩ := hs2
        have HM := Lib.hid hM
        have hsrc : Hid (M = [] ∨ ∀ b, sb = some b → b.block ≠ g ∧ b.block ≠ q) := Lib.hid (by
          rcases row_old hs.hM hg with h | h
          · exact .inl h
          · rcases row_old hs.hM hq with h' | h'
            · exact .inl h'
            · exact .inr fun b hb => ⟨h b hb, h' b hb⟩)
        clear hM hst hs
        by_cases h6 : kind = 6
        · subst h6
          have hwl := HR.out.1.lt
          have hbl : bx < wr.heap.size := by have := World.block_lt_of_cell? wr _ hcb; simpa using this
          have C := rcopy_at HR.out.1.ram
          rw [List.length_range, view_range HR.out.1.len] at C
          have C := Lib.hid C
          have hn1 := HR.out.1.n1
          go_wp2_with fail
          refine C.out.mono ?_
          rintro e y1 ⟨r2, fb2, g2, hr2, hfb2, hg2, rfl, hA2, hK1⟩
          have hB2 : Both y1 r2 fb2 g2 q n L := ⟨hA2, HR.out.1.ref.keep0 hK1, HR.out.1.len, ⟨by omega, by omega, by omega⟩, HR.out.1.n1, hK1.heap HR.out.1.qd (by simp)⟩
          have HX := Lib.hid (And.intro hB2 hK1)
          have hcb1 := hK1.cell hcb (by simp)
          have c01 := hK1.cell c0 (by simp)
          have c21 := hK1.cell c2 (by simp)
          have HSM := Lib.hid (same_at hB2)
          clear hA2 hB2 hK1 C c0 c1 c2 c3 c4 hcb
          go_wp2_with fail
          refine HSM.out.mono ?_
          rintro e y2 ⟨rfl, hK2⟩
          have hcb2 := hK2.cell hcb1 (by simp)
          have c22 := hK2.cell c21 (by simp)
          have HY := Lib.hid (And.intro (HX.out.1.keep0 hK2) (HX.out.2.trans hK2))
          have hsz2 := (HX.out.2.trans hK2).size
          have HZ := Lib.hid (fun z hz => bsetbyte_r (HX.out.1.keep0 hK2) 0 (by omega) z hz)
          clear hK2 hcb1 c01 c21 HSM
          go_wp2_with fail
          refine (HZ.out _ (by first | omega | (rw [IntKind.wrap_u8]; omega))).mono ?_
          rintro e y3 ⟨rfl, hA3, hK3⟩
          have hcb3 := hK3.cell hcb2 (by simp; omega)
          have c23 := hK3.cell c22 (by simp; omega)
          have HW := Lib.hid (rsetword_any hA3 60 (by omega) W hW)
          have HK3 := Lib.hid hK3
          generalize layB n 0 _ 1 = ok1
          clear hA3 hK3 hcb2 c22 HZ
          go_wp2_with fail
          refine HW.out.mono ?_
          rintro e y4 ⟨rfl, -, hK4⟩
          have hcb4 := hK4.cell hcb3 (by simp; omega)
          have hk4 : Keep [] wr y4 := HY.out.2.then (HK3.out.trans hK4) (fun k hk hlt => by simp at hk; omega)
          have HF := Lib.hid (And.intro (HR.out.1.keep0 hk4) (HR.out.2.trans hk4))
          generalize layB _ 60 _ 4 = ok2
          clear hk4 hK4 hcb3 c23 HW
          go_wp2_with fail
          go_roundw
          case rel => exact ⟨k + 1, L, by go_num, by omega, by omega, HF.out.1, HF.out.2, hcb4, hgb, hqb⟩
          case measure => simp [intOf]; omega
        · have h6' : (kind == 6) = false := beq_eq_false_iff_ne.2 h6
          clear h6
          have HC := Lib.hid (fun (x : World) (hx : Keep [] wr x) => step_at (HR.out.1.keep0 hx) kind a W ha hW (HM.out.keep0 hx) hsrc.out hm N hN.1 hN.2)
          go_wp2_with fail
          refine wp_region_held_drew (S := fun x => Keep [g, q] wr x ∧ x.cell? ⟨bx, 0, none⟩ = some (.slice (some ⟨q, 0, none⟩) (64 * n) (64 * n)) ∧ x.cell? ⟨lb, off + k * 5, none⟩ = some (.int .i64 kind) ∧ x.cell? ⟨lb, off + k * 5 + 1, none⟩ = some (.int .u32 a) ∧ x.cell? ⟨lb, off + k * 5 + 2, none⟩ = some (.int .u32 W) ∧ x.cell? ⟨lb, off + k * 5 + 3, none⟩ = some (.slice sb M.length cb) ∧ x.cell? ⟨lb, off + k * 5 + 4, none⟩ = some (.int .i64 N)) (by kernel_rfl) ⟨(Keep.refl [g, q] wr).drew, hcb, c0, c1, c2, c3, c4⟩ (fun hHeld => ?_)
          skip
          refine wpAnyH_take (i := 0) (oi := { dst := some 57, op := Op.move (Operand.tmp 5), type := 22, pos := "law.go:98", after := #[], guard := none }) (v := ?_) rfl (by kernel_rfl) (by kernel_rfl) (by kernel_rfl) (fun _ _ _ h => h) (Or.inl ⟨by rfl, ?_⟩) (by assumption) ?_
          rotate_left
          focus (intro w hSw; (try dsimp only at hSw); go_simp <;> with_reducible rfl)
          try simp only [Act.put, List.setIfInBounds_toArray, List.set_cons_zero, List.set_cons_succ]
          refine wpAnyH_take (i := 1) (oi := { dst := some 58, op := Op.load 35 (Operand.tmp 6), type := 35, pos := "law.go:98", after := #[], guard := none }) (v := ?_) rfl (by kernel_rfl) (by kernel_rfl) (by kernel_rfl) (fun _ _ _ h => h) (Or.inl ⟨by rfl, ?_⟩) (by assumption) ?_
          rotate_left
          focus (intro w hSw; (try dsimp only at hSw); go_simp <;> with_reducible rfl)
          try simp only [Act.put, List.setIfInBounds_toArray, List.set_cons_zero, List.set_cons_succ]
          refine wpAnyH_take (i := 2) (oi := { dst := some 59, op := Op.move (Operand.tmp 1), type := 46, pos := "law.go:98", after := #[], guard := none }) (v := ?_) rfl (by kernel_rfl) (by kernel_rfl) (by kernel_rfl) (fun _ _ _ h => h) (Or.inl ⟨by rfl, ?_⟩) (by assumption) ?_
          rotate_left
          focus (intro w hSw; (try dsimp only at hSw); go_simp <;> with_reducible rfl)
          try simp only [Act.put, List.setIfInBounds_toArray, List.set_cons_zero, List.set_cons_succ]
          refine wpAnyH_take (i := 3) (oi := { dst := some 60, op := Op.move (Operand.tmp 7), type := 3, pos := "law.go:98", after := #[], guard := none }) (v := ?_) rfl (by kernel_rfl) (by kernel_rfl) (by kernel_rfl) (fun _ _ _ h => h) (Or.inl ⟨by rfl, ?_⟩) (by assumption) ?_
          rotate_left
          focus (intro w hSw; (try dsimp only at hSw); go_simp <;> with_reducible rfl)
          try simp only [Act.put, List.setIfInBounds_toArray, List.set_cons_zero, List.set_cons_succ]
          refine wpAnyH_take (i := 4) (oi := { dst := some 61, op := Op.indexAddr 46 (Operand.tmp 59) (Operand.tmp 60), type := 0, pos := "law.go:98", after := #[{ on := 2, ground := Ground.data }, { on := 3, ground := Ground.data }], guard := none }) (v := ?_) rfl (by kernel_rfl) (by kernel_rfl) (by kernel_rfl) (fun _ _ _ h => h) (Or.inl ⟨by rfl, ?_⟩) (by assumption) ?_
          rotate_left
          focus (intro w hSw; (try dsimp only at hSw); go_simp <;> with_reducible rfl)
          try simp only [Act.put, List.setIfInBounds_toArray, List.set_cons_zero, List.set_cons_succ]
          refine wpAnyH_take (i := 5) (oi := { dst := some 62, op := Op.load 48 (Operand.tmp 61), type := 48, pos := "law.go:98", after := #[{ on := 4, ground := Ground.data }], guard := none }) (v := ?_) rfl (by kernel_rfl) (by kernel_rfl) (by kernel_rfl) (fun _ _ _ h => h) (Or.inl ⟨by rfl, ?_⟩) (by assumption) ?_
          rotate_left
          focus (intro w hSw; (try dsimp only at hSw); go_simp <;> with_reducible rfl)
          try simp only [Act.put, List.setIfInBounds_toArray, List.set_cons_zero, List.set_cons_succ]
          refine wpAnyH_ready (rs := [6]) (by kernel_rfl) (by simp) ?_
          refine AllReadyH.cons (o := { dst := some 63, op := Op.call { callee := Callee.value (Operand.func 29), args := #[Operand.tmp 57, Operand.tmp 58, Operand.tmp 62], argTypes := #[22, 35, 48] }, type := 4, pos := "law.go:98", after := #[{ on := 0, ground := Ground.data }, { on := 1, ground := Ground.data }, { on := 5, ground := Ground.data }], guard := none }) rfl (fun K hK => ?_) AllReadyH.nil
          go_simp
          refine (HC.out _ (Keep.refl [] wr).drew).mono ?_
          rintro e y1 ⟨rfl, L', hB', hK'⟩
          have hgw : lb ∉ [g, q] := by simp; omega
          have hS1 : y1.cell? ⟨bx, 0, none⟩ = some (.slice (some ⟨q, 0, none⟩) (64 * n) (64 * n)) := hK'.cell hcb (by simp; omega)
          have HX := Lib.hid (And.intro hB' (HR.out.2.then ((Keep.refl [g, q] wr).drew.trans hK') (fun k hk hlt => by simp at hk; omega)))
          have hq : Keep [g, q] wr y1 ∧ y1.cell? ⟨bx, 0, none⟩ = some (.slice (some ⟨q, 0, none⟩) (64 * n) (64 * n)) ∧ y1.cell? ⟨lb, off + k * 5, none⟩ = some (.int .i64 kind) ∧ y1.cell? ⟨lb, off + k * 5 + 1, none⟩ = some (.int .u32 a) ∧ y1.cell? ⟨lb, off + k * 5 + 2, none⟩ = some (.int .u32 W) ∧ y1.cell? ⟨lb, off + k * 5 + 3, none⟩ = some (.slice sb M.length cb) ∧ y1.cell? ⟨lb, off + k * 5 + 4, none⟩ = some (.int .i64 N) :=
            ⟨(Keep.refl [g, q] wr).drew.trans hK', hS1, hK'.cell c0 hgw, hK'.cell c1 hgw, hK'.cell c2 hgw, hK'.cell c3 hgw, hK'.cell c4 hgw⟩
          have HQ := Lib.hid hq
          clear hB' hK' hq
          go_wp2_with fail
          refine shut_grow (fun x => x = y1) hK (fun _ h => by rw [h]; exact HQ.out) rfl (fun hHeld => ?_)
          clear hK K
          refine wpAnyH_take (i := 7) (oi := { dst := some 64, op := Op.unOp UnOp.not 4 (Operand.tmp 63), type := 4, pos := "law.go:98", after := #[{ on := 6, ground := Ground.data }], guard := none }) (v := ?_) rfl (by kernel_rfl) (by kernel_rfl) (by kernel_rfl) (fun _ _ _ h => h) (Or.inl ⟨by rfl, ?_⟩) (by assumption) ?_
          rotate_left
          focus (intro w hSw; (try dsimp only at hSw); go_simp <;> with_reducible rfl)
          try simp only [Act.put, List.setIfInBounds_toArray, List.set_cons_zero, List.set_cons_succ]
          refine wpAnyH_done (by kernel_rfl) ?_ _
          clear hHeld c0 c1 c2 c3 c4
          go_wp2_with fail
          go_roundw
          case rel => exact ⟨k + 1, L', by go_num, by omega, by omega, HX.out.1, HX.out.2, hS1, hgb, hqb⟩
          case measure => simp [intOf]; omega
      · have h100' : ¬ ((k : Int) < 100) := by omega
        have HF := Lib.hid (same_at HR.out.1)
        go_wp2_with fail
        refine HF.out.mono ?_
        rintro e y1 ⟨rfl, hK1⟩
        have hF := Lib.hid (Keep.below (HR.out.2.trans hK1) (Nat.le_refl _) (by simp))
        go_wp2_with fail
        go_ret
        exact ⟨rfl, hF.out⟩
    · have hlt' : ¬ ((k : Int) < (len1 : Int)) := by omega
      have HF := Lib.hid (same_at HR.out.1)
      go_wp2_with fail
      refine HF.out.mono ?_
      rintro e y1 ⟨rfl, hK1⟩
      have hF := Lib.hid (Keep.below (HR.out.2.trans hK1) (Nat.le_refl _) (by simp))
      go_wp2_with fail
      go_ret
      exact ⟨rfl, hF.out⟩
end Go.Proofs.Yteoanahfbfflbaa
