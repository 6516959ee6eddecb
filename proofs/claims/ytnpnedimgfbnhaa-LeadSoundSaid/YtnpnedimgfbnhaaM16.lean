/- Contracts of the functions that the law reaches, walked, and the plain laws on them (several texts in one). -/
import Derived.Outline
import Derived.Deep.Cut
import Derived.Test.YtnpnedimgfbnhaaM15
import Derived.Test.YtnpnedimgfbnhaaM10
import Derived.Test.YtnpnedimgfbnhaaM04

/- The law LeadBits, walked. -/
namespace Go.Proofs.Ytnpnedimgfbnhaa
open Go.RowKit Go.Mum
set_option linter.unusedVariables false
set_option maxRecDepth 100000

/-- Marks that came in. -/
def MarksIn (w : World) (s : Option Addr) (len : Nat) : Prop :=
  len = 0 ∨ ∃ lb off, s = some ⟨lb, off, none⟩ ∧ len ≤ 9223372036854775807 ∧ ∀ i, i < len → ∃ fr kd : Nat, fr < 256 ∧ kd < 256 ∧ w.cell? ⟨lb, off + i * 2, none⟩ = some (.int .u8 fr) ∧ w.cell? ⟨lb, off + i * 2 + 1, none⟩ = some (.int .u8 kd)

theorem MarksIn.keep0 {w x : World} {s : Option Addr} {len : Nat} (h : MarksIn w s len) (hk : Keep [] w x) : MarksIn x s len := by
  rcases h with h | ⟨lb, off, h1, h2, h3⟩
  · exact .inl h
  · refine .inr ⟨lb, off, h1, h2, fun i hi => ?_⟩
    obtain ⟨fr, kd, a, b, c, d⟩ := h3 i hi
    exact ⟨fr, kd, a, b, hk.cell c (by simp), hk.cell d (by simp)⟩

theorem marks_of_fits {w : World} {B n : Nat} {s : Option Addr} {len cap : Nat} (h : Fits Try.prog w B n 23 [.slice s len cap]) : MarksIn w s len := by
  rcases h.rows Try.underlying23 2 (by kernel_rfl) (by omega) with h | ⟨lb, off, mm, rfl, _, h1, h2, _, hlt, h3⟩
  · exact .inl h
  · refine .inr ⟨lb, off, rfl, by unfold maxLen at h2; omega, fun i hi => ?_⟩
    obtain ⟨ds, hd, hc, hf⟩ := h3 i hi
    obtain ⟨m2, hl, hfs⟩ := hf.struct Try.underlying32
    match ds, hd with
    | [d0, d1], _ =>
      have q1 : Try.prog.cellsOf 5 = 1 := by kernel_rfl
      obtain ⟨z0, e0, g0⟩ := (hfs _ (.head _)).int Try.underlying5
      obtain ⟨z1, e1, g1⟩ := (hfs _ (.tail _ (.head _))).int Try.underlying5
      simp [q1] at e0 e1
      subst e0 e1
      have h0 := wf_u8 g0
      have h1' := wf_u8 g1
      refine ⟨z0.toNat, z1.toNat, by omega, by omega, ?_, ?_⟩
      · rw [Int.toNat_of_nonneg h0.1]; simpa using hc 0 (by omega)
      · rw [Int.toNat_of_nonneg h1'.1]; simpa using hc 1 (by omega)

set_option maxHeartbeats 8000000 in
theorem LeadBits_walk (a0 : Int) (a1 : Int) (c2 : Array Value) (n2 : Nat) (w : World) (w0 : (Lit.int .u32 a0).wf = true) (w1 : (Lit.int .u32 a1).wf = true) (w2 : Fits Try.prog w maxLen n2 25 c2.toList) :
    Calls Try.prog 3 #[.int .u32 a0, .int .u32 a1, .agg c2] w fun e w' => e = .returned (.bool true) ∧ Below w.heap.size w w' := by
  have b0 := wf_u32 w0
  have b1 := wf_u32 w1
  obtain ⟨b, rfl⟩ : ∃ b : Nat, a0 = b := ⟨a0.toNat, by omega⟩
  obtain ⟨at', rfl⟩ : ∃ a : Nat, a1 = a := ⟨a1.toNat, by omega⟩
  have hb : b < 4294967296 := by omega
  have ha : at' < 4294967296 := by omega
  obtain ⟨pg, s, len, cap, rfl, hM⟩ : ∃ pg s len cap, c2 = #[.bool pg, .slice s len cap] ∧ MarksIn w s len := by
    obtain ⟨m2, hl, hfs⟩ := w2.struct Try.underlying25
    have cs : Try.prog.cellsOf 25 = 2 := by kernel_rfl
    rw [cs] at hl
    obtain ⟨l⟩ := c2
    match l, hl with
    | [d0, d1], _ =>
      have q1 : Try.prog.cellsOf 4 = 1 := by kernel_rfl
      have q2 : Try.prog.cellsOf 23 = 1 := by kernel_rfl
      obtain ⟨z0, e0⟩ := (hfs _ (.head _)).bool Try.underlying4
      have f1 := hfs _ (.tail _ (.head _))
      simp [q1] at e0
      simp [q2] at f1
      subst e0
      obtain ⟨s, len, cap, rfl⟩ : ∃ a l c, d1 = .slice a l c := by
        cases m2 with
        | zero => exact f1.elim
        | succ k =>
          unfold Fits at f1
          rw [Try.underlying23] at f1
          rcases f1 with h | ⟨a, l, c, h, _⟩
          · simp at h; exact ⟨_, _, _, h⟩
          · simp at h; exact ⟨_, _, _, h⟩
      exact ⟨z0, s, len, cap, rfl, marks_of_fits f1⟩
  have HM := Lib.hid hM
  clear w0 w1 w2 b0 b1 hM
  obtain ⟨A, hA⟩ : ∃ A, A = at' % 1280 := ⟨_, rfl⟩
  have hA1 : (at' : Int) % 1280 = (A : Int) := by omega
  have hA2 : A < 1280 := by omega
  obtain ⟨F, hF⟩ : ∃ F, F = A / 64 := ⟨_, rfl⟩
  have hF1 : (A : Int) / 64 = (F : Int) := by omega
  have hF2 : F < 20 := by omega
  clear hA hF
  go_enter Try.func3, Try.ntmps3
  go_wp2_with fail
  go_quiet (fail)
  go_wp2_with fail
  generalize hy : World.drewN _ _ = y0
  have H0 : Hid (Keep [] w y0) := Lib.hid (by subst hy; exact ((Keep.refl _ _).alloc _).drewN _)
  clear hy
  refine (mnew_good 20 _ (by omega) (by omega)).mono ?_
  rintro e y1 ⟨bb, m1, m2, hbb, hm1, hm2, rfl, hMk, hK⟩
  have H1 := Lib.hid (And.intro hMk (H0.out.trans hK))
  have HN := Lib.hid (show w.heap.size ≤ bb ∧ w.heap.size ≤ m1 ∧ w.heap.size ≤ m2 by have := H0.out.size; omega)
  clear hMk hK hbb hm1 hm2
  go_wp2_with fail
  rw [hA1]
  go_loopw [12, 13, 14] (fun cv tv kv wr => ∃ (k : Nat) (c t : Bool) (s1 s2 : List Int), kv = .int .i64 k ∧ cv = .bool c ∧ tv = .bool t ∧ k ≤ 40 ∧ k ≤ len ∧ Hid (c = decide ((F : Int) ∈ s1) ∧ t = decide ((F : Int) ∈ s2) ∧ MarksAt wr bb m1 m2 20 s1 s2 ∧ Keep [] w wr)) (fun _ _ kv _ => 40 - (intOf kv).toNat)
  case atStart => exact ⟨0, false, false, [], [], rfl, rfl, rfl, by omega, by omega, Lib.hid ⟨by simp, by simp, H1.out.1, H1.out.2⟩⟩
  case round =>
    clear H1
    obtain ⟨k, c, t, s1, s2, rfl, rfl, rfl, hk1, hk2, HR⟩ := hrel
    rename World => wo
    by_cases hlt : k < len ∧ k < 40
    · obtain ⟨hl1, hl2⟩ := hlt
      obtain ⟨lb, off, rfl, hl64, fr, kd, hfr, hkd, c0, c1⟩ : ∃ lb off, s = some ⟨lb, off, none⟩ ∧ len ≤ 9223372036854775807 ∧ ∃ fr kd : Nat, fr < 256 ∧ kd < 256 ∧ wo.cell? ⟨lb, off + k * 2, none⟩ = some (.int .u8 fr) ∧ wo.cell? ⟨lb, off + k * 2 + 1, none⟩ = some (.int .u8 kd) := by
        rcases HM.out with h | ⟨lb, off, h1, h2, h3⟩
        · omega
        · obtain ⟨fr, kd, q1, q2, q3, q4⟩ := h3 k hl1
          exact ⟨lb, off, h1, h2, fr, kd, q1, q2, HR.out.2.2.2.cell q3 (by simp), HR.out.2.2.2.cell q4 (by simp)⟩
      have hlw : Hid (lb < w.heap.size) := Lib.hid (by
        rcases HM.out with h | ⟨lb', off', h1, h2, h3⟩
        · omega
        · cases h1
          obtain ⟨fr, kd, q1, q2, q3, q4⟩ := h3 k hl1
          have := World.block_lt_of_cell? w _ q3
          simpa using this)
      obtain ⟨f, hf⟩ : ∃ f, f = fr % 20 := ⟨_, rfl⟩
      obtain ⟨q, hq⟩ : ∃ q, q = kd % 2 := ⟨_, rfl⟩
      have t1 : ((fr : Int)).tmod 20 = (f : Int) := by rw [Int.tmod_eq_emod_of_nonneg (by omega)]; omega
      have t2 : ((kd : Int)).tmod 2 = (q : Int) := by rw [Int.tmod_eq_emod_of_nonneg (by omega)]; omega
      have u1 : (fr : Int) % 20 = (f : Int) := by omega
      have u2 : (kd : Int) % 2 = (q : Int) := by omega
      have hf20 : f < 20 := by omega
      have hq2 : q < 2 := by omega
      have t3 : IntKind.i64.wrap (1 + (q : Int)) = 1 + (q : Int) := IntWalk.i64_in _ (by omega)
      have t4 : IntKind.i64.wrap (fr : Int) = (fr : Int) := IntWalk.i64_in _ (by omega)
      have t5 : IntKind.i64.wrap (q : Int) = (q : Int) := IntWalk.i64_in _ (by omega)
      have hk0 : (0 : Int) ≤ (k : Int) := by omega
      have hk3 : (k : Int) < (len : Int) := by omega
      have hk4 : (k : Int) < 40 := by omega
      clear hf hq
      go_wp2_with fail
      refine wp_region_held_drew (S := fun x => x.cell? ⟨lb, off + k * 2, none⟩ = some (.int .u8 fr) ∧ x.cell? ⟨lb, off + k * 2 + 1, none⟩ = some (.int .u8 kd)) (by kernel_rfl) ⟨c0, c1⟩ (fun hHeld => ?_)
      skip
      refine wpAnyH_take (i := 0) (oi := { dst := some 41, op := Op.move (Operand.tmp 9), type := 26, pos := "law.go:87", after := #[], guard := none }) (v := ?_) rfl (by kernel_rfl) (by kernel_rfl) (by kernel_rfl) (fun _ _ _ h => h) (Or.inl ⟨by rfl, ?_⟩) (by assumption) ?_
      rotate_left
      focus (intro w hSw; (try dsimp only at hSw); go_simp <;> with_reducible rfl)
      try simp only [Act.put, List.setIfInBounds_toArray, List.set_cons_zero, List.set_cons_succ]
      refine wpAnyH_take (i := 1) (oi := { dst := some 42, op := Op.move (Operand.tmp 8), type := 23, pos := "law.go:87", after := #[], guard := none }) (v := ?_) rfl (by kernel_rfl) (by kernel_rfl) (by kernel_rfl) (fun _ _ _ h => h) (Or.inl ⟨by rfl, ?_⟩) (by assumption) ?_
      rotate_left
      focus (intro w hSw; (try dsimp only at hSw); go_simp <;> with_reducible rfl)
      try simp only [Act.put, List.setIfInBounds_toArray, List.set_cons_zero, List.set_cons_succ]
      refine wpAnyH_take (i := 2) (oi := { dst := some 43, op := Op.move (Operand.tmp 14), type := 3, pos := "law.go:87", after := #[], guard := none }) (v := ?_) rfl (by kernel_rfl) (by kernel_rfl) (by kernel_rfl) (fun _ _ _ h => h) (Or.inl ⟨by rfl, ?_⟩) (by assumption) ?_
      rotate_left
      focus (intro w hSw; (try dsimp only at hSw); go_simp <;> with_reducible rfl)
      try simp only [Act.put, List.setIfInBounds_toArray, List.set_cons_zero, List.set_cons_succ]
      refine wpAnyH_take (i := 3) (oi := { dst := some 44, op := Op.indexAddr 23 (Operand.tmp 42) (Operand.tmp 43), type := 0, pos := "law.go:87", after := #[{ on := 1, ground := Ground.data }, { on := 2, ground := Ground.data }], guard := none }) (v := ?_) rfl (by kernel_rfl) (by kernel_rfl) (by kernel_rfl) (fun _ _ _ h => h) (Or.inl ⟨by rfl, ?_⟩) (by assumption) ?_
      rotate_left
      focus (intro w hSw; (try dsimp only at hSw); go_simp <;> with_reducible rfl)
      try simp only [Act.put, List.setIfInBounds_toArray, List.set_cons_zero, List.set_cons_succ]
      refine wpAnyH_take (i := 4) (oi := { dst := some 45, op := Op.fieldAddr 32 (Operand.tmp 44) 0, type := 0, pos := "law.go:87", after := #[{ on := 3, ground := Ground.data }], guard := none }) (v := ?_) rfl (by kernel_rfl) (by kernel_rfl) (by kernel_rfl) (fun _ _ _ h => h) (Or.inl ⟨by rfl, ?_⟩) (by assumption) ?_
      rotate_left
      focus (intro w hSw; (try dsimp only at hSw); go_simp <;> with_reducible rfl)
      try simp only [Act.put, List.setIfInBounds_toArray, List.set_cons_zero, List.set_cons_succ]
      refine wpAnyH_take (i := 5) (oi := { dst := some 46, op := Op.load 5 (Operand.tmp 45), type := 5, pos := "law.go:87", after := #[{ on := 4, ground := Ground.data }], guard := none }) (v := ?_) rfl (by kernel_rfl) (by kernel_rfl) (by kernel_rfl) (fun _ _ _ h => h) (Or.inl ⟨by rfl, ?_⟩) (by assumption) ?_
      rotate_left
      focus (intro w hSw; (try dsimp only at hSw); go_simp <;> with_reducible rfl)
      try simp only [Act.put, List.setIfInBounds_toArray, List.set_cons_zero, List.set_cons_succ]
      refine wpAnyH_take (i := 6) (oi := { dst := some 47, op := Op.convert 5 3 (Operand.tmp 46), type := 3, pos := "law.go:87", after := #[{ on := 5, ground := Ground.data }], guard := none }) (v := ?_) rfl (by kernel_rfl) (by kernel_rfl) (by kernel_rfl) (fun _ _ _ h => h) (Or.inl ⟨by rfl, ?_⟩) (by assumption) ?_
      rotate_left
      focus (intro w hSw; (try dsimp only at hSw); go_simp <;> with_reducible rfl)
      try simp only [Act.put, List.setIfInBounds_toArray, List.set_cons_zero, List.set_cons_succ]
      refine wpAnyH_take (i := 7) (oi := { dst := some 48, op := Op.binOp BinOp.rem 3 (Operand.tmp 47) (Operand.const (Value.int IntKind.i64 20)) 3, type := 3, pos := "law.go:87", after := #[{ on := 6, ground := Ground.data }], guard := none }) (v := ?_) rfl (by kernel_rfl) (by kernel_rfl) (by kernel_rfl) (fun _ _ _ h => h) (Or.inl ⟨by rfl, ?_⟩) (by assumption) ?_
      rotate_left
      focus (intro w hSw; (try dsimp only at hSw); go_simp <;> with_reducible rfl)
      try simp only [Act.put, List.setIfInBounds_toArray, List.set_cons_zero, List.set_cons_succ]
      refine wpAnyH_take (i := 8) (oi := { dst := some 49, op := Op.move (Operand.tmp 8), type := 23, pos := "law.go:87", after := #[], guard := none }) (v := ?_) rfl (by kernel_rfl) (by kernel_rfl) (by kernel_rfl) (fun _ _ _ h => h) (Or.inl ⟨by rfl, ?_⟩) (by assumption) ?_
      rotate_left
      focus (intro w hSw; (try dsimp only at hSw); go_simp <;> with_reducible rfl)
      try simp only [Act.put, List.setIfInBounds_toArray, List.set_cons_zero, List.set_cons_succ]
      refine wpAnyH_take (i := 9) (oi := { dst := some 50, op := Op.move (Operand.tmp 14), type := 3, pos := "law.go:87", after := #[], guard := none }) (v := ?_) rfl (by kernel_rfl) (by kernel_rfl) (by kernel_rfl) (fun _ _ _ h => h) (Or.inl ⟨by rfl, ?_⟩) (by assumption) ?_
      rotate_left
      focus (intro w hSw; (try dsimp only at hSw); go_simp <;> with_reducible rfl)
      try simp only [Act.put, List.setIfInBounds_toArray, List.set_cons_zero, List.set_cons_succ]
      refine wpAnyH_take (i := 10) (oi := { dst := some 51, op := Op.indexAddr 23 (Operand.tmp 49) (Operand.tmp 50), type := 0, pos := "law.go:87", after := #[{ on := 8, ground := Ground.data }, { on := 9, ground := Ground.data }], guard := none }) (v := ?_) rfl (by kernel_rfl) (by kernel_rfl) (by kernel_rfl) (fun _ _ _ h => h) (Or.inl ⟨by rfl, ?_⟩) (by assumption) ?_
      rotate_left
      focus (intro w hSw; (try dsimp only at hSw); go_simp <;> with_reducible rfl)
      try simp only [Act.put, List.setIfInBounds_toArray, List.set_cons_zero, List.set_cons_succ]
      refine wpAnyH_take (i := 11) (oi := { dst := some 52, op := Op.fieldAddr 32 (Operand.tmp 51) 1, type := 0, pos := "law.go:87", after := #[{ on := 10, ground := Ground.data }], guard := none }) (v := ?_) rfl (by kernel_rfl) (by kernel_rfl) (by kernel_rfl) (fun _ _ _ h => h) (Or.inl ⟨by rfl, ?_⟩) (by assumption) ?_
      rotate_left
      focus (intro w hSw; (try dsimp only at hSw); go_simp <;> with_reducible rfl)
      try simp only [Act.put, List.setIfInBounds_toArray, List.set_cons_zero, List.set_cons_succ]
      refine wpAnyH_take (i := 12) (oi := { dst := some 53, op := Op.load 5 (Operand.tmp 52), type := 5, pos := "law.go:87", after := #[{ on := 11, ground := Ground.data }], guard := none }) (v := ?_) rfl (by kernel_rfl) (by kernel_rfl) (by kernel_rfl) (fun _ _ _ h => h) (Or.inl ⟨by rfl, ?_⟩) (by assumption) ?_
      rotate_left
      focus (intro w hSw; (try dsimp only at hSw); go_simp <;> with_reducible rfl)
      try simp only [Act.put, List.setIfInBounds_toArray, List.set_cons_zero, List.set_cons_succ]
      refine wpAnyH_take (i := 13) (oi := { dst := some 54, op := Op.binOp BinOp.rem 5 (Operand.tmp 53) (Operand.const (Value.int IntKind.u8 2)) 5, type := 5, pos := "law.go:87", after := #[{ on := 12, ground := Ground.data }], guard := none }) (v := ?_) rfl (by kernel_rfl) (by kernel_rfl) (by kernel_rfl) (fun _ _ _ h => h) (Or.inl ⟨by rfl, ?_⟩) (by assumption) ?_
      rotate_left
      focus (intro w hSw; (try dsimp only at hSw); go_simp <;> with_reducible rfl)
      try simp only [Act.put, List.setIfInBounds_toArray, List.set_cons_zero, List.set_cons_succ]
      refine wpAnyH_take (i := 14) (oi := { dst := some 55, op := Op.convert 5 3 (Operand.tmp 54), type := 3, pos := "law.go:87", after := #[{ on := 13, ground := Ground.data }], guard := none }) (v := ?_) rfl (by kernel_rfl) (by kernel_rfl) (by kernel_rfl) (fun _ _ _ h => h) (Or.inl ⟨by rfl, ?_⟩) (by assumption) ?_
      rotate_left
      focus (intro w hSw; (try dsimp only at hSw); go_simp <;> with_reducible rfl)
      try simp only [Act.put, List.setIfInBounds_toArray, List.set_cons_zero, List.set_cons_succ]
      refine wpAnyH_take (i := 15) (oi := { dst := some 56, op := Op.binOp BinOp.add 3 (Operand.const (Value.int IntKind.i64 1)) (Operand.tmp 55) 3, type := 3, pos := "law.go:87", after := #[{ on := 14, ground := Ground.data }], guard := none }) (v := ?_) rfl (by kernel_rfl) (by kernel_rfl) (by kernel_rfl) (fun _ _ _ h => h) (Or.inl ⟨by rfl, ?_⟩) (by assumption) ?_
      rotate_left
      focus (intro w hSw; (try dsimp only at hSw); go_simp <;> with_reducible rfl)
      try simp only [Act.put, List.setIfInBounds_toArray, List.set_cons_zero, List.set_cons_succ]
      refine wpAnyH_ready (rs := [16]) (by kernel_rfl) (by simp) ?_
      refine AllReadyH.cons (o := { dst := some 57, op := Op.call { callee := Callee.value (Operand.func 9), args := #[Operand.tmp 41, Operand.tmp 48, Operand.tmp 56], argTypes := #[26, 3, 3] }, type := 4, pos := "law.go:87", after := #[{ on := 0, ground := Ground.data }, { on := 7, ground := Ground.data }, { on := 15, ground := Ground.data }], guard := none }) rfl (fun K hK => ?_) AllReadyH.nil
      go_simp
      refine (mmark_any (HR.out.2.2.1.keep ((Keep.refl [] wo).drew) (by simp) (by simp) (by simp)) f (1 + q)).mono ?_
      rintro e y2 ⟨rfl, hM2, hK2⟩
      have hn := HN.out
      have d0 := hK2.cell hHeld.1 (by simp; have := hlw.out; omega)
      have d1 := hK2.cell hHeld.2 (by simp; have := hlw.out; omega)
      have HS := Lib.hid (And.intro hM2 (HR.out.2.2.2.then ((Keep.refl [m1, m2] wo).drew.trans hK2) (by simp; omega)))
      go_wp2_with fail
      refine shut_grow (fun x => x = y2) hK (fun _ h => by rw [h]; exact ⟨d0, d1⟩) rfl (fun hHeld => ?_)
      clear hK K hM2 hK2 hn
      refine wpAnyH_done (by kernel_rfl) ?_ _
      clear hHeld t1 t2 t3 t4 t5
      have c0 := d0
      have c1 := d1
      by_cases hfF : f = F
      · have hfF' : (f : Int) = (F : Int) := by omega
        have hq01 : q = 0 ∨ q = 1 := by omega
        rcases hq01 with rfl | rfl
        · have HE : Hid (decide ((F : Int) ∈ mark1 20 f (1 + (0 : Nat)) s1) = true ∧ decide ((F : Int) ∈ mark2 20 f (1 + (0 : Nat)) s2) = t) := Lib.hid (by
            have := HR.out.2.1
            refine ⟨?_, ?_⟩
            · have hfit : (1 + ((0 : Nat) : Int) = 1) ∧ fits 20 f (1 + (0 : Nat)) := ⟨by simp, .inl (by simp), by omega, by omega⟩
              unfold mark1
              rw [if_pos hfit]
              exact decide_eq_true (mem_ins.2 (.inl hfF'.symm))
            · unfold mark2
              rw [if_neg (by simp)]
              exact this.symm)
          cases c
          all_goals cases t
          all_goals
            go_wp2_with fail
            go_roundw
            case rel => exact ⟨k + 1, _, _, _, _, by go_num, rfl, rfl, by omega, by omega, Lib.hid ⟨HE.out.1.symm, HE.out.2.symm, HS.out.1, HS.out.2⟩⟩
            case measure => simp [intOf]; omega
        · have HE : Hid (decide ((F : Int) ∈ mark1 20 f (1 + (1 : Nat)) s1) = c ∧ decide ((F : Int) ∈ mark2 20 f (1 + (1 : Nat)) s2) = true) := Lib.hid (by
            have := HR.out.1
            refine ⟨?_, ?_⟩
            · unfold mark1
              rw [if_neg (by simp)]
              exact this.symm
            · have hfit : (1 + ((1 : Nat) : Int) = 2) ∧ fits 20 f (1 + (1 : Nat)) := ⟨by simp, .inr (by simp), by omega, by omega⟩
              unfold mark2
              rw [if_pos hfit]
              exact decide_eq_true (mem_ins.2 (.inl hfF'.symm)))
          cases c
          all_goals cases t
          all_goals
            go_wp2_with fail
            go_roundw
            case rel => exact ⟨k + 1, _, _, _, _, by go_num, rfl, rfl, by omega, by omega, Lib.hid ⟨HE.out.1.symm, HE.out.2.symm, HS.out.1, HS.out.2⟩⟩
            case measure => simp [intOf]; omega
      · have hfF' : ((f : Int) == (F : Int)) = false := by rw [beq_eq_false_iff_ne]; omega
        have HE : Hid (decide ((F : Int) ∈ mark1 20 f (1 + q) s1) = c ∧ decide ((F : Int) ∈ mark2 20 f (1 + q) s2) = t) := Lib.hid (by
          have h1 := HR.out.1
          have h2 := HR.out.2.1
          rw [h1, h2]
          refine ⟨decide_eq_decide.2 ?_, decide_eq_decide.2 ?_⟩
          · unfold mark1
            split
            · rw [mem_ins]
              exact ⟨fun h => h.resolve_left (by omega), .inr⟩
            · rfl
          · unfold mark2
            split
            · rw [mem_ins]
              exact ⟨fun h => h.resolve_left (by omega), .inr⟩
            · rfl)
        go_wp2_with fail
        go_roundw
        case rel => exact ⟨k + 1, _, _, _, _, by go_num, rfl, rfl, by omega, by omega, Lib.hid ⟨HE.out.1.symm, HE.out.2.symm, HS.out.1, HS.out.2⟩⟩
        case measure => simp [intOf]; omega
    · have hW := HR.out.2.2.1.wat
      have hWF : (decide ((F : Int) ∈ s1) || decide ((F : Int) ∈ s2)) = (c || t) := by rw [HR.out.1, HR.out.2.1]
      have HK := Lib.hid HR.out.2.2.2
      have HWW := Lib.hid (And.intro hW hWF)
      clear hW hWF HR hk1 hk2
      have HB : Hid (∀ x, Keep [] wo x → ∀ p : Int, (pg = true → p = F) → Calls Try.prog 10 #[.pointer none, .agg #[.int .u32 b, .int .u32 A, .int .u32 0, .int .i64 0, .int .i64 0, .int .i64 p], .bool pg, .pointer (some ⟨bb, 0, none⟩)] x fun en w' => en = .returned (.int .u32 (leadB b (c || t) : Nat)) ∧ Keep [] x w') := Lib.hid (fun x hx p hp => by
        have hC := lbits_at (HWW.out.1.keep0 hx) (.pointer none) b A 0 0 0 p hb pg (by omega)
        have e : (decide ((if pg = true then p else (A : Int) / 64) ∈ s1) || decide ((if pg = true then p else (A : Int) / 64) ∈ s2)) = (c || t) := by
          rw [← HWW.out.2]
          cases pg
          · simp only [Bool.false_eq_true, if_false]; rw [hF1]
          · simp only [if_true]; rw [hp rfl]
        rw [e] at hC
        exact hC.mono fun _ _ h => ⟨h.1, by rw [← h.2]; exact (Keep.refl _ _).alloc _⟩)
      have hex : ¬ ((k : Int) < (len : Int)) ∨ (k : Int) < (len : Int) ∧ ¬ ((k : Int) < 40) := by omega
      have h8 : b / 8 % 2 = 0 ∨ b / 8 % 2 = 1 := by omega
      have h2 : b / 2 % 2 = 0 ∨ (b / 2 % 2 = 1 ∧ b / 16 % 2 = 0) ∨ (b / 2 % 2 = 1 ∧ b / 16 % 2 = 1) := by omega
      have HH := Lib.hid (And.intro h8 h2)
      clear hlt HWW h8 h2
      rcases hex with h1 | ⟨h1, h1'⟩
      all_goals cases pg
      all_goals rcases HH.out.1 with h8 | h8
      all_goals rcases HH.out.2 with h2 | ⟨h2, h16⟩ | ⟨h2, h16⟩
      · skip
        have e8 : (b : Int) / 8 % 2 = 0 := by omega
        have e2 : (b : Int) / 2 % 2 = 0 := by omega
        have HV : Hid (leadB b (c || t) = 5) := Lib.hid (by unfold leadB; simp [h8, h2])
        rw [HV.out] at HB
        clear h8 h2
        go_wp2_with fail
        refine (HB.out _ ((Keep.refl _ _).alloc _) _ (fun h => (by cases h))).mono ?_
        rintro e y5 ⟨rfl, hk5⟩
        have HK5 := Lib.hid (HK.out.trans (((Keep.refl [] wo).alloc _).trans hk5))
        clear hk5
        go_wp2_with fail
        refine (lworks_at _).mono ?_
        rintro e y6 ⟨rfl, hk6⟩
        have HF := Lib.hid (Keep.below (HK5.out.trans hk6) (Nat.le_refl _) (by simp))
        clear hk6
        go_wp2_with fail
        go_ret
        exact ⟨rfl, HF.out⟩
      · skip
        have e8 : (b : Int) / 8 % 2 = 0 := by omega
        have e2 : (b : Int) / 2 % 2 = 1 := by omega
        have e16 : (b : Int) / 16 % 2 = 0 := by omega
        have HV : Hid (leadB b (c || t) = 5) := Lib.hid (by unfold leadB; simp [h8, h2, h16])
        rw [HV.out] at HB
        clear h8 h2 h16
        go_wp2_with fail
        refine (HB.out _ ((Keep.refl _ _).alloc _) _ (fun h => (by cases h))).mono ?_
        rintro e y5 ⟨rfl, hk5⟩
        have HK5 := Lib.hid (HK.out.trans (((Keep.refl [] wo).alloc _).trans hk5))
        clear hk5
        go_wp2_with fail
        refine (lworks_at _).mono ?_
        rintro e y6 ⟨rfl, hk6⟩
        have HF := Lib.hid (Keep.below (HK5.out.trans hk6) (Nat.le_refl _) (by simp))
        clear hk6
        go_wp2_with fail
        go_ret
        exact ⟨rfl, HF.out⟩
      · cases c
        · cases t
          · skip
            have e8 : (b : Int) / 8 % 2 = 0 := by omega
            have e2 : (b : Int) / 2 % 2 = 1 := by omega
            have e16 : (b : Int) / 16 % 2 = 1 := by omega
            have HV : Hid (leadB b (false || false) = 7) := Lib.hid (by unfold leadB; simp [h8, h2, h16])
            rw [HV.out] at HB
            clear h8 h2 h16
            go_wp2_with fail
            refine (HB.out _ ((Keep.refl _ _).alloc _) _ (fun h => (by cases h))).mono ?_
            rintro e y5 ⟨rfl, hk5⟩
            have HK5 := Lib.hid (HK.out.trans (((Keep.refl [] wo).alloc _).trans hk5))
            clear hk5
            go_wp2_with fail
            refine (lworks_at _).mono ?_
            rintro e y6 ⟨rfl, hk6⟩
            have HF := Lib.hid (Keep.below (HK5.out.trans hk6) (Nat.le_refl _) (by simp))
            clear hk6
            go_wp2_with fail
            go_ret
            exact ⟨rfl, HF.out⟩
          · skip
            have e8 : (b : Int) / 8 % 2 = 0 := by omega
            have e2 : (b : Int) / 2 % 2 = 1 := by omega
            have e16 : (b : Int) / 16 % 2 = 1 := by omega
            have HV : Hid (leadB b (false || true) = 5) := Lib.hid (by unfold leadB; simp [h8, h2, h16])
            rw [HV.out] at HB
            clear h8 h2 h16
            go_wp2_with fail
            refine (HB.out _ ((Keep.refl _ _).alloc _) _ (fun h => (by cases h))).mono ?_
            rintro e y5 ⟨rfl, hk5⟩
            have HK5 := Lib.hid (HK.out.trans (((Keep.refl [] wo).alloc _).trans hk5))
            clear hk5
            go_wp2_with fail
            refine (lworks_at _).mono ?_
            rintro e y6 ⟨rfl, hk6⟩
            have HF := Lib.hid (Keep.below (HK5.out.trans hk6) (Nat.le_refl _) (by simp))
            clear hk6
            go_wp2_with fail
            go_ret
            exact ⟨rfl, HF.out⟩
        · skip
          have e8 : (b : Int) / 8 % 2 = 0 := by omega
          have e2 : (b : Int) / 2 % 2 = 1 := by omega
          have e16 : (b : Int) / 16 % 2 = 1 := by omega
          have HV : Hid (leadB b (true || t) = 5) := Lib.hid (by unfold leadB; simp [h8, h2, h16])
          rw [HV.out] at HB
          clear h8 h2 h16
          go_wp2_with fail
          refine (HB.out _ ((Keep.refl _ _).alloc _) _ (fun h => (by cases h))).mono ?_
          rintro e y5 ⟨rfl, hk5⟩
          have HK5 := Lib.hid (HK.out.trans (((Keep.refl [] wo).alloc _).trans hk5))
          clear hk5
          go_wp2_with fail
          refine (lworks_at _).mono ?_
          rintro e y6 ⟨rfl, hk6⟩
          have HF := Lib.hid (Keep.below (HK5.out.trans hk6) (Nat.le_refl _) (by simp))
          clear hk6
          go_wp2_with fail
          go_ret
          exact ⟨rfl, HF.out⟩
      · skip
        have e8 : (b : Int) / 8 % 2 = 1 := by omega
        have e2 : (b : Int) / 2 % 2 = 0 := by omega
        have HV : Hid (leadB b (c || t) = 13) := Lib.hid (by unfold leadB; simp [h8, h2])
        rw [HV.out] at HB
        clear h8 h2
        go_wp2_with fail
        refine (HB.out _ ((Keep.refl _ _).alloc _) _ (fun h => (by cases h))).mono ?_
        rintro e y5 ⟨rfl, hk5⟩
        have HK5 := Lib.hid (HK.out.trans (((Keep.refl [] wo).alloc _).trans hk5))
        clear hk5
        go_wp2_with fail
        refine (lworks_at _).mono ?_
        rintro e y6 ⟨rfl, hk6⟩
        have HF := Lib.hid (Keep.below (HK5.out.trans hk6) (Nat.le_refl _) (by simp))
        clear hk6
        go_wp2_with fail
        go_ret
        exact ⟨rfl, HF.out⟩
      · skip
        have e8 : (b : Int) / 8 % 2 = 1 := by omega
        have e2 : (b : Int) / 2 % 2 = 1 := by omega
        have e16 : (b : Int) / 16 % 2 = 0 := by omega
        have HV : Hid (leadB b (c || t) = 13) := Lib.hid (by unfold leadB; simp [h8, h2, h16])
        rw [HV.out] at HB
        clear h8 h2 h16
        go_wp2_with fail
        refine (HB.out _ ((Keep.refl _ _).alloc _) _ (fun h => (by cases h))).mono ?_
        rintro e y5 ⟨rfl, hk5⟩
        have HK5 := Lib.hid (HK.out.trans (((Keep.refl [] wo).alloc _).trans hk5))
        clear hk5
        go_wp2_with fail
        refine (lworks_at _).mono ?_
        rintro e y6 ⟨rfl, hk6⟩
        have HF := Lib.hid (Keep.below (HK5.out.trans hk6) (Nat.le_refl _) (by simp))
        clear hk6
        go_wp2_with fail
        go_ret
        exact ⟨rfl, HF.out⟩
      · cases c
        · cases t
          · skip
            have e8 : (b : Int) / 8 % 2 = 1 := by omega
            have e2 : (b : Int) / 2 % 2 = 1 := by omega
            have e16 : (b : Int) / 16 % 2 = 1 := by omega
            have HV : Hid (leadB b (false || false) = 15) := Lib.hid (by unfold leadB; simp [h8, h2, h16])
            rw [HV.out] at HB
            clear h8 h2 h16
            go_wp2_with fail
            refine (HB.out _ ((Keep.refl _ _).alloc _) _ (fun h => (by cases h))).mono ?_
            rintro e y5 ⟨rfl, hk5⟩
            have HK5 := Lib.hid (HK.out.trans (((Keep.refl [] wo).alloc _).trans hk5))
            clear hk5
            go_wp2_with fail
            refine (lworks_at _).mono ?_
            rintro e y6 ⟨rfl, hk6⟩
            have HF := Lib.hid (Keep.below (HK5.out.trans hk6) (Nat.le_refl _) (by simp))
            clear hk6
            go_wp2_with fail
            go_ret
            exact ⟨rfl, HF.out⟩
          · skip
            have e8 : (b : Int) / 8 % 2 = 1 := by omega
            have e2 : (b : Int) / 2 % 2 = 1 := by omega
            have e16 : (b : Int) / 16 % 2 = 1 := by omega
            have HV : Hid (leadB b (false || true) = 13) := Lib.hid (by unfold leadB; simp [h8, h2, h16])
            rw [HV.out] at HB
            clear h8 h2 h16
            go_wp2_with fail
            refine (HB.out _ ((Keep.refl _ _).alloc _) _ (fun h => (by cases h))).mono ?_
            rintro e y5 ⟨rfl, hk5⟩
            have HK5 := Lib.hid (HK.out.trans (((Keep.refl [] wo).alloc _).trans hk5))
            clear hk5
            go_wp2_with fail
            refine (lworks_at _).mono ?_
            rintro e y6 ⟨rfl, hk6⟩
            have HF := Lib.hid (Keep.below (HK5.out.trans hk6) (Nat.le_refl _) (by simp))
            clear hk6
            go_wp2_with fail
            go_ret
            exact ⟨rfl, HF.out⟩
        · skip
          have e8 : (b : Int) / 8 % 2 = 1 := by omega
          have e2 : (b : Int) / 2 % 2 = 1 := by omega
          have e16 : (b : Int) / 16 % 2 = 1 := by omega
          have HV : Hid (leadB b (true || t) = 13) := Lib.hid (by unfold leadB; simp [h8, h2, h16])
          rw [HV.out] at HB
          clear h8 h2 h16
          go_wp2_with fail
          refine (HB.out _ ((Keep.refl _ _).alloc _) _ (fun h => (by cases h))).mono ?_
          rintro e y5 ⟨rfl, hk5⟩
          have HK5 := Lib.hid (HK.out.trans (((Keep.refl [] wo).alloc _).trans hk5))
          clear hk5
          go_wp2_with fail
          refine (lworks_at _).mono ?_
          rintro e y6 ⟨rfl, hk6⟩
          have HF := Lib.hid (Keep.below (HK5.out.trans hk6) (Nat.le_refl _) (by simp))
          clear hk6
          go_wp2_with fail
          go_ret
          exact ⟨rfl, HF.out⟩
      · skip
        have e8 : (b : Int) / 8 % 2 = 0 := by omega
        have e2 : (b : Int) / 2 % 2 = 0 := by omega
        have HV : Hid (leadB b (c || t) = 5) := Lib.hid (by unfold leadB; simp [h8, h2])
        rw [HV.out] at HB
        clear h8 h2
        go_wp2_with fail
        refine (HB.out _ ((Keep.refl _ _).alloc _) _ (fun _ => rfl)).mono ?_
        rintro e y5 ⟨rfl, hk5⟩
        have HK5 := Lib.hid (HK.out.trans (((Keep.refl [] wo).alloc _).trans hk5))
        clear hk5
        go_wp2_with fail
        refine (lworks_at _).mono ?_
        rintro e y6 ⟨rfl, hk6⟩
        have HF := Lib.hid (Keep.below (HK5.out.trans hk6) (Nat.le_refl _) (by simp))
        clear hk6
        go_wp2_with fail
        go_ret
        exact ⟨rfl, HF.out⟩
      · skip
        have e8 : (b : Int) / 8 % 2 = 0 := by omega
        have e2 : (b : Int) / 2 % 2 = 1 := by omega
        have e16 : (b : Int) / 16 % 2 = 0 := by omega
        have HV : Hid (leadB b (c || t) = 5) := Lib.hid (by unfold leadB; simp [h8, h2, h16])
        rw [HV.out] at HB
        clear h8 h2 h16
        go_wp2_with fail
        refine (HB.out _ ((Keep.refl _ _).alloc _) _ (fun _ => rfl)).mono ?_
        rintro e y5 ⟨rfl, hk5⟩
        have HK5 := Lib.hid (HK.out.trans (((Keep.refl [] wo).alloc _).trans hk5))
        clear hk5
        go_wp2_with fail
        refine (lworks_at _).mono ?_
        rintro e y6 ⟨rfl, hk6⟩
        have HF := Lib.hid (Keep.below (HK5.out.trans hk6) (Nat.le_refl _) (by simp))
        clear hk6
        go_wp2_with fail
        go_ret
        exact ⟨rfl, HF.out⟩
      · cases c
        · cases t
          · skip
            have e8 : (b : Int) / 8 % 2 = 0 := by omega
            have e2 : (b : Int) / 2 % 2 = 1 := by omega
            have e16 : (b : Int) / 16 % 2 = 1 := by omega
            have HV : Hid (leadB b (false || false) = 7) := Lib.hid (by unfold leadB; simp [h8, h2, h16])
            rw [HV.out] at HB
            clear h8 h2 h16
            go_wp2_with fail
            refine (HB.out _ ((Keep.refl _ _).alloc _) _ (fun _ => rfl)).mono ?_
            rintro e y5 ⟨rfl, hk5⟩
            have HK5 := Lib.hid (HK.out.trans (((Keep.refl [] wo).alloc _).trans hk5))
            clear hk5
            go_wp2_with fail
            refine (lworks_at _).mono ?_
            rintro e y6 ⟨rfl, hk6⟩
            have HF := Lib.hid (Keep.below (HK5.out.trans hk6) (Nat.le_refl _) (by simp))
            clear hk6
            go_wp2_with fail
            go_ret
            exact ⟨rfl, HF.out⟩
          · skip
            have e8 : (b : Int) / 8 % 2 = 0 := by omega
            have e2 : (b : Int) / 2 % 2 = 1 := by omega
            have e16 : (b : Int) / 16 % 2 = 1 := by omega
            have HV : Hid (leadB b (false || true) = 5) := Lib.hid (by unfold leadB; simp [h8, h2, h16])
            rw [HV.out] at HB
            clear h8 h2 h16
            go_wp2_with fail
            refine (HB.out _ ((Keep.refl _ _).alloc _) _ (fun _ => rfl)).mono ?_
            rintro e y5 ⟨rfl, hk5⟩
            have HK5 := Lib.hid (HK.out.trans (((Keep.refl [] wo).alloc _).trans hk5))
            clear hk5
            go_wp2_with fail
            refine (lworks_at _).mono ?_
            rintro e y6 ⟨rfl, hk6⟩
            have HF := Lib.hid (Keep.below (HK5.out.trans hk6) (Nat.le_refl _) (by simp))
            clear hk6
            go_wp2_with fail
            go_ret
            exact ⟨rfl, HF.out⟩
        · skip
          have e8 : (b : Int) / 8 % 2 = 0 := by omega
          have e2 : (b : Int) / 2 % 2 = 1 := by omega
          have e16 : (b : Int) / 16 % 2 = 1 := by omega
          have HV : Hid (leadB b (true || t) = 5) := Lib.hid (by unfold leadB; simp [h8, h2, h16])
          rw [HV.out] at HB
          clear h8 h2 h16
          go_wp2_with fail
          refine (HB.out _ ((Keep.refl _ _).alloc _) _ (fun _ => rfl)).mono ?_
          rintro e y5 ⟨rfl, hk5⟩
          have HK5 := Lib.hid (HK.out.trans (((Keep.refl [] wo).alloc _).trans hk5))
          clear hk5
          go_wp2_with fail
          refine (lworks_at _).mono ?_
          rintro e y6 ⟨rfl, hk6⟩
          have HF := Lib.hid (Keep.below (HK5.out.trans hk6) (Nat.le_refl _) (by simp))
          clear hk6
          go_wp2_with fail
          go_ret
          exact ⟨rfl, HF.out⟩
      · skip
        have e8 : (b : Int) / 8 % 2 = 1 := by omega
        have e2 : (b : Int) / 2 % 2 = 0 := by omega
        have HV : Hid (leadB b (c || t) = 13) := Lib.hid (by unfold leadB; simp [h8, h2])
        rw [HV.out] at HB
        clear h8 h2
        go_wp2_with fail
        refine (HB.out _ ((Keep.refl _ _).alloc _) _ (fun _ => rfl)).mono ?_
        rintro e y5 ⟨rfl, hk5⟩
        have HK5 := Lib.hid (HK.out.trans (((Keep.refl [] wo).alloc _).trans hk5))
        clear hk5
        go_wp2_with fail
        refine (lworks_at _).mono ?_
        rintro e y6 ⟨rfl, hk6⟩
        have HF := Lib.hid (Keep.below (HK5.out.trans hk6) (Nat.le_refl _) (by simp))
        clear hk6
        go_wp2_with fail
        go_ret
        exact ⟨rfl, HF.out⟩
      · skip
        have e8 : (b : Int) / 8 % 2 = 1 := by omega
        have e2 : (b : Int) / 2 % 2 = 1 := by omega
        have e16 : (b : Int) / 16 % 2 = 0 := by omega
        have HV : Hid (leadB b (c || t) = 13) := Lib.hid (by unfold leadB; simp [h8, h2, h16])
        rw [HV.out] at HB
        clear h8 h2 h16
        go_wp2_with fail
        refine (HB.out _ ((Keep.refl _ _).alloc _) _ (fun _ => rfl)).mono ?_
        rintro e y5 ⟨rfl, hk5⟩
        have HK5 := Lib.hid (HK.out.trans (((Keep.refl [] wo).alloc _).trans hk5))
        clear hk5
        go_wp2_with fail
        refine (lworks_at _).mono ?_
        rintro e y6 ⟨rfl, hk6⟩
        have HF := Lib.hid (Keep.below (HK5.out.trans hk6) (Nat.le_refl _) (by simp))
        clear hk6
        go_wp2_with fail
        go_ret
        exact ⟨rfl, HF.out⟩
      · cases c
        · cases t
          · skip
            have e8 : (b : Int) / 8 % 2 = 1 := by omega
            have e2 : (b : Int) / 2 % 2 = 1 := by omega
            have e16 : (b : Int) / 16 % 2 = 1 := by omega
            have HV : Hid (leadB b (false || false) = 15) := Lib.hid (by unfold leadB; simp [h8, h2, h16])
            rw [HV.out] at HB
            clear h8 h2 h16
            go_wp2_with fail
            refine (HB.out _ ((Keep.refl _ _).alloc _) _ (fun _ => rfl)).mono ?_
            rintro e y5 ⟨rfl, hk5⟩
            have HK5 := Lib.hid (HK.out.trans (((Keep.refl [] wo).alloc _).trans hk5))
            clear hk5
            go_wp2_with fail
            refine (lworks_at _).mono ?_
            rintro e y6 ⟨rfl, hk6⟩
            have HF := Lib.hid (Keep.below (HK5.out.trans hk6) (Nat.le_refl _) (by simp))
            clear hk6
            go_wp2_with fail
            go_ret
            exact ⟨rfl, HF.out⟩
          · skip
            have e8 : (b : Int) / 8 % 2 = 1 := by omega
            have e2 : (b : Int) / 2 % 2 = 1 := by omega
            have e16 : (b : Int) / 16 % 2 = 1 := by omega
            have HV : Hid (leadB b (false || true) = 13) := Lib.hid (by unfold leadB; simp [h8, h2, h16])
            rw [HV.out] at HB
            clear h8 h2 h16
            go_wp2_with fail
            refine (HB.out _ ((Keep.refl _ _).alloc _) _ (fun _ => rfl)).mono ?_
            rintro e y5 ⟨rfl, hk5⟩
            have HK5 := Lib.hid (HK.out.trans (((Keep.refl [] wo).alloc _).trans hk5))
            clear hk5
            go_wp2_with fail
            refine (lworks_at _).mono ?_
            rintro e y6 ⟨rfl, hk6⟩
            have HF := Lib.hid (Keep.below (HK5.out.trans hk6) (Nat.le_refl _) (by simp))
            clear hk6
            go_wp2_with fail
            go_ret
            exact ⟨rfl, HF.out⟩
        · skip
          have e8 : (b : Int) / 8 % 2 = 1 := by omega
          have e2 : (b : Int) / 2 % 2 = 1 := by omega
          have e16 : (b : Int) / 16 % 2 = 1 := by omega
          have HV : Hid (leadB b (true || t) = 13) := Lib.hid (by unfold leadB; simp [h8, h2, h16])
          rw [HV.out] at HB
          clear h8 h2 h16
          go_wp2_with fail
          refine (HB.out _ ((Keep.refl _ _).alloc _) _ (fun _ => rfl)).mono ?_
          rintro e y5 ⟨rfl, hk5⟩
          have HK5 := Lib.hid (HK.out.trans (((Keep.refl [] wo).alloc _).trans hk5))
          clear hk5
          go_wp2_with fail
          refine (lworks_at _).mono ?_
          rintro e y6 ⟨rfl, hk6⟩
          have HF := Lib.hid (Keep.below (HK5.out.trans hk6) (Nat.le_refl _) (by simp))
          clear hk6
          go_wp2_with fail
          go_ret
          exact ⟨rfl, HF.out⟩
      · skip
        have e8 : (b : Int) / 8 % 2 = 0 := by omega
        have e2 : (b : Int) / 2 % 2 = 0 := by omega
        have HV : Hid (leadB b (c || t) = 5) := Lib.hid (by unfold leadB; simp [h8, h2])
        rw [HV.out] at HB
        clear h8 h2
        go_wp2_with fail
        refine (HB.out _ ((Keep.refl _ _).alloc _) _ (fun h => (by cases h))).mono ?_
        rintro e y5 ⟨rfl, hk5⟩
        have HK5 := Lib.hid (HK.out.trans (((Keep.refl [] wo).alloc _).trans hk5))
        clear hk5
        go_wp2_with fail
        refine (lworks_at _).mono ?_
        rintro e y6 ⟨rfl, hk6⟩
        have HF := Lib.hid (Keep.below (HK5.out.trans hk6) (Nat.le_refl _) (by simp))
        clear hk6
        go_wp2_with fail
        go_ret
        exact ⟨rfl, HF.out⟩
      · skip
        have e8 : (b : Int) / 8 % 2 = 0 := by omega
        have e2 : (b : Int) / 2 % 2 = 1 := by omega
        have e16 : (b : Int) / 16 % 2 = 0 := by omega
        have HV : Hid (leadB b (c || t) = 5) := Lib.hid (by unfold leadB; simp [h8, h2, h16])
        rw [HV.out] at HB
        clear h8 h2 h16
        go_wp2_with fail
        refine (HB.out _ ((Keep.refl _ _).alloc _) _ (fun h => (by cases h))).mono ?_
        rintro e y5 ⟨rfl, hk5⟩
        have HK5 := Lib.hid (HK.out.trans (((Keep.refl [] wo).alloc _).trans hk5))
        clear hk5
        go_wp2_with fail
        refine (lworks_at _).mono ?_
        rintro e y6 ⟨rfl, hk6⟩
        have HF := Lib.hid (Keep.below (HK5.out.trans hk6) (Nat.le_refl _) (by simp))
        clear hk6
        go_wp2_with fail
        go_ret
        exact ⟨rfl, HF.out⟩
      · cases c
        · cases t
          · skip
            have e8 : (b : Int) / 8 % 2 = 0 := by omega
            have e2 : (b : Int) / 2 % 2 = 1 := by omega
            have e16 : (b : Int) / 16 % 2 = 1 := by omega
            have HV : Hid (leadB b (false || false) = 7) := Lib.hid (by unfold leadB; simp [h8, h2, h16])
            rw [HV.out] at HB
            clear h8 h2 h16
            go_wp2_with fail
            refine (HB.out _ ((Keep.refl _ _).alloc _) _ (fun h => (by cases h))).mono ?_
            rintro e y5 ⟨rfl, hk5⟩
            have HK5 := Lib.hid (HK.out.trans (((Keep.refl [] wo).alloc _).trans hk5))
            clear hk5
            go_wp2_with fail
            refine (lworks_at _).mono ?_
            rintro e y6 ⟨rfl, hk6⟩
            have HF := Lib.hid (Keep.below (HK5.out.trans hk6) (Nat.le_refl _) (by simp))
            clear hk6
            go_wp2_with fail
            go_ret
            exact ⟨rfl, HF.out⟩
          · skip
            have e8 : (b : Int) / 8 % 2 = 0 := by omega
            have e2 : (b : Int) / 2 % 2 = 1 := by omega
            have e16 : (b : Int) / 16 % 2 = 1 := by omega
            have HV : Hid (leadB b (false || true) = 5) := Lib.hid (by unfold leadB; simp [h8, h2, h16])
            rw [HV.out] at HB
            clear h8 h2 h16
            go_wp2_with fail
            refine (HB.out _ ((Keep.refl _ _).alloc _) _ (fun h => (by cases h))).mono ?_
            rintro e y5 ⟨rfl, hk5⟩
            have HK5 := Lib.hid (HK.out.trans (((Keep.refl [] wo).alloc _).trans hk5))
            clear hk5
            go_wp2_with fail
            refine (lworks_at _).mono ?_
            rintro e y6 ⟨rfl, hk6⟩
            have HF := Lib.hid (Keep.below (HK5.out.trans hk6) (Nat.le_refl _) (by simp))
            clear hk6
            go_wp2_with fail
            go_ret
            exact ⟨rfl, HF.out⟩
        · skip
          have e8 : (b : Int) / 8 % 2 = 0 := by omega
          have e2 : (b : Int) / 2 % 2 = 1 := by omega
          have e16 : (b : Int) / 16 % 2 = 1 := by omega
          have HV : Hid (leadB b (true || t) = 5) := Lib.hid (by unfold leadB; simp [h8, h2, h16])
          rw [HV.out] at HB
          clear h8 h2 h16
          go_wp2_with fail
          refine (HB.out _ ((Keep.refl _ _).alloc _) _ (fun h => (by cases h))).mono ?_
          rintro e y5 ⟨rfl, hk5⟩
          have HK5 := Lib.hid (HK.out.trans (((Keep.refl [] wo).alloc _).trans hk5))
          clear hk5
          go_wp2_with fail
          refine (lworks_at _).mono ?_
          rintro e y6 ⟨rfl, hk6⟩
          have HF := Lib.hid (Keep.below (HK5.out.trans hk6) (Nat.le_refl _) (by simp))
          clear hk6
          go_wp2_with fail
          go_ret
          exact ⟨rfl, HF.out⟩
      · skip
        have e8 : (b : Int) / 8 % 2 = 1 := by omega
        have e2 : (b : Int) / 2 % 2 = 0 := by omega
        have HV : Hid (leadB b (c || t) = 13) := Lib.hid (by unfold leadB; simp [h8, h2])
        rw [HV.out] at HB
        clear h8 h2
        go_wp2_with fail
        refine (HB.out _ ((Keep.refl _ _).alloc _) _ (fun h => (by cases h))).mono ?_
        rintro e y5 ⟨rfl, hk5⟩
        have HK5 := Lib.hid (HK.out.trans (((Keep.refl [] wo).alloc _).trans hk5))
        clear hk5
        go_wp2_with fail
        refine (lworks_at _).mono ?_
        rintro e y6 ⟨rfl, hk6⟩
        have HF := Lib.hid (Keep.below (HK5.out.trans hk6) (Nat.le_refl _) (by simp))
        clear hk6
        go_wp2_with fail
        go_ret
        exact ⟨rfl, HF.out⟩
      · skip
        have e8 : (b : Int) / 8 % 2 = 1 := by omega
        have e2 : (b : Int) / 2 % 2 = 1 := by omega
        have e16 : (b : Int) / 16 % 2 = 0 := by omega
        have HV : Hid (leadB b (c || t) = 13) := Lib.hid (by unfold leadB; simp [h8, h2, h16])
        rw [HV.out] at HB
        clear h8 h2 h16
        go_wp2_with fail
        refine (HB.out _ ((Keep.refl _ _).alloc _) _ (fun h => (by cases h))).mono ?_
        rintro e y5 ⟨rfl, hk5⟩
        have HK5 := Lib.hid (HK.out.trans (((Keep.refl [] wo).alloc _).trans hk5))
        clear hk5
        go_wp2_with fail
        refine (lworks_at _).mono ?_
        rintro e y6 ⟨rfl, hk6⟩
        have HF := Lib.hid (Keep.below (HK5.out.trans hk6) (Nat.le_refl _) (by simp))
        clear hk6
        go_wp2_with fail
        go_ret
        exact ⟨rfl, HF.out⟩
      · cases c
        · cases t
          · skip
            have e8 : (b : Int) / 8 % 2 = 1 := by omega
            have e2 : (b : Int) / 2 % 2 = 1 := by omega
            have e16 : (b : Int) / 16 % 2 = 1 := by omega
            have HV : Hid (leadB b (false || false) = 15) := Lib.hid (by unfold leadB; simp [h8, h2, h16])
            rw [HV.out] at HB
            clear h8 h2 h16
            go_wp2_with fail
            refine (HB.out _ ((Keep.refl _ _).alloc _) _ (fun h => (by cases h))).mono ?_
            rintro e y5 ⟨rfl, hk5⟩
            have HK5 := Lib.hid (HK.out.trans (((Keep.refl [] wo).alloc _).trans hk5))
            clear hk5
            go_wp2_with fail
            refine (lworks_at _).mono ?_
            rintro e y6 ⟨rfl, hk6⟩
            have HF := Lib.hid (Keep.below (HK5.out.trans hk6) (Nat.le_refl _) (by simp))
            clear hk6
            go_wp2_with fail
            go_ret
            exact ⟨rfl, HF.out⟩
          · skip
            have e8 : (b : Int) / 8 % 2 = 1 := by omega
            have e2 : (b : Int) / 2 % 2 = 1 := by omega
            have e16 : (b : Int) / 16 % 2 = 1 := by omega
            have HV : Hid (leadB b (false || true) = 13) := Lib.hid (by unfold leadB; simp [h8, h2, h16])
            rw [HV.out] at HB
            clear h8 h2 h16
            go_wp2_with fail
            refine (HB.out _ ((Keep.refl _ _).alloc _) _ (fun h => (by cases h))).mono ?_
            rintro e y5 ⟨rfl, hk5⟩
            have HK5 := Lib.hid (HK.out.trans (((Keep.refl [] wo).alloc _).trans hk5))
            clear hk5
            go_wp2_with fail
            refine (lworks_at _).mono ?_
            rintro e y6 ⟨rfl, hk6⟩
            have HF := Lib.hid (Keep.below (HK5.out.trans hk6) (Nat.le_refl _) (by simp))
            clear hk6
            go_wp2_with fail
            go_ret
            exact ⟨rfl, HF.out⟩
        · skip
          have e8 : (b : Int) / 8 % 2 = 1 := by omega
          have e2 : (b : Int) / 2 % 2 = 1 := by omega
          have e16 : (b : Int) / 16 % 2 = 1 := by omega
          have HV : Hid (leadB b (true || t) = 13) := Lib.hid (by unfold leadB; simp [h8, h2, h16])
          rw [HV.out] at HB
          clear h8 h2 h16
          go_wp2_with fail
          refine (HB.out _ ((Keep.refl _ _).alloc _) _ (fun h => (by cases h))).mono ?_
          rintro e y5 ⟨rfl, hk5⟩
          have HK5 := Lib.hid (HK.out.trans (((Keep.refl [] wo).alloc _).trans hk5))
          clear hk5
          go_wp2_with fail
          refine (lworks_at _).mono ?_
          rintro e y6 ⟨rfl, hk6⟩
          have HF := Lib.hid (Keep.below (HK5.out.trans hk6) (Nat.le_refl _) (by simp))
          clear hk6
          go_wp2_with fail
          go_ret
          exact ⟨rfl, HF.out⟩
      · skip
        have e8 : (b : Int) / 8 % 2 = 0 := by omega
        have e2 : (b : Int) / 2 % 2 = 0 := by omega
        have HV : Hid (leadB b (c || t) = 5) := Lib.hid (by unfold leadB; simp [h8, h2])
        rw [HV.out] at HB
        clear h8 h2
        go_wp2_with fail
        refine (HB.out _ ((Keep.refl _ _).alloc _) _ (fun _ => rfl)).mono ?_
        rintro e y5 ⟨rfl, hk5⟩
        have HK5 := Lib.hid (HK.out.trans (((Keep.refl [] wo).alloc _).trans hk5))
        clear hk5
        go_wp2_with fail
        refine (lworks_at _).mono ?_
        rintro e y6 ⟨rfl, hk6⟩
        have HF := Lib.hid (Keep.below (HK5.out.trans hk6) (Nat.le_refl _) (by simp))
        clear hk6
        go_wp2_with fail
        go_ret
        exact ⟨rfl, HF.out⟩
      · skip
        have e8 : (b : Int) / 8 % 2 = 0 := by omega
        have e2 : (b : Int) / 2 % 2 = 1 := by omega
        have e16 : (b : Int) / 16 % 2 = 0 := by omega
        have HV : Hid (leadB b (c || t) = 5) := Lib.hid (by unfold leadB; simp [h8, h2, h16])
        rw [HV.out] at HB
        clear h8 h2 h16
        go_wp2_with fail
        refine (HB.out _ ((Keep.refl _ _).alloc _) _ (fun _ => rfl)).mono ?_
        rintro e y5 ⟨rfl, hk5⟩
        have HK5 := Lib.hid (HK.out.trans (((Keep.refl [] wo).alloc _).trans hk5))
        clear hk5
        go_wp2_with fail
        refine (lworks_at _).mono ?_
        rintro e y6 ⟨rfl, hk6⟩
        have HF := Lib.hid (Keep.below (HK5.out.trans hk6) (Nat.le_refl _) (by simp))
        clear hk6
        go_wp2_with fail
        go_ret
        exact ⟨rfl, HF.out⟩
      · cases c
        · cases t
          · skip
            have e8 : (b : Int) / 8 % 2 = 0 := by omega
            have e2 : (b : Int) / 2 % 2 = 1 := by omega
            have e16 : (b : Int) / 16 % 2 = 1 := by omega
            have HV : Hid (leadB b (false || false) = 7) := Lib.hid (by unfold leadB; simp [h8, h2, h16])
            rw [HV.out] at HB
            clear h8 h2 h16
            go_wp2_with fail
            refine (HB.out _ ((Keep.refl _ _).alloc _) _ (fun _ => rfl)).mono ?_
            rintro e y5 ⟨rfl, hk5⟩
            have HK5 := Lib.hid (HK.out.trans (((Keep.refl [] wo).alloc _).trans hk5))
            clear hk5
            go_wp2_with fail
            refine (lworks_at _).mono ?_
            rintro e y6 ⟨rfl, hk6⟩
            have HF := Lib.hid (Keep.below (HK5.out.trans hk6) (Nat.le_refl _) (by simp))
            clear hk6
            go_wp2_with fail
            go_ret
            exact ⟨rfl, HF.out⟩
          · skip
            have e8 : (b : Int) / 8 % 2 = 0 := by omega
            have e2 : (b : Int) / 2 % 2 = 1 := by omega
            have e16 : (b : Int) / 16 % 2 = 1 := by omega
            have HV : Hid (leadB b (false || true) = 5) := Lib.hid (by unfold leadB; simp [h8, h2, h16])
            rw [HV.out] at HB
            clear h8 h2 h16
            go_wp2_with fail
            refine (HB.out _ ((Keep.refl _ _).alloc _) _ (fun _ => rfl)).mono ?_
            rintro e y5 ⟨rfl, hk5⟩
            have HK5 := Lib.hid (HK.out.trans (((Keep.refl [] wo).alloc _).trans hk5))
            clear hk5
            go_wp2_with fail
            refine (lworks_at _).mono ?_
            rintro e y6 ⟨rfl, hk6⟩
            have HF := Lib.hid (Keep.below (HK5.out.trans hk6) (Nat.le_refl _) (by simp))
            clear hk6
            go_wp2_with fail
            go_ret
            exact ⟨rfl, HF.out⟩
        · skip
          have e8 : (b : Int) / 8 % 2 = 0 := by omega
          have e2 : (b : Int) / 2 % 2 = 1 := by omega
          have e16 : (b : Int) / 16 % 2 = 1 := by omega
          have HV : Hid (leadB b (true || t) = 5) := Lib.hid (by unfold leadB; simp [h8, h2, h16])
          rw [HV.out] at HB
          clear h8 h2 h16
          go_wp2_with fail
          refine (HB.out _ ((Keep.refl _ _).alloc _) _ (fun _ => rfl)).mono ?_
          rintro e y5 ⟨rfl, hk5⟩
          have HK5 := Lib.hid (HK.out.trans (((Keep.refl [] wo).alloc _).trans hk5))
          clear hk5
          go_wp2_with fail
          refine (lworks_at _).mono ?_
          rintro e y6 ⟨rfl, hk6⟩
          have HF := Lib.hid (Keep.below (HK5.out.trans hk6) (Nat.le_refl _) (by simp))
          clear hk6
          go_wp2_with fail
          go_ret
          exact ⟨rfl, HF.out⟩
      · skip
        have e8 : (b : Int) / 8 % 2 = 1 := by omega
        have e2 : (b : Int) / 2 % 2 = 0 := by omega
        have HV : Hid (leadB b (c || t) = 13) := Lib.hid (by unfold leadB; simp [h8, h2])
        rw [HV.out] at HB
        clear h8 h2
        go_wp2_with fail
        refine (HB.out _ ((Keep.refl _ _).alloc _) _ (fun _ => rfl)).mono ?_
        rintro e y5 ⟨rfl, hk5⟩
        have HK5 := Lib.hid (HK.out.trans (((Keep.refl [] wo).alloc _).trans hk5))
        clear hk5
        go_wp2_with fail
        refine (lworks_at _).mono ?_
        rintro e y6 ⟨rfl, hk6⟩
        have HF := Lib.hid (Keep.below (HK5.out.trans hk6) (Nat.le_refl _) (by simp))
        clear hk6
        go_wp2_with fail
        go_ret
        exact ⟨rfl, HF.out⟩
      · skip
        have e8 : (b : Int) / 8 % 2 = 1 := by omega
        have e2 : (b : Int) / 2 % 2 = 1 := by omega
        have e16 : (b : Int) / 16 % 2 = 0 := by omega
        have HV : Hid (leadB b (c || t) = 13) := Lib.hid (by unfold leadB; simp [h8, h2, h16])
        rw [HV.out] at HB
        clear h8 h2 h16
        go_wp2_with fail
        refine (HB.out _ ((Keep.refl _ _).alloc _) _ (fun _ => rfl)).mono ?_
        rintro e y5 ⟨rfl, hk5⟩
        have HK5 := Lib.hid (HK.out.trans (((Keep.refl [] wo).alloc _).trans hk5))
        clear hk5
        go_wp2_with fail
        refine (lworks_at _).mono ?_
        rintro e y6 ⟨rfl, hk6⟩
        have HF := Lib.hid (Keep.below (HK5.out.trans hk6) (Nat.le_refl _) (by simp))
        clear hk6
        go_wp2_with fail
        go_ret
        exact ⟨rfl, HF.out⟩
      · cases c
        · cases t
          · skip
            have e8 : (b : Int) / 8 % 2 = 1 := by omega
            have e2 : (b : Int) / 2 % 2 = 1 := by omega
            have e16 : (b : Int) / 16 % 2 = 1 := by omega
            have HV : Hid (leadB b (false || false) = 15) := Lib.hid (by unfold leadB; simp [h8, h2, h16])
            rw [HV.out] at HB
            clear h8 h2 h16
            go_wp2_with fail
            refine (HB.out _ ((Keep.refl _ _).alloc _) _ (fun _ => rfl)).mono ?_
            rintro e y5 ⟨rfl, hk5⟩
            have HK5 := Lib.hid (HK.out.trans (((Keep.refl [] wo).alloc _).trans hk5))
            clear hk5
            go_wp2_with fail
            refine (lworks_at _).mono ?_
            rintro e y6 ⟨rfl, hk6⟩
            have HF := Lib.hid (Keep.below (HK5.out.trans hk6) (Nat.le_refl _) (by simp))
            clear hk6
            go_wp2_with fail
            go_ret
            exact ⟨rfl, HF.out⟩
          · skip
            have e8 : (b : Int) / 8 % 2 = 1 := by omega
            have e2 : (b : Int) / 2 % 2 = 1 := by omega
            have e16 : (b : Int) / 16 % 2 = 1 := by omega
            have HV : Hid (leadB b (false || true) = 13) := Lib.hid (by unfold leadB; simp [h8, h2, h16])
            rw [HV.out] at HB
            clear h8 h2 h16
            go_wp2_with fail
            refine (HB.out _ ((Keep.refl _ _).alloc _) _ (fun _ => rfl)).mono ?_
            rintro e y5 ⟨rfl, hk5⟩
            have HK5 := Lib.hid (HK.out.trans (((Keep.refl [] wo).alloc _).trans hk5))
            clear hk5
            go_wp2_with fail
            refine (lworks_at _).mono ?_
            rintro e y6 ⟨rfl, hk6⟩
            have HF := Lib.hid (Keep.below (HK5.out.trans hk6) (Nat.le_refl _) (by simp))
            clear hk6
            go_wp2_with fail
            go_ret
            exact ⟨rfl, HF.out⟩
        · skip
          have e8 : (b : Int) / 8 % 2 = 1 := by omega
          have e2 : (b : Int) / 2 % 2 = 1 := by omega
          have e16 : (b : Int) / 16 % 2 = 1 := by omega
          have HV : Hid (leadB b (true || t) = 13) := Lib.hid (by unfold leadB; simp [h8, h2, h16])
          rw [HV.out] at HB
          clear h8 h2 h16
          go_wp2_with fail
          refine (HB.out _ ((Keep.refl _ _).alloc _) _ (fun _ => rfl)).mono ?_
          rintro e y5 ⟨rfl, hk5⟩
          have HK5 := Lib.hid (HK.out.trans (((Keep.refl [] wo).alloc _).trans hk5))
          clear hk5
          go_wp2_with fail
          refine (lworks_at _).mono ?_
          rintro e y6 ⟨rfl, hk6⟩
          have HF := Lib.hid (Keep.below (HK5.out.trans hk6) (Nat.le_refl _) (by simp))
          clear hk6
          go_wp2_with fail
          go_ret
          exact ⟨rfl, HF.out⟩
end Go.Proofs.Ytnpnedimgfbnhaa
