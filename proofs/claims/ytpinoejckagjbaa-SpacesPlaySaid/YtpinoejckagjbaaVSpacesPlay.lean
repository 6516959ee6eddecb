/- The law SpacesPlay, walked. -/
import Derived.BigQuiet
import Derived.Outline
import Derived.Test.YtpinoejckagjbaaVSpI
namespace Go.Proofs.Ytpinoejckagjbaa
open Go.RowKit Go.Mum
set_option linter.unusedVariables false
set_option linter.unusedSimpArgs false
set_option maxRecDepth 100000

theorem keyV_get (R : RSt) : ∀ (l : List Nat) (j : Nat) (hj : j < l.length) (i : Nat), i < 2 → (l.flatMap (keyV R))[j * 2 + i]? = (keyV R l[j])[i]?
  | a :: l, 0, _, i, hi => by
    show (keyV R a ++ l.flatMap (keyV R))[0 * 2 + i]? = _
    rw [List.getElem?_append_left (by simp [keyV]; omega)]
    simp
  | a :: l, j + 1, hj, i, hi => by
    show (keyV R a ++ l.flatMap (keyV R))[(j + 1) * 2 + i]? = _
    rw [List.getElem?_append_right (by simp [keyV]; omega), show (j + 1) * 2 + i - (keyV R a).length = j * 2 + i by simp [keyV]; omega]
    exact keyV_get R l j (by simpa using hj) i hi

set_option maxHeartbeats 8000000 in
theorem SpacesPlay_walk (a0 : Int) (a1 : Int) (s2 : Option Addr) (len2 cap2 n2 : Nat) (w : World) (w0 : (Lit.int .u8 a0).wf = true) (w1 : (Lit.int .u8 a1).wf = true) (w2 : Fits Try.prog w maxLen n2 87 [.slice s2 len2 cap2]) :
    Calls Try.prog 9 #[.int .u8 a0, .int .u8 a1, .slice s2 len2 cap2] w fun e w' => e = .returned (.bool true) ∧ Below w.heap.size w w' := by
  have HS := Lib.hid (steps25 w2)
  have b0 := wf_u8 w0
  have b1 := wf_u8 w1
  obtain ⟨nn, rfl⟩ : ∃ m : Nat, a0 = (m : Int) := ⟨a0.toNat, by omega⟩
  obtain ⟨mo, rfl⟩ : ∃ m : Nat, a1 = (m : Int) := ⟨a1.toNat, by omega⟩
  have hnn : nn < 256 := by omega
  have hmo : mo < 256 := by omega
  obtain ⟨ns, hns⟩ : ∃ m, m = 1 + nn % 8 := ⟨_, rfl⟩
  obtain ⟨most, hmost⟩ : ∃ m, m = mo % 10 := ⟨_, rfl⟩
  clear w0 w1 w2 b0 b1
  go_enter Try.func9, Try.ntmps9
  go_wp2_with fail
  refine (spmade_at nn mo hnn hmo w).mono ?_
  rw [← hns, ← hmost]
  rintro e y ⟨B, q, r, fb, g, p, pm, rb, sh, ga, gc, ea, ec, rfl, hH, hk⟩
  have H1 : Hid (DB y w.heap.size B q r fb g p pm most ns rb sh ga gc ea ec (fun _ _ => tab0) (fun _ => false) A0 (List.range ns) false 0 0 0 R0 ∧ KeepUp w.heap.size w y) := Lib.hid ⟨⟨hH, agM_start _ _ (fun _ => rfl) _, fun k => neK0⟩, Keep.upTo hk (by simp)⟩
  clear hH hk hns hmost hnn hmo
  go_wp2_with fail
  go_loopw [11, 12, 13, 14, 15] (fun av bv kv cv dv wr => ∃ (ke lo k : Nat) (c d : Value), av = .int .i64 ke ∧ bv = .int .i64 lo ∧ kv = .int .i64 k ∧ cv = c ∧ dv = d ∧ k ≤ len2 ∧ k ≤ 60 ∧ ke + lo ≤ k ∧ Hid ((∃ T up A age use R, DB wr w.heap.size B q r fb g p pm most ns rb sh ga gc ea ec T up A age use ke lo (2 * k) R) ∧ KeepUp w.heap.size w wr)) (fun _ _ kv _ _ _ => 60 - (intOf kv).toNat)
  case atStart => exact ⟨0, 0, 0, _, _, rfl, rfl, rfl, rfl, rfl, by omega, by omega, by omega, Lib.hid ⟨⟨_, _, _, _, _, _, H1.out.1⟩, H1.out.2⟩⟩
  case round =>
    clear H1
    obtain ⟨ke, lo, k, c, d, rfl, rfl, rfl, rfl, rfl, hk1, hk2, hkl, HJ⟩ := hrel
    rename World => wo
    obtain ⟨T, up, A, age, use, R, hD⟩ := HJ.out.1
    have HD := Lib.hid (And.intro hD HJ.out.2)
    clear HJ hD
    by_cases hgo : k < len2 ∧ k < 60
    · obtain ⟨hl1, hl2⟩ := hgo
      obtain ⟨lb, off, rfl, hl64, kd, kp, kr, u, va, fr, bb, hok, hcl⟩ : ∃ lb off, s2 = some ⟨lb, off, none⟩ ∧ len2 ≤ 9223372036854775807 ∧ ∃ kd kp kr u va fr bb, StOk kd kp kr va fr bb ∧ ∀ j v, (stC kd kp kr u va fr bb)[j]? = some v → w.cell? ⟨lb, off + k * 7 + j, none⟩ = some v := by
        rcases HS.out with h | ⟨lb, off, h1, h2, h3⟩
        · omega
        · exact ⟨lb, off, h1, h2, h3 k hl1⟩
      have hlb : lb < w.heap.size := by
        have := hcl 0 _ rfl
        exact lt_of_cell this
      have HCL : Hid (∀ z, KeepUp w.heap.size w z → z.cell? ⟨lb, off + k * 7, none⟩ = some (.int .i64 kd) ∧ z.cell? ⟨lb, off + k * 7 + 1, none⟩ = some (.int .u32 (kp : Nat)) ∧ z.cell? ⟨lb, off + k * 7 + 2, none⟩ = some (.int .u32 (kr : Nat)) ∧ z.cell? ⟨lb, off + k * 7 + 3, none⟩ = some (.bool u) ∧ z.cell? ⟨lb, off + k * 7 + 4, none⟩ = some (.int .u32 (va : Nat)) ∧ z.cell? ⟨lb, off + k * 7 + 5, none⟩ = some (.int .i64 fr) ∧ z.cell? ⟨lb, off + k * 7 + 6, none⟩ = some (.int .u32 (bb : Nat))) := Lib.hid (fun z hz => by
        have hk := KeepUp.nil hz
        exact ⟨hk.cell (hcl 0 _ rfl) (by simp), hk.cell (hcl 1 _ rfl) (by simp), hk.cell (hcl 2 _ rfl) (by simp), hk.cell (hcl 3 _ rfl) (by simp), hk.cell (hcl 4 _ rfl) (by simp), hk.cell (hcl 5 _ rfl) (by simp), hk.cell (hcl 6 _ rfl) (by simp)⟩)
      have hi0 : (0 : Int) ≤ (k : Int) := by omega
      have hi1 : (k : Int) < (len2 : Int) := by omega
      have hi2 : (k : Int) < 60 := by omega
      have hg1 : decide (k < len2) = true := decide_eq_true hl1
      have hg2 : decide ((k : Int) < 60) = true := decide_eq_true hi2
      have HLK := Lib.hid (And.intro hl1 (And.intro hl2 hkl))
      clear hcl hlb
      go_wp2_with fail
      refine (dkeys_at HD.out.1).mono ?_
      rintro e z1 ⟨v1, rfl, hrow, hk1'⟩
      obtain ⟨va1, vc1, rfl⟩ := own_form hrow
      have HZ1 : Hid (DB z1 w.heap.size B q r fb g p pm most ns rb sh ga gc ea ec T up A age use ke lo (2 * k) R ∧ KeepUp w.heap.size w z1) := Lib.hid ⟨HD.out.1.keep0 hk1', HD.out.2.trans (Keep.upTo hk1' (by simp))⟩
      obtain ⟨cn, hcn⟩ : ∃ n, n = cntK R age := ⟨_, rfl⟩
      have hcn' : (age.reverse.filter R.tk).length = cn := hcn.symm
      rw [hcn'] at hrow ⊢
      have HCN := Lib.hid hcn
      obtain ⟨s0, s1, s2', s3, s4, s5, s6⟩ := HCL.out z1 HZ1.out.2
      clear hrow hk1' hcn hcn'
      by_cases hkd : kd = 0
      · subst hkd
        go_wp2_with fail
        refine wp_region_held_drew (S := fun z => z.cell? ⟨lb, off + k * 7 + 1, none⟩ = some (.int .u32 (kp : Nat)) ∧ z.cell? ⟨lb, off + k * 7 + 2, none⟩ = some (.int .u32 (kr : Nat)) ∧ z.cell? ⟨lb, off + k * 7 + 3, none⟩ = some (.bool u)) (by kernel_rfl) ⟨s1, s2', s3⟩ (fun hHeld => ?_)
        skip
        generalize hyd : World.drew z1 = yd at hHeld ⊢
        have HYD : Hid (DB yd w.heap.size B q r fb g p pm most ns rb sh ga gc ea ec T up A age use ke lo (2 * k) R ∧ KeepUp w.heap.size w yd) := Lib.hid (by
          have hk : Keep [] z1 yd := by subst hyd; exact (Keep.refl [] z1).drew
          exact ⟨HZ1.out.1.keep0 hk, HZ1.out.2.trans (Keep.upTo hk (by simp))⟩)
        clear hyd s0 s1 s2' s3 s4 s5 s6
        refine wpAnyH_take (i := 0) (oi := { dst := some 50, op := Op.move (Operand.tmp 10), type := 76, pos := "law.go:107", after := #[], guard := none }) (v := ?_) rfl (by kernel_rfl) (by kernel_rfl) (by kernel_rfl) (fun _ _ _ h => h) (Or.inl ⟨by rfl, ?_⟩) (by assumption) ?_
        rotate_left
        focus (intro w hSw; (try dsimp only at hSw); go_simp <;> with_reducible rfl)
        try simp only [Act.put, List.setIfInBounds_toArray, List.set_cons_zero, List.set_cons_succ]
        refine wpAnyH_take (i := 1) (oi := { dst := some 51, op := Op.move (Operand.tmp 2), type := 87, pos := "law.go:107", after := #[], guard := none }) (v := ?_) rfl (by kernel_rfl) (by kernel_rfl) (by kernel_rfl) (fun _ _ _ h => h) (Or.inl ⟨by rfl, ?_⟩) (by assumption) ?_
        rotate_left
        focus (intro w hSw; (try dsimp only at hSw); go_simp <;> with_reducible rfl)
        try simp only [Act.put, List.setIfInBounds_toArray, List.set_cons_zero, List.set_cons_succ]
        refine wpAnyH_take (i := 2) (oi := { dst := some 52, op := Op.move (Operand.tmp 13), type := 3, pos := "law.go:107", after := #[], guard := none }) (v := ?_) rfl (by kernel_rfl) (by kernel_rfl) (by kernel_rfl) (fun _ _ _ h => h) (Or.inl ⟨by rfl, ?_⟩) (by assumption) ?_
        rotate_left
        focus (intro w hSw; (try dsimp only at hSw); go_simp <;> with_reducible rfl)
        try simp only [Act.put, List.setIfInBounds_toArray, List.set_cons_zero, List.set_cons_succ]
        refine wpAnyH_take (i := 3) (oi := { dst := some 53, op := Op.indexAddr 87 (Operand.tmp 51) (Operand.tmp 52), type := 0, pos := "law.go:107", after := #[{ on := 1, ground := Ground.data }, { on := 2, ground := Ground.data }], guard := none }) (v := ?_) rfl (by kernel_rfl) (by kernel_rfl) (by kernel_rfl) (fun _ _ _ h => h) (Or.inl ⟨by rfl, ?_⟩) (by assumption) ?_
        rotate_left
        focus (intro w hSw; (try dsimp only at hSw); go_simp <;> with_reducible rfl)
        try simp only [Act.put, List.setIfInBounds_toArray, List.set_cons_zero, List.set_cons_succ]
        refine wpAnyH_take (i := 4) (oi := { dst := some 54, op := Op.fieldAddr 72 (Operand.tmp 53) 1, type := 0, pos := "law.go:107", after := #[{ on := 3, ground := Ground.data }], guard := none }) (v := ?_) rfl (by kernel_rfl) (by kernel_rfl) (by kernel_rfl) (fun _ _ _ h => h) (Or.inl ⟨by rfl, ?_⟩) (by assumption) ?_
        rotate_left
        focus (intro w hSw; (try dsimp only at hSw); go_simp <;> with_reducible rfl)
        try simp only [Act.put, List.setIfInBounds_toArray, List.set_cons_zero, List.set_cons_succ]
        refine wpAnyH_take (i := 5) (oi := { dst := some 55, op := Op.load 70 (Operand.tmp 54), type := 70, pos := "law.go:107", after := #[{ on := 4, ground := Ground.data }], guard := none }) (v := ?_) rfl (by kernel_rfl) (by kernel_rfl) (by kernel_rfl) (fun _ _ _ h => h) (Or.inl ⟨by rfl, ?_⟩) (by assumption) ?_
        rotate_left
        focus (intro w hSw; (try dsimp only at hSw); go_simp <;> with_reducible rfl)
        try simp only [Act.put, List.setIfInBounds_toArray, List.set_cons_zero, List.set_cons_succ]
        refine wpAnyH_take (i := 6) (oi := { dst := some 56, op := Op.move (Operand.tmp 2), type := 87, pos := "law.go:107", after := #[], guard := none }) (v := ?_) rfl (by kernel_rfl) (by kernel_rfl) (by kernel_rfl) (fun _ _ _ h => h) (Or.inl ⟨by rfl, ?_⟩) (by assumption) ?_
        rotate_left
        focus (intro w hSw; (try dsimp only at hSw); go_simp <;> with_reducible rfl)
        try simp only [Act.put, List.setIfInBounds_toArray, List.set_cons_zero, List.set_cons_succ]
        refine wpAnyH_take (i := 7) (oi := { dst := some 57, op := Op.move (Operand.tmp 13), type := 3, pos := "law.go:107", after := #[], guard := none }) (v := ?_) rfl (by kernel_rfl) (by kernel_rfl) (by kernel_rfl) (fun _ _ _ h => h) (Or.inl ⟨by rfl, ?_⟩) (by assumption) ?_
        rotate_left
        focus (intro w hSw; (try dsimp only at hSw); go_simp <;> with_reducible rfl)
        try simp only [Act.put, List.setIfInBounds_toArray, List.set_cons_zero, List.set_cons_succ]
        refine wpAnyH_take (i := 8) (oi := { dst := some 58, op := Op.indexAddr 87 (Operand.tmp 56) (Operand.tmp 57), type := 0, pos := "law.go:107", after := #[{ on := 6, ground := Ground.data }, { on := 7, ground := Ground.data }], guard := none }) (v := ?_) rfl (by kernel_rfl) (by kernel_rfl) (by kernel_rfl) (fun _ _ _ h => h) (Or.inl ⟨by rfl, ?_⟩) (by assumption) ?_
        rotate_left
        focus (intro w hSw; (try dsimp only at hSw); go_simp <;> with_reducible rfl)
        try simp only [Act.put, List.setIfInBounds_toArray, List.set_cons_zero, List.set_cons_succ]
        refine wpAnyH_take (i := 9) (oi := { dst := some 59, op := Op.fieldAddr 72 (Operand.tmp 58) 2, type := 0, pos := "law.go:107", after := #[{ on := 8, ground := Ground.data }], guard := none }) (v := ?_) rfl (by kernel_rfl) (by kernel_rfl) (by kernel_rfl) (fun _ _ _ h => h) (Or.inl ⟨by rfl, ?_⟩) (by assumption) ?_
        rotate_left
        focus (intro w hSw; (try dsimp only at hSw); go_simp <;> with_reducible rfl)
        try simp only [Act.put, List.setIfInBounds_toArray, List.set_cons_zero, List.set_cons_succ]
        refine wpAnyH_take (i := 10) (oi := { dst := some 60, op := Op.load 4 (Operand.tmp 59), type := 4, pos := "law.go:107", after := #[{ on := 9, ground := Ground.data }], guard := none }) (v := ?_) rfl (by kernel_rfl) (by kernel_rfl) (by kernel_rfl) (fun _ _ _ h => h) (Or.inl ⟨by rfl, ?_⟩) (by assumption) ?_
        rotate_left
        focus (intro w hSw; (try dsimp only at hSw); go_simp <;> with_reducible rfl)
        try simp only [Act.put, List.setIfInBounds_toArray, List.set_cons_zero, List.set_cons_succ]
        refine wpAnyH_ready (rs := [11]) (by kernel_rfl) (by simp) ?_
        refine AllReadyH.cons (o := { dst := some 61, op := Op.call { callee := Callee.value (Operand.func 37), args := #[Operand.tmp 50, Operand.tmp 55, Operand.tmp 60], argTypes := #[76, 70, 4] }, type := 4, pos := "law.go:107", after := #[{ on := 0, ground := Ground.data }, { on := 5, ground := Ground.data }, { on := 10, ground := Ground.data }], guard := none }) rfl (fun K hK => ?_) AllReadyH.nil
        go_simp
        refine (sel_both HYD.out.1 (by have := HLK.out; omega) (by have := HLK.out; omega) kp kr u).mono ?_
        rintro e u1 ⟨rr, rfl, hku, HSEL⟩
        have HU1 : Hid (KeepUp w.heap.size yd u1) := Lib.hid hku
        obtain ⟨-, r1, r2, r3, -, -, -⟩ := HCL.out u1 (HYD.out.2.trans hku)
        clear hku hHeld
        go_wp2_with fail
        refine shut_grow (fun z => z.cell? ⟨lb, off + k * 7 + 1, none⟩ = some (.int .u32 (kp : Nat)) ∧ z.cell? ⟨lb, off + k * 7 + 2, none⟩ = some (.int .u32 (kr : Nat)) ∧ z.cell? ⟨lb, off + k * 7 + 3, none⟩ = some (.bool u)) hK (fun _ h => h) ⟨r1, r2, r3⟩ (fun hHeld => ?_)
        clear hK K
        refine wpAnyH_take (i := 12) (oi := { dst := some 15, op := Op.assign (Operand.tmp 61), type := 4, pos := "law.go:107", after := #[{ on := 11, ground := Ground.data }, { on := 11, ground := Ground.chain }, { on := 0, ground := Ground.phase }, { on := 1, ground := Ground.phase }, { on := 2, ground := Ground.phase }, { on := 3, ground := Ground.phase }, { on := 4, ground := Ground.phase }, { on := 5, ground := Ground.phase }, { on := 6, ground := Ground.phase }, { on := 7, ground := Ground.phase }, { on := 8, ground := Ground.phase }, { on := 9, ground := Ground.phase }, { on := 10, ground := Ground.phase }, { on := 11, ground := Ground.phase }], guard := none }) (v := ?_) rfl (by kernel_rfl) (by kernel_rfl) (by kernel_rfl) (fun _ _ _ h => h) (Or.inl ⟨by rfl, ?_⟩) (by assumption) ?_
        rotate_left
        focus (intro w hSw; (try dsimp only at hSw); go_simp <;> with_reducible rfl)
        try simp only [Act.put, List.setIfInBounds_toArray, List.set_cons_zero, List.set_cons_succ]
        refine wpAnyH_done (by kernel_rfl) ?_ _
        clear hHeld
        go_wp2_with fail
        refine wp_region_held_drew (S := fun z => z.cell? ⟨lb, off + k * 7 + 1, none⟩ = some (.int .u32 (kp : Nat)) ∧ z.cell? ⟨lb, off + k * 7 + 2, none⟩ = some (.int .u32 (kr : Nat)) ∧ z.cell? ⟨lb, off + k * 7 + 3, none⟩ = some (.bool u)) (by kernel_rfl) ⟨r1, r2, r3⟩ (fun hHeld => ?_)
        skip
        generalize hud : World.drew u1 = ud at hHeld ⊢
        have HUD : Hid (Keep [] u1 ud) := Lib.hid (by subst hud; exact (Keep.refl [] u1).drew)
        clear hud r1 r2 r3
        refine wpAnyH_take (i := 0) (oi := { dst := some 62, op := Op.move (Operand.tmp 8), type := 75, pos := "law.go:108", after := #[], guard := none }) (v := ?_) rfl (by kernel_rfl) (by kernel_rfl) (by kernel_rfl) (fun _ _ _ h => h) (Or.inl ⟨by rfl, ?_⟩) (by assumption) ?_
        rotate_left
        focus (intro w hSw; (try dsimp only at hSw); go_simp <;> with_reducible rfl)
        try simp only [Act.put, List.setIfInBounds_toArray, List.set_cons_zero, List.set_cons_succ]
        refine wpAnyH_take (i := 1) (oi := { dst := some 63, op := Op.move (Operand.tmp 2), type := 87, pos := "law.go:108", after := #[], guard := none }) (v := ?_) rfl (by kernel_rfl) (by kernel_rfl) (by kernel_rfl) (fun _ _ _ h => h) (Or.inl ⟨by rfl, ?_⟩) (by assumption) ?_
        rotate_left
        focus (intro w hSw; (try dsimp only at hSw); go_simp <;> with_reducible rfl)
        try simp only [Act.put, List.setIfInBounds_toArray, List.set_cons_zero, List.set_cons_succ]
        refine wpAnyH_take (i := 2) (oi := { dst := some 64, op := Op.move (Operand.tmp 13), type := 3, pos := "law.go:108", after := #[], guard := none }) (v := ?_) rfl (by kernel_rfl) (by kernel_rfl) (by kernel_rfl) (fun _ _ _ h => h) (Or.inl ⟨by rfl, ?_⟩) (by assumption) ?_
        rotate_left
        focus (intro w hSw; (try dsimp only at hSw); go_simp <;> with_reducible rfl)
        try simp only [Act.put, List.setIfInBounds_toArray, List.set_cons_zero, List.set_cons_succ]
        refine wpAnyH_take (i := 3) (oi := { dst := some 65, op := Op.indexAddr 87 (Operand.tmp 63) (Operand.tmp 64), type := 0, pos := "law.go:108", after := #[{ on := 1, ground := Ground.data }, { on := 2, ground := Ground.data }], guard := none }) (v := ?_) rfl (by kernel_rfl) (by kernel_rfl) (by kernel_rfl) (fun _ _ _ h => h) (Or.inl ⟨by rfl, ?_⟩) (by assumption) ?_
        rotate_left
        focus (intro w hSw; (try dsimp only at hSw); go_simp <;> with_reducible rfl)
        try simp only [Act.put, List.setIfInBounds_toArray, List.set_cons_zero, List.set_cons_succ]
        refine wpAnyH_take (i := 4) (oi := { dst := some 66, op := Op.fieldAddr 72 (Operand.tmp 65) 1, type := 0, pos := "law.go:108", after := #[{ on := 3, ground := Ground.data }], guard := none }) (v := ?_) rfl (by kernel_rfl) (by kernel_rfl) (by kernel_rfl) (fun _ _ _ h => h) (Or.inl ⟨by rfl, ?_⟩) (by assumption) ?_
        rotate_left
        focus (intro w hSw; (try dsimp only at hSw); go_simp <;> with_reducible rfl)
        try simp only [Act.put, List.setIfInBounds_toArray, List.set_cons_zero, List.set_cons_succ]
        refine wpAnyH_take (i := 5) (oi := { dst := some 67, op := Op.load 70 (Operand.tmp 66), type := 70, pos := "law.go:108", after := #[{ on := 4, ground := Ground.data }], guard := none }) (v := ?_) rfl (by kernel_rfl) (by kernel_rfl) (by kernel_rfl) (fun _ _ _ h => h) (Or.inl ⟨by rfl, ?_⟩) (by assumption) ?_
        rotate_left
        focus (intro w hSw; (try dsimp only at hSw); go_simp <;> with_reducible rfl)
        try simp only [Act.put, List.setIfInBounds_toArray, List.set_cons_zero, List.set_cons_succ]
        refine wpAnyH_take (i := 6) (oi := { dst := some 68, op := Op.move (Operand.tmp 2), type := 87, pos := "law.go:108", after := #[], guard := none }) (v := ?_) rfl (by kernel_rfl) (by kernel_rfl) (by kernel_rfl) (fun _ _ _ h => h) (Or.inl ⟨by rfl, ?_⟩) (by assumption) ?_
        rotate_left
        focus (intro w hSw; (try dsimp only at hSw); go_simp <;> with_reducible rfl)
        try simp only [Act.put, List.setIfInBounds_toArray, List.set_cons_zero, List.set_cons_succ]
        refine wpAnyH_take (i := 7) (oi := { dst := some 69, op := Op.move (Operand.tmp 13), type := 3, pos := "law.go:108", after := #[], guard := none }) (v := ?_) rfl (by kernel_rfl) (by kernel_rfl) (by kernel_rfl) (fun _ _ _ h => h) (Or.inl ⟨by rfl, ?_⟩) (by assumption) ?_
        rotate_left
        focus (intro w hSw; (try dsimp only at hSw); go_simp <;> with_reducible rfl)
        try simp only [Act.put, List.setIfInBounds_toArray, List.set_cons_zero, List.set_cons_succ]
        refine wpAnyH_take (i := 8) (oi := { dst := some 70, op := Op.indexAddr 87 (Operand.tmp 68) (Operand.tmp 69), type := 0, pos := "law.go:108", after := #[{ on := 6, ground := Ground.data }, { on := 7, ground := Ground.data }], guard := none }) (v := ?_) rfl (by kernel_rfl) (by kernel_rfl) (by kernel_rfl) (fun _ _ _ h => h) (Or.inl ⟨by rfl, ?_⟩) (by assumption) ?_
        rotate_left
        focus (intro w hSw; (try dsimp only at hSw); go_simp <;> with_reducible rfl)
        try simp only [Act.put, List.setIfInBounds_toArray, List.set_cons_zero, List.set_cons_succ]
        refine wpAnyH_take (i := 9) (oi := { dst := some 71, op := Op.fieldAddr 72 (Operand.tmp 70) 2, type := 0, pos := "law.go:108", after := #[{ on := 8, ground := Ground.data }], guard := none }) (v := ?_) rfl (by kernel_rfl) (by kernel_rfl) (by kernel_rfl) (fun _ _ _ h => h) (Or.inl ⟨by rfl, ?_⟩) (by assumption) ?_
        rotate_left
        focus (intro w hSw; (try dsimp only at hSw); go_simp <;> with_reducible rfl)
        try simp only [Act.put, List.setIfInBounds_toArray, List.set_cons_zero, List.set_cons_succ]
        refine wpAnyH_take (i := 10) (oi := { dst := some 72, op := Op.load 4 (Operand.tmp 71), type := 4, pos := "law.go:108", after := #[{ on := 9, ground := Ground.data }], guard := none }) (v := ?_) rfl (by kernel_rfl) (by kernel_rfl) (by kernel_rfl) (fun _ _ _ h => h) (Or.inl ⟨by rfl, ?_⟩) (by assumption) ?_
        rotate_left
        focus (intro w hSw; (try dsimp only at hSw); go_simp <;> with_reducible rfl)
        try simp only [Act.put, List.setIfInBounds_toArray, List.set_cons_zero, List.set_cons_succ]
        refine wpAnyH_take (i := 12) (oi := { dst := some 74, op := Op.move (Operand.tmp 15), type := 4, pos := "law.go:108", after := #[], guard := none }) (v := ?_) rfl (by kernel_rfl) (by kernel_rfl) (by kernel_rfl) (fun _ _ _ h => h) (Or.inl ⟨by rfl, ?_⟩) (by assumption) ?_
        rotate_left
        focus (intro w hSw; (try dsimp only at hSw); go_simp <;> with_reducible rfl)
        try simp only [Act.put, List.setIfInBounds_toArray, List.set_cons_zero, List.set_cons_succ]
        refine wpAnyH_ready (rs := [11]) (by kernel_rfl) (by simp) ?_
        refine AllReadyH.cons (o := { dst := some 73, op := Op.call { callee := Callee.value (Operand.func 31), args := #[Operand.tmp 62, Operand.tmp 67, Operand.tmp 72], argTypes := #[75, 70, 4] }, type := 4, pos := "law.go:108", after := #[{ on := 0, ground := Ground.data }, { on := 5, ground := Ground.data }, { on := 10, ground := Ground.data }], guard := none }) rfl (fun K hK => ?_) AllReadyH.nil
        go_simp
        refine (HSEL.out ud HUD.out).mono ?_
        rintro e u2 ⟨rfl, hku2, hfin⟩
        have HFIN := Lib.hid hfin
        have HU2 : Hid (KeepUp w.heap.size w u2) := Lib.hid (HYD.out.2.trans (HU1.out.trans ((Keep.upTo HUD.out (by simp)).trans hku2)))
        obtain ⟨-, r1, r2, r3, -, -, -⟩ := HCL.out u2 HU2.out
        clear hku2 hfin hHeld
        go_wp2_with fail
        refine shut_grow (fun z => z.cell? ⟨lb, off + k * 7 + 1, none⟩ = some (.int .u32 (kp : Nat)) ∧ z.cell? ⟨lb, off + k * 7 + 2, none⟩ = some (.int .u32 (kr : Nat)) ∧ z.cell? ⟨lb, off + k * 7 + 3, none⟩ = some (.bool u)) hK (fun _ h => h) ⟨r1, r2, r3⟩ (fun hHeld => ?_)
        clear hK K
        refine wpAnyH_take (i := 13) (oi := { dst := some 75, op := Op.binOp BinOp.neq 4 (Operand.tmp 73) (Operand.tmp 74) 4, type := 4, pos := "law.go:108", after := #[{ on := 11, ground := Ground.data }, { on := 12, ground := Ground.data }], guard := none }) (v := ?_) rfl (by kernel_rfl) (by kernel_rfl) (by kernel_rfl) (fun _ _ _ h => h) (Or.inl ⟨by rfl, ?_⟩) (by assumption) ?_
        rotate_left
        focus (intro w hSw; (try dsimp only at hSw); go_simp <;> with_reducible rfl)
        try simp only [Act.put, List.setIfInBounds_toArray, List.set_cons_zero, List.set_cons_succ]
        refine wpAnyH_take (i := 14) (oi := { dst := some 76, op := Op.move (Operand.tmp 75), type := 4, pos := "law.go:108", after := #[{ on := 13, ground := Ground.data }, { on := 11, ground := Ground.chain }], guard := none }) (v := ?_) rfl (by kernel_rfl) (by kernel_rfl) (by kernel_rfl) (fun _ _ _ h => h) (Or.inl ⟨by rfl, ?_⟩) (by assumption) ?_
        rotate_left
        focus (intro w hSw; (try dsimp only at hSw); go_simp <;> with_reducible rfl)
        try simp only [Act.put, List.setIfInBounds_toArray, List.set_cons_zero, List.set_cons_succ]
        refine wpAnyH_take (i := 15) (oi := { dst := some 77, op := Op.move (Operand.tmp 10), type := 76, pos := "law.go:108", after := #[{ on := 14, ground := Ground.guard }], guard := some (14, false) }) (v := ?_) rfl (by kernel_rfl) (by kernel_rfl) (by kernel_rfl) (fun _ _ _ h => h) (Or.inl ⟨by rfl, ?_⟩) (by assumption) ?_
        rotate_left
        focus (intro w hSw; (try dsimp only at hSw); go_simp <;> with_reducible rfl)
        try simp only [Act.put, List.setIfInBounds_toArray, List.set_cons_zero, List.set_cons_succ]
        refine wpAnyH_take (i := 18) (oi := { dst := some 80, op := Op.move (Operand.tmp 14), type := 3, pos := "law.go:108", after := #[{ on := 14, ground := Ground.guard }], guard := some (14, false) }) (v := ?_) rfl (by kernel_rfl) (by kernel_rfl) (by kernel_rfl) (fun _ _ _ h => h) (Or.inl ⟨by rfl, ?_⟩) (by assumption) ?_
        rotate_left
        focus (intro w hSw; (try dsimp only at hSw); go_simp <;> with_reducible rfl)
        try simp only [Act.put, List.setIfInBounds_toArray, List.set_cons_zero, List.set_cons_succ]
        obtain ⟨T', up', A', age', R', ke', lo', hD2, hkl2, hcn2⟩ := HFIN.out.2
        have HD2 := Lib.hid hD2
        clear hD2
        refine wpAnyH_ready (rs := [16]) (by kernel_rfl) (by simp) ?_
        refine AllReadyH.cons (o := { dst := some 78, op := Op.call { callee := Callee.value (Operand.func 36), args := #[Operand.tmp 77], argTypes := #[76] }, type := 84, pos := "law.go:108", after := #[{ on := 15, ground := Ground.data }, { on := 14, ground := Ground.chain }, { on := 14, ground := Ground.guard }], guard := some (14, false) }) rfl (fun K hK => ?_) AllReadyH.nil
        go_simp
        refine (dkeys_at HD2.out).mono ?_
        rintro e u3 ⟨v3, rfl, hrow3, hk3⟩
        obtain ⟨va3, vc3, rfl⟩ := own_form hrow3
        obtain ⟨c3, hc3⟩ : ∃ n, n = (age'.reverse.filter R'.tk).length := ⟨_, rfl⟩
        rw [← hc3]
        have hlt3 : ¬ ((c3 : Int) < (cn : Int)) := by
          have h1 : cntK R' age' = c3 := hc3.symm
          have h2 := HCN.out
          omega
        have hlt4 : decide ((c3 : Int) < (cn : Int)) = false := decide_eq_false hlt3
        have hlt5 : decide (c3 < cn) = false := decide_eq_false (by omega)
        have hlt6 : ¬ (c3 < cn) := by omega
        have HD3 := Lib.hid (HD2.out.keep0 hk3)
        have HU3 : Hid (KeepUp w.heap.size w u3) := Lib.hid (HU2.out.trans (Keep.upTo hk3 (by simp)))
        have t1 := hk3.cell r1 (by simp)
        have t2 := hk3.cell r2 (by simp)
        have t3 := hk3.cell r3 (by simp)
        clear hrow3 hk3 hc3 hcn2 hlt3 r1 r2 r3
        go_wp2_with fail
        refine shut_grow (fun z => z.cell? ⟨lb, off + k * 7 + 1, none⟩ = some (.int .u32 (kp : Nat)) ∧ z.cell? ⟨lb, off + k * 7 + 2, none⟩ = some (.int .u32 (kr : Nat)) ∧ z.cell? ⟨lb, off + k * 7 + 3, none⟩ = some (.bool u)) hK (fun _ h => h) ⟨t1, t2, t3⟩ (fun hHeld => ?_)
        clear hK K
        refine wpAnyH_take (i := 17) (oi := { dst := some 79, op := Op.call { callee := Callee.builtin Builtin.len, args := #[Operand.tmp 78], argTypes := #[84] }, type := 3, pos := "law.go:108", after := #[{ on := 16, ground := Ground.data }, { on := 14, ground := Ground.guard }], guard := some (14, false) }) (v := ?_) rfl (by kernel_rfl) (by kernel_rfl) (by kernel_rfl) (fun _ _ _ h => h) (Or.inl ⟨by rfl, ?_⟩) (by assumption) ?_
        rotate_left
        focus (intro w hSw; (try dsimp only at hSw); go_simp <;> with_reducible rfl)
        try simp only [Act.put, List.setIfInBounds_toArray, List.set_cons_zero, List.set_cons_succ]
        refine wpAnyH_take (i := 19) (oi := { dst := some 81, op := Op.binOp BinOp.lss 3 (Operand.tmp 79) (Operand.tmp 80) 3, type := 4, pos := "law.go:108", after := #[{ on := 17, ground := Ground.data }, { on := 18, ground := Ground.data }, { on := 14, ground := Ground.guard }], guard := some (14, false) }) (v := ?_) rfl (by kernel_rfl) (by kernel_rfl) (by kernel_rfl) (fun _ _ _ h => h) (Or.inl ⟨by rfl, ?_⟩) (by assumption) ?_
        rotate_left
        focus (intro w hSw; (try dsimp only at hSw); go_simp <;> with_reducible rfl)
        try simp only [Act.put, List.setIfInBounds_toArray, List.set_cons_zero, List.set_cons_succ]
        refine wpAnyH_take (i := 20) (oi := { dst := some 82, op := Op.pick (Operand.tmp 76) (Operand.const (Value.bool true)) (Operand.tmp 81), type := 4, pos := "law.go:108", after := #[{ on := 14, ground := Ground.data }, { on := 19, ground := Ground.data }], guard := none }) (v := ?_) rfl (by kernel_rfl) (by kernel_rfl) (by kernel_rfl) (fun _ _ _ h => h) (Or.inl ⟨by rfl, ?_⟩) (by assumption) ?_
        rotate_left
        focus (intro w hSw; (try dsimp only at hSw); go_simp <;> with_reducible rfl)
        try simp only [Act.put, List.setIfInBounds_toArray, List.set_cons_zero, List.set_cons_succ]
        refine wpAnyH_done (by kernel_rfl) ?_ _
        clear hHeld t1 t2 t3
        rcases hkl2 with ⟨hrr, hke, hlo⟩ | ⟨hrr, hke, hlo⟩
        all_goals
          subst hrr
          rw [hke, hlo] at HD3
          clear HD2 HFIN hke hlo
          have hb60 : ke ≤ 60 ∧ lo ≤ 60 := by have := HLK.out; omega
          have hb61 := hb60.1
          have hb62 := hb60.2
          clear hb60
          go_wp2_with fail
          refine (pleft25_at HD3.out).mono ?_
          rintro e z3 ⟨rfl, hk3⟩
          have HD4 := Lib.hid (HD3.out.keep0 hk3)
          have HK3 := Lib.hid hk3
          clear hk3
          go_wp2_with fail
          refine (dleft25_at HD4.out (by have := HLK.out; omega)).mono ?_
          rintro e z4 ⟨rfl, rfl⟩
          go_wp2_with fail
          refine (pages25 HD4.out (by have := HLK.out; omega)).mono ?_
          rintro e z4 ⟨rfl, hk4⟩
          have HN : Hid ((∃ T up A age use R, DB z4 w.heap.size B q r fb g p pm most ns rb sh ga gc ea ec T up A age use _ _ (2 * (k + 1)) R) ∧ KeepUp w.heap.size w z4) := Lib.hid ⟨⟨_, _, _, _, _, _, (HD4.out.keep0 hk4).hb.later (by omega) (by omega), HD4.out.ag, HD4.out.ne⟩, HU3.out.trans ((Keep.upTo (HK3.out.trans hk4) (by simp)))⟩
          clear hk4
          go_wp2_with fail
          go_roundw
          case rel => exact ⟨_, _, k + 1, _, _, by go_num, by go_num, by go_num, rfl, rfl, by have := HLK.out; omega, by have := HLK.out; omega, by have := HLK.out; omega, HN⟩
          case measure => simp [intOf]; have := HLK.out; omega
      · have hkd' : (kd == 0) = false := beq_eq_false_iff_ne.2 hkd
        go_wp2_with fail
        refine (spdo_at HZ1.out.1 (by have := HLK.out; omega) kd kp kr u va fr bb hok hkd).mono ?_
        rintro e z2 ⟨rfl, hfin⟩
        have HZ2 : Hid ((∃ T up A age use R, DB z2 w.heap.size B q r fb g p pm most ns rb sh ga gc ea ec T up A age use ke lo (2 * k + 2) R) ∧ KeepUp w.heap.size w z2) := Lib.hid (by
          obtain ⟨h1, T', up', A', age', use', R', h2⟩ := hfin
          exact ⟨⟨T', up', A', age', use', R', h2⟩, HZ1.out.2.trans h1⟩)
        clear hfin s0 s1 s2' s3 s4 s5 s6
        obtain ⟨T', up', A', age', use', R', hD2⟩ := HZ2.out.1
        have HD2 := Lib.hid hD2
        clear hD2
        go_wp2_with fail
        refine (pleft25_at HD2.out).mono ?_
        rintro e z3 ⟨rfl, hk3⟩
        have HD3 := Lib.hid (HD2.out.keep0 hk3)
        have HK3 := Lib.hid hk3
        clear hk3
        go_wp2_with fail
        refine (dleft25_at HD3.out (by have := HLK.out; omega)).mono ?_
        rintro e z4 ⟨rfl, rfl⟩
        go_wp2_with fail
        refine (pages25 HD3.out (by have := HLK.out; omega)).mono ?_
        rintro e z4 ⟨rfl, hk4⟩
        have HN : Hid ((∃ T up A age use R, DB z4 w.heap.size B q r fb g p pm most ns rb sh ga gc ea ec T up A age use ke lo (2 * (k + 1)) R) ∧ KeepUp w.heap.size w z4) := Lib.hid ⟨⟨_, _, _, _, _, _, HD3.out.keep0 hk4⟩, HZ2.out.2.trans ((Keep.upTo (HK3.out.trans hk4) (by simp)))⟩
        clear hk4
        go_wp2_with fail
        go_roundw
        case rel => exact ⟨ke, lo, k + 1, _, _, rfl, rfl, by go_num, rfl, rfl, by have := HLK.out; omega, by have := HLK.out; omega, by have := HLK.out; omega, HN⟩
        case measure => simp [intOf]; have := HLK.out; omega
    · have hex : (decide (k < len2) = false ∧ ¬ (k < len2)) ∨ ((decide (k < len2) = true ∧ k < len2) ∧ (decide (k < 60) = false ∧ ¬ (k < 60) ∧ decide ((k : Int) < 60) = false)) := by
        by_cases h : k < len2
        · have h6 : ¬ (k < 60) := fun h6 => hgo ⟨h, h6⟩
          exact .inr ⟨⟨decide_eq_true h, h⟩, decide_eq_false h6, h6, decide_eq_false (by omega)⟩
        · exact .inl ⟨decide_eq_false h, h⟩
      clear hgo HS
      obtain ⟨l, hl⟩ : ∃ l, l = age.reverse.filter R.tk := ⟨_, rfl⟩
      have HL := Lib.hid hl
      clear hl
      rcases hex with ⟨x1, x2⟩ | ⟨⟨x1, x2⟩, x3, x4, x5⟩
      all_goals
        go_wp2_with fail
        refine (counts25_at HD.out.1).mono ?_
        rintro e z1 ⟨rfl, hk1'⟩
        have HZ1 := Lib.hid (And.intro (HD.out.1.keep0 hk1') (HD.out.2.trans (Keep.upTo hk1' (by simp))))
        clear hk1'
        go_wp2_with fail
        refine (pkeys_at HZ1.out.1).mono ?_
        rintro e z2 ⟨v1, rfl, hrow1, hk2'⟩
        rw [← HL.out] at hrow1
        obtain ⟨va1, vc1, rfl⟩ := own_form hrow1
        have HZ2 := Lib.hid (And.intro (HZ1.out.1.keep0 hk2') (And.intro (HZ1.out.2.trans (Keep.upTo hk2' (by simp))) hrow1))
        clear hk2' hrow1
        go_wp2_with fail
        refine (dkeys_at HZ2.out.1).mono ?_
        rintro e z3 ⟨v2, rfl, hrow2, hk3'⟩
        rw [← HL.out] at hrow2
        obtain ⟨va2, vc2, rfl⟩ := own_form hrow2
        have HZ3 : Hid (KeepUp w.heap.size w z3 ∧ z3.ownsRow z1.heap.size 70 2 (.slice va1 l.length vc1) l.length (l.flatMap (keyV R)) ∧ z3.ownsRow z2.heap.size 70 2 (.slice va2 l.length vc2) l.length (l.flatMap (keyV R))) := Lib.hid ⟨HZ2.out.2.1.trans (Keep.upTo hk3' (by simp)), own_keep HZ2.out.2.2 hk3' (fun _ _ => by simp), hrow2⟩
        have hal := HZ2.out.1.hb.facts
        have hlf := List.length_filter_le R.tk age.reverse
        rw [List.length_reverse] at hlf
        rw [← HL.out] at hlf
        have hc8 : l.length ≤ 8 := by omega
        clear hrow2 hk3' hal hlf x1 x2
        go_wp2_with fail
        go_loopw [20] (fun kv wr => ∃ j : Nat, kv = .int .i64 j ∧ j ≤ l.length ∧ Hid (Keep [] z3 wr)) (fun kv _ => l.length - (intOf kv).toNat)
        case atStart => exact ⟨0, rfl, by omega, Lib.hid (Keep.refl _ _)⟩
        case round =>
          obtain ⟨j, rfl, hj, HK⟩ := hrel
          rename World => wq
          by_cases hjl : j < l.length
          · obtain ⟨g1, rfl, hg1⟩ := own_some HZ3.out.2.1 (by omega)
            obtain ⟨g2, rfl, hg2⟩ := own_some HZ3.out.2.2 (by omega)
            have c0 : wq.cell? ⟨g1, j * 2, none⟩ = some (.int .u32 (R.kp l[j] : Nat)) := HK.out.cell (by rw [hg1 (j * 2) (by omega)]; exact keyV_get R l j hjl 0 (by omega)) (by simp)
            have c1 : wq.cell? ⟨g1, j * 2 + 1, none⟩ = some (.int .u32 (R.kr l[j] : Nat)) := HK.out.cell (by rw [hg1 (j * 2 + 1) (by omega)]; exact keyV_get R l j hjl 1 (by omega)) (by simp)
            have c2 : wq.cell? ⟨g2, j * 2, none⟩ = some (.int .u32 (R.kp l[j] : Nat)) := HK.out.cell (by rw [hg2 (j * 2) (by omega)]; exact keyV_get R l j hjl 0 (by omega)) (by simp)
            have c3 : wq.cell? ⟨g2, j * 2 + 1, none⟩ = some (.int .u32 (R.kr l[j] : Nat)) := HK.out.cell (by rw [hg2 (j * 2 + 1) (by omega)]; exact keyV_get R l j hjl 1 (by omega)) (by simp)
            have hne := key_neq (R.kp l[j]) (R.kr l[j])
            generalize R.kp l[j] = ka at c0 c2 hne
            generalize R.kr l[j] = kb at c1 c3 hne
            have hj0 : (0 : Int) ≤ (j : Int) := by omega
            have hj1 : (j : Int) < (l.length : Int) := by omega
            have HJ := Lib.hid hjl
            clear hg1 hg2 hj hjl
            go_wp2_with fail
            go_quiet (fail)
            go_wp2_with fail
            go_roundw
            case rel => exact ⟨j + 1, by go_num, by have := HJ.out; omega, Lib.hid (HK.out.drewN _)⟩
            case measure => simp [intOf]; have := HJ.out; omega
          · have hj1 : ¬ ((j : Int) < (l.length : Int)) := by omega
            clear hj hjl
            go_wp2_with fail
            refine (spworks_at _).mono ?_
            rintro e z9 ⟨rfl, hk9⟩
            have HF : Hid (Below w.heap.size w z9) := Lib.hid (by
              obtain ⟨l', hl', hk'⟩ := HZ3.out.1
              exact ((hk'.then HK.out (by simp)).then hk9 (by simp)).below (Nat.le_refl _) hl')
            clear hk9
            go_wp2_with fail
            go_ret
            exact ⟨rfl, HF.out⟩
end Go.Proofs.Ytpinoejckagjbaa
