/- A step of the law's. -/
import Derived.Test.YtpinoejckagjbaaVSpF
namespace Go.Proofs.Ytpinoejckagjbaa
open Go.RowKit Go.Mum
set_option linter.unusedVariables false
set_option linter.unusedSimpArgs false
set_option maxRecDepth 100000

section
variable {x y : World} {W0 B q r fb g p pm most ns rb : Nat} {sh : Nat → Nat} {ga gc : Nat} {ea : Option Addr} {ec : Nat} {T : Nat → Nat → Tab} {up : Nat → Bool} {A : QSt} {age : List Nat} {use : Bool} {kept lost c : Nat} {R : RSt}

theorem clear_both (h : DB x W0 B q r fb g p pm most ns rb sh ga gc ea ec T up A age use kept lost c R) :
    Calls Try.prog 42 #[.pointer (some ⟨q, 0, none⟩)] x fun e y => (∃ v, e = .returned v) ∧ Hid (∀ z, Keep [] y z → Calls Try.prog 73 #[.pointer (some ⟨rb, 0, none⟩)] z fun e' y' => (∃ v, e' = .returned v) ∧ DoFin W0 B q r fb g p pm most ns rb sh ga gc ea ec kept lost c x y') := by
  obtain ⟨-, hl, -, hn8, -, -, -⟩ := h.hb.facts
  refine (hb_pclear h.hb).mono ?_
  rintro e y ⟨he, hH, hk⟩
  refine ⟨he, Lib.hid (fun z hz => ?_)⟩
  refine (hb_dclear (hH.keep0 hz)).mono ?_
  rintro e' y' ⟨he', hH', hk'⟩
  rw [hl] at hH'
  exact ⟨he', (hk.trans (Keep.upTo hz (by simp))).trans hk', bareT T ns 8, up, A.bare ns 8, List.range ns, false, R0, hH'.later (by omega) (by omega), agM_clear (R := R) (use := use) (age := age) hn8.2, h.ne.bare ns 8⟩

set_option maxHeartbeats 8000000 in
theorem spdo_at (h : DB x W0 B q r fb g p pm most ns rb sh ga gc ea ec T up A age use kept lost c R) (hc : c ≤ 700) (kd : Int) (kp kr : Nat) (u : Bool) (va : Nat) (fr : Int) (bb : Nat) (hok : StOk kd kp kr va fr bb) (hk0 : kd ≠ 0) :
    Calls Try.prog 38 #[.pointer (some ⟨q, 0, none⟩), .pointer (some ⟨rb, 0, none⟩), .agg #[.int .i64 kd, .int .u32 (kp : Nat), .int .u32 (kr : Nat), .bool u, .int .u32 (va : Nat), .int .i64 fr, .int .u32 (bb : Nat)]] x fun e y => e = .returned (.bool true) ∧ DoFin W0 B q r fb g p pm most ns rb sh ga gc ea ec kept lost c x y := by
  have HD := Lib.hid h
  clear h
  have d0 : (kd == 0) = false := beq_eq_false_iff_ne.2 hk0
  obtain ⟨b5, hb5⟩ : ∃ b, b = x.heap.size := ⟨_, rfl⟩
  go_enter Try.func38, Try.ntmps38
  go_upto_region 2 with fail
  rw [← hb5]
  generalize hy2 : World.alloc x _ = y2
  have HY : Hid (StB y2 b5 kd kp kr u va fr bb ∧ Keep [] x y2) := Lib.hid (by
    subst hy2
    exact ⟨heap_alloc_at _ hb5, (Keep.refl _ _).alloc _⟩)
  obtain ⟨-, -, -, -, s4, s5, s6⟩ := HY.out.1.cells
  have HDY := Lib.hid (HD.out.keep0 HY.out.2)
  clear hy2 hb5
  have HFX : Hid (∀ z, DoFin W0 B q r fb g p pm most ns rb sh ga gc ea ec kept lost c y2 z → DoFin W0 B q r fb g p pm most ns rb sh ga gc ea ec kept lost c x z) := Lib.hid (fun z ⟨h1, h2⟩ => ⟨(Keep.upTo HY.out.2 (by simp)).trans h1, h2⟩)
  have hdec : kd = 1 ∨ ((kd == 1) = false ∧ kd = 2) ∨ ((kd == 1) = false ∧ (kd == 2) = false) := by
    simp only [beq_eq_false_iff_ne, ne_eq]; omega
  rcases hdec with rfl | ⟨d1, rfl⟩ | ⟨d1, d2⟩
  · clear d0 hk0
    go_wp2_with fail
    refine wp_region_held_drew (S := fun z => z.cell? ⟨b5, 4, none⟩ = some (.int .u32 (va : Nat)) ∧ z.cell? ⟨b5, 5, none⟩ = some (.int .i64 fr) ∧ z.cell? ⟨b5, 6, none⟩ = some (.int .u32 (bb : Nat))) (by kernel_rfl) ⟨s4, s5, s6⟩ (fun hHeld => ?_)
    skip
    generalize hyd : World.drew y2 = yd at hHeld ⊢
    have HYD : Hid (Keep [] y2 yd) := Lib.hid (by subst hyd; exact (Keep.refl [] y2).drew)
    clear s4 s5 s6 hyd
    refine wpAnyH_take (i := 0) (oi := { dst := some 26, op := Op.move (Operand.tmp 0), type := 75, pos := "law.go:65", after := #[], guard := none }) (v := ?_) rfl (by kernel_rfl) (by kernel_rfl) (by kernel_rfl) (fun _ _ _ h => h) (Or.inl ⟨by rfl, ?_⟩) (by assumption) ?_
    rotate_left
    focus (intro w hSw; (try dsimp only at hSw); go_simp <;> with_reducible rfl)
    try simp only [Act.put, List.setIfInBounds_toArray, List.set_cons_zero, List.set_cons_succ]
    refine wpAnyH_take (i := 1) (oi := { dst := some 27, op := Op.fieldAddr 72 (Operand.tmp 5) 3, type := 0, pos := "law.go:65", after := #[], guard := none }) (v := ?_) rfl (by kernel_rfl) (by kernel_rfl) (by kernel_rfl) (fun _ _ _ h => h) (Or.inl ⟨by rfl, ?_⟩) (by assumption) ?_
    rotate_left
    focus (intro w hSw; (try dsimp only at hSw); go_simp <;> with_reducible rfl)
    try simp only [Act.put, List.setIfInBounds_toArray, List.set_cons_zero, List.set_cons_succ]
    refine wpAnyH_take (i := 2) (oi := { dst := some 28, op := Op.load 22 (Operand.tmp 27), type := 22, pos := "law.go:65", after := #[{ on := 1, ground := Ground.data }], guard := none }) (v := ?_) rfl (by kernel_rfl) (by kernel_rfl) (by kernel_rfl) (fun _ _ _ h => h) (Or.inl ⟨by rfl, ?_⟩) (by assumption) ?_
    rotate_left
    focus (intro w hSw; (try dsimp only at hSw); go_simp <;> with_reducible rfl)
    try simp only [Act.put, List.setIfInBounds_toArray, List.set_cons_zero, List.set_cons_succ]
    refine wpAnyH_take (i := 4) (oi := { dst := some 30, op := Op.fieldAddr 72 (Operand.tmp 5) 4, type := 0, pos := "law.go:65", after := #[], guard := none }) (v := ?_) rfl (by kernel_rfl) (by kernel_rfl) (by kernel_rfl) (fun _ _ _ h => h) (Or.inl ⟨by rfl, ?_⟩) (by assumption) ?_
    rotate_left
    focus (intro w hSw; (try dsimp only at hSw); go_simp <;> with_reducible rfl)
    try simp only [Act.put, List.setIfInBounds_toArray, List.set_cons_zero, List.set_cons_succ]
    refine wpAnyH_take (i := 5) (oi := { dst := some 31, op := Op.load 3 (Operand.tmp 30), type := 3, pos := "law.go:65", after := #[{ on := 4, ground := Ground.data }], guard := none }) (v := ?_) rfl (by kernel_rfl) (by kernel_rfl) (by kernel_rfl) (fun _ _ _ h => h) (Or.inl ⟨by rfl, ?_⟩) (by assumption) ?_
    rotate_left
    focus (intro w hSw; (try dsimp only at hSw); go_simp <;> with_reducible rfl)
    try simp only [Act.put, List.setIfInBounds_toArray, List.set_cons_zero, List.set_cons_succ]
    refine wpAnyH_take (i := 6) (oi := { dst := some 32, op := Op.fieldAddr 72 (Operand.tmp 5) 5, type := 0, pos := "law.go:65", after := #[], guard := none }) (v := ?_) rfl (by kernel_rfl) (by kernel_rfl) (by kernel_rfl) (fun _ _ _ h => h) (Or.inl ⟨by rfl, ?_⟩) (by assumption) ?_
    rotate_left
    focus (intro w hSw; (try dsimp only at hSw); go_simp <;> with_reducible rfl)
    try simp only [Act.put, List.setIfInBounds_toArray, List.set_cons_zero, List.set_cons_succ]
    refine wpAnyH_take (i := 7) (oi := { dst := some 33, op := Op.load 22 (Operand.tmp 32), type := 22, pos := "law.go:65", after := #[{ on := 6, ground := Ground.data }], guard := none }) (v := ?_) rfl (by kernel_rfl) (by kernel_rfl) (by kernel_rfl) (fun _ _ _ h => h) (Or.inl ⟨by rfl, ?_⟩) (by assumption) ?_
    rotate_left
    focus (intro w hSw; (try dsimp only at hSw); go_simp <;> with_reducible rfl)
    try simp only [Act.put, List.setIfInBounds_toArray, List.set_cons_zero, List.set_cons_succ]
    refine wpAnyH_take (i := 9) (oi := { dst := some 35, op := Op.move (Operand.tmp 1), type := 76, pos := "law.go:65", after := #[], guard := none }) (v := ?_) rfl (by kernel_rfl) (by kernel_rfl) (by kernel_rfl) (fun _ _ _ h => h) (Or.inl ⟨by rfl, ?_⟩) (by assumption) ?_
    rotate_left
    focus (intro w hSw; (try dsimp only at hSw); go_simp <;> with_reducible rfl)
    try simp only [Act.put, List.setIfInBounds_toArray, List.set_cons_zero, List.set_cons_succ]
    refine wpAnyH_take (i := 10) (oi := { dst := some 36, op := Op.fieldAddr 72 (Operand.tmp 5) 3, type := 0, pos := "law.go:65", after := #[], guard := none }) (v := ?_) rfl (by kernel_rfl) (by kernel_rfl) (by kernel_rfl) (fun _ _ _ h => h) (Or.inl ⟨by rfl, ?_⟩) (by assumption) ?_
    rotate_left
    focus (intro w hSw; (try dsimp only at hSw); go_simp <;> with_reducible rfl)
    try simp only [Act.put, List.setIfInBounds_toArray, List.set_cons_zero, List.set_cons_succ]
    refine wpAnyH_take (i := 11) (oi := { dst := some 37, op := Op.load 22 (Operand.tmp 36), type := 22, pos := "law.go:65", after := #[{ on := 10, ground := Ground.data }], guard := none }) (v := ?_) rfl (by kernel_rfl) (by kernel_rfl) (by kernel_rfl) (fun _ _ _ h => h) (Or.inl ⟨by rfl, ?_⟩) (by assumption) ?_
    rotate_left
    focus (intro w hSw; (try dsimp only at hSw); go_simp <;> with_reducible rfl)
    try simp only [Act.put, List.setIfInBounds_toArray, List.set_cons_zero, List.set_cons_succ]
    refine wpAnyH_take (i := 13) (oi := { dst := some 39, op := Op.fieldAddr 72 (Operand.tmp 5) 4, type := 0, pos := "law.go:65", after := #[], guard := none }) (v := ?_) rfl (by kernel_rfl) (by kernel_rfl) (by kernel_rfl) (fun _ _ _ h => h) (Or.inl ⟨by rfl, ?_⟩) (by assumption) ?_
    rotate_left
    focus (intro w hSw; (try dsimp only at hSw); go_simp <;> with_reducible rfl)
    try simp only [Act.put, List.setIfInBounds_toArray, List.set_cons_zero, List.set_cons_succ]
    refine wpAnyH_take (i := 14) (oi := { dst := some 40, op := Op.load 3 (Operand.tmp 39), type := 3, pos := "law.go:65", after := #[{ on := 13, ground := Ground.data }], guard := none }) (v := ?_) rfl (by kernel_rfl) (by kernel_rfl) (by kernel_rfl) (fun _ _ _ h => h) (Or.inl ⟨by rfl, ?_⟩) (by assumption) ?_
    rotate_left
    focus (intro w hSw; (try dsimp only at hSw); go_simp <;> with_reducible rfl)
    try simp only [Act.put, List.setIfInBounds_toArray, List.set_cons_zero, List.set_cons_succ]
    refine wpAnyH_take (i := 15) (oi := { dst := some 41, op := Op.fieldAddr 72 (Operand.tmp 5) 5, type := 0, pos := "law.go:65", after := #[], guard := none }) (v := ?_) rfl (by kernel_rfl) (by kernel_rfl) (by kernel_rfl) (fun _ _ _ h => h) (Or.inl ⟨by rfl, ?_⟩) (by assumption) ?_
    rotate_left
    focus (intro w hSw; (try dsimp only at hSw); go_simp <;> with_reducible rfl)
    try simp only [Act.put, List.setIfInBounds_toArray, List.set_cons_zero, List.set_cons_succ]
    refine wpAnyH_take (i := 16) (oi := { dst := some 42, op := Op.load 22 (Operand.tmp 41), type := 22, pos := "law.go:65", after := #[{ on := 15, ground := Ground.data }], guard := none }) (v := ?_) rfl (by kernel_rfl) (by kernel_rfl) (by kernel_rfl) (fun _ _ _ h => h) (Or.inl ⟨by rfl, ?_⟩) (by assumption) ?_
    rotate_left
    focus (intro w hSw; (try dsimp only at hSw); go_simp <;> with_reducible rfl)
    try simp only [Act.put, List.setIfInBounds_toArray, List.set_cons_zero, List.set_cons_succ]
    refine wpAnyH_ready (rs := [3]) (by kernel_rfl) (by simp) ?_
    refine AllReadyH.cons (o := { dst := some 29, op := Op.call { callee := Callee.value (Operand.func 30), args := #[Operand.tmp 28], argTypes := #[22] }, type := 22, pos := "law.go:65", after := #[{ on := 2, ground := Ground.data }], guard := none }) rfl (fun K hK => ?_) AllReadyH.nil
    go_simp
    refine (nearp_at va hok.2.2.2.1 _).mono ?_
    rintro e z1 ⟨rfl, rfl⟩
    go_wp2_with fail
    refine shut_grow _ hK (fun _ h => h) hHeld (fun hHeld => ?_)
    clear hK K
    skip
    refine wpAnyH_ready (rs := [8]) (by kernel_rfl) (by simp) ?_
    refine AllReadyH.cons (o := { dst := some 34, op := Op.call { callee := Callee.value (Operand.func 32), args := #[Operand.tmp 26, Operand.tmp 29, Operand.tmp 31, Operand.tmp 33], argTypes := #[75, 22, 3, 22] }, type := 4, pos := "law.go:65", after := #[{ on := 0, ground := Ground.data }, { on := 3, ground := Ground.data }, { on := 5, ground := Ground.data }, { on := 7, ground := Ground.data }, { on := 3, ground := Ground.chain }], guard := none }) rfl (fun K hK => ?_) AllReadyH.nil
    go_simp
    have CP := put_both (HDY.out.keep0 HYD.out) hc (nearP va) fr bb (nearP_lt hok.2.2.2.1) hok.2.2.2.2.1.1 hok.2.2.2.2.1.2 hok.2.2.2.2.2
    refine CP.mono ?_
    rintro e z2 ⟨b, rfl, hst, HN⟩
    have hb2 := hst b5 _ (HYD.out.heap HY.out.1 (by simp))
    have s4 : z2.cell? ⟨b5, 4, none⟩ = some (.int .u32 (va : Nat)) := cell_of hb2 4 rfl
    have s5 : z2.cell? ⟨b5, 5, none⟩ = some (.int .i64 fr) := cell_of hb2 5 rfl
    have s6 : z2.cell? ⟨b5, 6, none⟩ = some (.int .u32 (bb : Nat)) := cell_of hb2 6 rfl
    have HB2 := Lib.hid hb2
    clear hst hb2 CP hHeld
    go_wp2_with fail
    refine shut_grow _ hK (fun _ h => h) ⟨s4, s5, s6⟩ (fun hHeld => ?_)
    clear hK K s4 s5 s6
    skip
    refine wpAnyH_ready (rs := [12]) (by kernel_rfl) (by simp) ?_
    refine AllReadyH.cons (o := { dst := some 38, op := Op.call { callee := Callee.value (Operand.func 30), args := #[Operand.tmp 37], argTypes := #[22] }, type := 22, pos := "law.go:65", after := #[{ on := 11, ground := Ground.data }, { on := 8, ground := Ground.chain }], guard := none }) rfl (fun K hK => ?_) AllReadyH.nil
    go_simp
    refine (nearp_at va hok.2.2.2.1 _).mono ?_
    rintro e z1 ⟨rfl, rfl⟩
    go_wp2_with fail
    refine shut_grow _ hK (fun _ h => h) hHeld (fun hHeld => ?_)
    clear hK K
    skip
    refine wpAnyH_ready (rs := [17]) (by kernel_rfl) (by simp) ?_
    refine AllReadyH.cons (o := { dst := some 43, op := Op.call { callee := Callee.value (Operand.func 72), args := #[Operand.tmp 35, Operand.tmp 38, Operand.tmp 40, Operand.tmp 42], argTypes := #[76, 22, 3, 22] }, type := 4, pos := "law.go:65", after := #[{ on := 9, ground := Ground.data }, { on := 12, ground := Ground.data }, { on := 14, ground := Ground.data }, { on := 16, ground := Ground.data }, { on := 12, ground := Ground.chain }], guard := none }) rfl (fun K hK => ?_) AllReadyH.nil
    go_simp
    refine (HN.out _ (Keep.refl _ _)).mono ?_
    rintro e z3 ⟨rfl, hfin, hst3⟩
    have hb3 := hst3 b5 _ HB2.out
    have HF : Hid (DoFin W0 B q r fb g p pm most ns rb sh ga gc ea ec kept lost c x z3) := Lib.hid (HFX.out _ (by
      obtain ⟨h1, h2⟩ := hfin
      exact ⟨(Keep.upTo HYD.out (by simp)).trans h1, h2⟩))
    go_wp2_with fail
    refine shut_grow (fun z => z = z3) hK (fun z h => by rw [h]; exact ⟨cell_of hb3 4 rfl, cell_of hb3 5 rfl, cell_of hb3 6 rfl⟩) rfl (fun hHeld => ?_)
    clear hK K
    refine wpAnyH_take (i := 18) (oi := { dst := some 44, op := Op.binOp BinOp.eql 4 (Operand.tmp 34) (Operand.tmp 43) 4, type := 4, pos := "law.go:65", after := #[{ on := 8, ground := Ground.data }, { on := 17, ground := Ground.data }], guard := none }) (v := ?_) rfl (by kernel_rfl) (by kernel_rfl) (by kernel_rfl) (fun _ _ _ h => h) (Or.inl ⟨by rfl, ?_⟩) (by assumption) ?_
    rotate_left
    focus (intro w hSw; (try dsimp only at hSw); go_simp <;> with_reducible rfl)
    try simp only [Act.put, List.setIfInBounds_toArray, List.set_cons_zero, List.set_cons_succ]
    refine wpAnyH_take (i := 19) (oi := { dst := some 6, op := Op.assign (Operand.tmp 44), type := 4, pos := "law.go:65", after := #[{ on := 18, ground := Ground.data }, { on := 17, ground := Ground.chain }, { on := 0, ground := Ground.phase }, { on := 1, ground := Ground.phase }, { on := 2, ground := Ground.phase }, { on := 3, ground := Ground.phase }, { on := 4, ground := Ground.phase }, { on := 5, ground := Ground.phase }, { on := 6, ground := Ground.phase }, { on := 7, ground := Ground.phase }, { on := 8, ground := Ground.phase }, { on := 9, ground := Ground.phase }, { on := 10, ground := Ground.phase }, { on := 11, ground := Ground.phase }, { on := 12, ground := Ground.phase }, { on := 13, ground := Ground.phase }, { on := 14, ground := Ground.phase }, { on := 15, ground := Ground.phase }, { on := 16, ground := Ground.phase }, { on := 17, ground := Ground.phase }, { on := 18, ground := Ground.phase }], guard := none }) (v := ?_) rfl (by kernel_rfl) (by kernel_rfl) (by kernel_rfl) (fun _ _ _ h => h) (Or.inl ⟨by rfl, ?_⟩) (by assumption) ?_
    rotate_left
    focus (intro w hSw; (try dsimp only at hSw); go_simp <;> with_reducible rfl)
    try simp only [Act.put, List.setIfInBounds_toArray, List.set_cons_zero, List.set_cons_succ]
    refine wpAnyH_done (by kernel_rfl) ?_ _
    clear hHeld hfin hst3 hb3
    go_wp2_with fail
    go_ret
    exact ⟨rfl, HF.out⟩
  · clear d0 hk0
    go_wp2_with fail
    refine (clear_both HDY.out).mono ?_
    rintro e z ⟨⟨v, rfl⟩, HN⟩
    go_wp2_with fail
    refine (HN.out _ (Keep.refl _ _)).mono ?_
    rintro e z2 ⟨⟨v2, rfl⟩, hfin⟩
    have HF := Lib.hid (HFX.out _ hfin)
    clear hfin HN
    go_wp2_with fail
    go_ret
    exact ⟨rfl, HF.out⟩
  · clear hk0
    have HF : Hid (DoFin W0 B q r fb g p pm most ns rb sh ga gc ea ec kept lost c x y2) := Lib.hid (HFX.out _ ⟨KeepTo.refl _ _, T, up, A, age, use, R, HDY.out.hb.later (by omega) (by omega), HDY.out.ag, HDY.out.ne⟩)
    go_wp2_with fail
    go_ret
    exact ⟨rfl, HF.out⟩
end
end Go.Proofs.Ytpinoejckagjbaa
