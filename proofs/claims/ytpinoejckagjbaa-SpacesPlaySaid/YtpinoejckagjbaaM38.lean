/- Contracts of the functions that the law reaches, walked, and the plain laws on them (several texts in one). -/
import Derived.Deep.QuietTactic
import Derived.Test.YtpinoejckagjbaaM37

/- The program's spaces: root, counts and pages. -/
namespace Go.Proofs.Ytpinoejckagjbaa
open Go.RowKit Go.Mum
set_option linter.unusedVariables false
set_option linter.unusedSimpArgs false
set_option maxRecDepth 100000

theorem quiet_of_eq {f : FuncId} {args : Array Value} {w x : World} {k : Nat} (hw : w = x.drewN k) {v : Value} (h : Calls Try.prog f args w fun e y => e = .returned v ∧ w = y) : Calls Try.prog f args w fun e y => e = .returned v ∧ ∃ m, y = x.drewN m :=
  h.mono fun e y ⟨he, hy⟩ => ⟨he, k, by rw [← hy, hw]⟩

section
variable {x y : World} {q r fb g p pm most ns : Nat} {sh : Nat → Nat} {uv : Nat → Value} {T : Nat → Nat → Tab} {up : Nat → Bool} {L lent : List Int} {c : Nat} {A : QSt} {age : List Nat} {use : Bool} {kept lost : Nat} {f : Nat → Value} {ga gc : Nat} {ea : Option Addr} {ec : Nat}

theorem root_off (h0 : x.cell? ⟨q, 0, none⟩ = some (.bool true)) (h44 : x.cell? ⟨q, 44, none⟩ = some (.bool false)) :
    Calls Try.prog 33 #[.pointer (some ⟨q, 0, none⟩)] x fun e y => e = .returned (.int .u32 0) ∧ x = y := by
  go_enter Try.func33, Try.ntmps33
  go_wp2_with fail
  refine (none_at h0).mono ?_
  rintro e y ⟨rfl, rfl⟩
  go_wp2_with fail
  go_ret
  exact ⟨rfl, rfl⟩

theorem root_at (h : SpAt x q r fb g p pm most ns sh uv T up L lent c A age true kept lost f ga gc ea ec) {i : Nat} (hi : i + 1 = age.length) :
    Calls Try.prog 33 #[.pointer (some ⟨q, 0, none⟩)] x fun e y => e = .returned (.int .u32 ((64 * (20 + 2 * age[i]'(by omega)) : Nat) : Int)) ∧ ∃ m, y = x.drewN m := by
  have hil : i < age.length := by omega
  have hnl := h.qq.lt _ (List.getElem_mem hil)
  have CN := Lib.hid (now_quiet h.qq hi)
  obtain ⟨c0, -, -, -, c4, -⟩ := h.qq.cells
  have hns8 := h.qq.ns8
  obtain ⟨n, hn⟩ : ∃ n, n = age[i] := ⟨_, rfl⟩
  rw [← hn] at hnl CN ⊢
  obtain ⟨q0, -⟩ := h.qq.space (k := n) (by omega)
  rw [if_pos hnl] at q0
  have CR : Hid (∀ k, Calls Try.prog 16 #[.pointer (some ⟨sh n, 0, none⟩)] (x.drewN k) fun e y => e = .returned (.int .u32 ((64 * (20 + 2 * n) : Nat) : Int)) ∧ ∃ m, y = x.drewN m) := Lib.hid (fun k => by
    obtain ⟨s0, s1, s2, s3⟩ := ((h.m.shs n hnl).keep ((Keep.refl [] x).drewN k) (by simp)).heads
    exact quiet_of_eq rfl (sroot_at s0 s2 (by omega)))
  have hn0 : (0 : Int) ≤ (n : Int) := by omega
  have hn8 : (n : Int) < 8 := by omega
  clear h hi hil hn hnl hns8
  go_enter Try.func33, Try.ntmps33
  go_wp2_with fail
  refine (none_at c0).mono ?_
  rintro e y ⟨rfl, rfl⟩
  go_wp2_with fail
  go_quiet ((first | (go_at_call 64; exact CN.out _) | (go_at_call 16; exact CR.out _)))
  go_wp2_with fail
  go_ret
  exact ⟨rfl, _, rfl⟩

theorem counts_at (h : SpAt x q r fb g p pm most ns sh uv T up L lent c A age use kept lost f ga gc ea ec) :
    Calls Try.prog 41 #[.pointer (some ⟨q, 0, none⟩)] x fun e y => e = .returned (.tuple #[.int .i64 (kept : Nat), .int .i64 (lost : Nat)]) ∧ ∃ m, y = x.drewN m := by
  obtain ⟨c0, -, -, -, -, -, c6, c7⟩ := h.qq.cells
  have C6 : Hid (∀ k, Calls Try.prog 75 #[.pointer (some ⟨q, 46, none⟩)] (x.drewN k) fun e y => e = .returned (.int .i64 (kept : Nat)) ∧ ∃ m, y = x.drewN m) := Lib.hid (fun k => quiet_of_eq rfl (aload_at (((Keep.refl [] x).drewN k).cell c6 (by simp))))
  have C7 : Hid (∀ k, Calls Try.prog 75 #[.pointer (some ⟨q, 47, none⟩)] (x.drewN k) fun e y => e = .returned (.int .i64 (lost : Nat)) ∧ ∃ m, y = x.drewN m) := Lib.hid (fun k => quiet_of_eq rfl (aload_at (((Keep.refl [] x).drewN k).cell c7 (by simp))))
  clear h
  go_enter Try.func41, Try.ntmps41
  go_wp2_with fail
  refine (none_at c0).mono ?_
  rintro e y ⟨rfl, rfl⟩
  go_wp2_with fail
  go_quiet ((first | (go_at_call 75; exact C6.out _) | (go_at_call 75; exact C7.out _)))
  go_wp2_with fail
  go_ret2
  exact ⟨rfl, _, rfl⟩

theorem pages_off (h0 : x.cell? ⟨q, 0, none⟩ = some (.bool true)) (h44 : x.cell? ⟨q, 44, none⟩ = some (.bool false)) :
    Calls Try.prog 43 #[.pointer (some ⟨q, 0, none⟩)] x fun e y => e = .returned (.slice none 0 0) ∧ x = y := by
  go_enter Try.func43, Try.ntmps43
  go_wp2_with fail
  refine (none_at h0).mono ?_
  rintro e y ⟨rfl, rfl⟩
  go_wp2_with fail
  go_ret
  exact ⟨rfl, rfl⟩

def PagesX (pl : List Int) (w : World) (e : Ending) (w' : World) : Prop :=
  ∃ v, e = .returned v ∧ w'.ownsRow w.heap.size 22 1 v pl.length (pl.map (Value.int .u32)) ∧ Keep [] w w'

theorem pages_at (h : SpAt x q r fb g p pm most ns sh uv T up L lent c A age true kept lost f ga gc ea ec) {i : Nat} (hi : i + 1 = age.length) :
    Calls Try.prog 43 #[.pointer (some ⟨q, 0, none⟩)] x (PagesX (plV (tabE (T (age[i]'(by omega)))) 512) x) := by
  have hil : i < age.length := by omega
  have hnl := h.qq.lt _ (List.getElem_mem hil)
  have CN := Lib.hid (fun u (hu : Keep [] x u) => now_at (h.qq.keep0 hu) hi)
  obtain ⟨c0, -, -, -, c4, -⟩ := h.qq.cells
  have hns8 := h.qq.ns8
  obtain ⟨n, hn⟩ : ∃ n, n = age[i] := ⟨_, rfl⟩
  rw [← hn] at hnl CN ⊢
  obtain ⟨q0, -⟩ := h.qq.space (k := n) (by omega)
  rw [if_pos hnl] at q0
  have CP : Hid (∀ u, Keep [] x u → Calls Try.prog 23 #[.pointer (some ⟨sh n, 0, none⟩)] u (PagesX (plV (tabE (T n)) 512) x)) := Lib.hid (fun u hu => by
    have hs := (h.m.shs n hnl).keep hu (by simp)
    refine (spages_at (ueach_at hs (fun m hm k hk => (h.m.inv.ent n hnl m hm k hk).lt)) hs.heads.1).mono ?_
    rintro e w' ⟨v, rfl, h1, h2⟩
    exact ⟨v, rfl, own_base h1 hu.size, hu.trans (below_keep h2 (Nat.le_refl _))⟩)
  have hn0 : (0 : Int) ≤ (n : Int) := by omega
  have hn8 : (n : Int) < 8 := by omega
  clear h hi hil hn hnl hns8
  go_enter Try.func43, Try.ntmps43
  go_wp2_with fail
  refine (none_at c0).mono ?_
  rintro e y ⟨rfl, rfl⟩
  go_wp2_with fail
  refine wp_region_held_drew (S := fun u => u.cell? ⟨q, 3 + n * 5, none⟩ = some (.pointer (some ⟨sh n, 0, none⟩)) ∧ Keep [] x u) (by kernel_rfl) ⟨q0, (Keep.refl [] x).drew⟩ (fun hHeld => ?_)
  skip
  generalize World.drew x = x2 at hHeld ⊢
  refine wpAnyH_take (i := 0) (oi := { dst := some 12, op := Op.move (Operand.tmp 0), type := 75, pos := "spaces.go:186", after := #[], guard := none }) (v := ?_) rfl (by kernel_rfl) (by kernel_rfl) (by kernel_rfl) (fun _ _ _ h => h) (Or.inl ⟨by rfl, ?_⟩) (by assumption) ?_
  rotate_left
  focus (intro w hSw; (try dsimp only at hSw); go_simp <;> with_reducible rfl)
  try simp only [Act.put, List.setIfInBounds_toArray, List.set_cons_zero, List.set_cons_succ]
  refine wpAnyH_take (i := 1) (oi := { dst := some 13, op := Op.move (Operand.tmp 0), type := 75, pos := "spaces.go:186", after := #[], guard := none }) (v := ?_) rfl (by kernel_rfl) (by kernel_rfl) (by kernel_rfl) (fun _ _ _ h => h) (Or.inl ⟨by rfl, ?_⟩) (by assumption) ?_
  rotate_left
  focus (intro w hSw; (try dsimp only at hSw); go_simp <;> with_reducible rfl)
  try simp only [Act.put, List.setIfInBounds_toArray, List.set_cons_zero, List.set_cons_succ]
  refine wpAnyH_take (i := 3) (oi := { dst := some 15, op := Op.nilCheck (Operand.tmp 12), type := 0, pos := "spaces.go:186", after := #[{ on := 0, ground := Ground.data }], guard := none }) (v := ?_) rfl (by kernel_rfl) (by kernel_rfl) (by kernel_rfl) (fun _ _ _ h => h) (Or.inl ⟨by rfl, ?_⟩) (by assumption) ?_
  rotate_left
  focus (intro w hSw; (try dsimp only at hSw); go_simp <;> with_reducible rfl)
  try simp only [Act.put, List.setIfInBounds_toArray, List.set_cons_zero, List.set_cons_succ]
  refine wpAnyH_take (i := 4) (oi := { dst := some 16, op := Op.fieldAddr 102 (Operand.tmp 15) 3, type := 0, pos := "spaces.go:186", after := #[{ on := 3, ground := Ground.data }], guard := none }) (v := ?_) rfl (by kernel_rfl) (by kernel_rfl) (by kernel_rfl) (fun _ _ _ h => h) (Or.inl ⟨by rfl, ?_⟩) (by assumption) ?_
  rotate_left
  focus (intro w hSw; (try dsimp only at hSw); go_simp <;> with_reducible rfl)
  try simp only [Act.put, List.setIfInBounds_toArray, List.set_cons_zero, List.set_cons_succ]
  refine wpAnyH_ready (rs := [2]) (by kernel_rfl) (by simp) ?_
  refine AllReadyH.cons (o := { dst := some 14, op := Op.call { callee := Callee.value (Operand.func 64), args := #[Operand.tmp 13], argTypes := #[75] }, type := 3, pos := "spaces.go:186", after := #[{ on := 1, ground := Ground.data }], guard := none }) rfl (fun K hK => ?_) AllReadyH.nil
  go_simp
  refine (CN.out _ hHeld.2).mono ?_
  rintro e u1 ⟨rfl, m, hu1⟩
  have hk1 : Keep [] x u1 := by rw [hu1]; exact hHeld.2.drewN _
  have hq1 := hk1.cell q0 (by simp)
  clear hu1
  go_wp2_with fail
  refine shut_grow (fun u => u.cell? ⟨q, 3 + n * 5, none⟩ = some (.pointer (some ⟨sh n, 0, none⟩)) ∧ Keep [] x u) hK (fun _ h => h) ⟨hq1, hk1⟩ (fun hHeld => ?_)
  clear hK K hq1 hk1
  refine wpAnyH_take (i := 5) (oi := { dst := some 17, op := Op.indexAddr 95 (Operand.tmp 16) (Operand.tmp 14), type := 0, pos := "spaces.go:186", after := #[{ on := 4, ground := Ground.data }, { on := 2, ground := Ground.data }], guard := none }) (v := ?_) rfl (by kernel_rfl) (by kernel_rfl) (by kernel_rfl) (fun _ _ _ h => h) (Or.inl ⟨by rfl, ?_⟩) (by assumption) ?_
  rotate_left
  focus (intro w hSw; (try dsimp only at hSw); go_simp <;> with_reducible rfl)
  try simp only [Act.put, List.setIfInBounds_toArray, List.set_cons_zero, List.set_cons_succ]
  refine wpAnyH_take (i := 6) (oi := { dst := some 18, op := Op.fieldAddr 94 (Operand.tmp 17) 0, type := 0, pos := "spaces.go:186", after := #[{ on := 5, ground := Ground.data }], guard := none }) (v := ?_) rfl (by kernel_rfl) (by kernel_rfl) (by kernel_rfl) (fun _ _ _ h => h) (Or.inl ⟨by rfl, ?_⟩) (by assumption) ?_
  rotate_left
  focus (intro w hSw; (try dsimp only at hSw); go_simp <;> with_reducible rfl)
  try simp only [Act.put, List.setIfInBounds_toArray, List.set_cons_zero, List.set_cons_succ]
  refine wpAnyH_take (i := 7) (oi := { dst := some 19, op := Op.load 27 (Operand.tmp 18), type := 27, pos := "spaces.go:186", after := #[{ on := 6, ground := Ground.data }], guard := none }) (v := ?_) rfl (by kernel_rfl) (by kernel_rfl) (by kernel_rfl) (fun _ _ _ h => h) (Or.inl ⟨by rfl, ?_⟩) (by assumption) ?_
  rotate_left
  focus (intro w hSw; (try dsimp only at hSw); go_simp <;> with_reducible rfl)
  try simp only [Act.put, List.setIfInBounds_toArray, List.set_cons_zero, List.set_cons_succ]
  refine wpAnyH_ready (rs := [8]) (by kernel_rfl) (by simp) ?_
  refine AllReadyH.cons (o := { dst := some 20, op := Op.call { callee := Callee.value (Operand.func 23), args := #[Operand.tmp 19], argTypes := #[27] }, type := 44, pos := "spaces.go:186", after := #[{ on := 7, ground := Ground.data }, { on := 2, ground := Ground.chain }], guard := none }) rfl (fun K hK => ?_) AllReadyH.nil
  go_simp
  refine (CP.out _ hHeld.2).mono ?_
  rintro e u2 ⟨v, rfl, h1, h2⟩
  have hq2 := h2.cell q0 (by simp)
  have HF : Hid (PagesX (plV (tabE (T n)) 512) x (.returned v) u2) := Lib.hid ⟨v, rfl, h1, h2⟩
  obtain ⟨va, vc, rfl⟩ := own_form h1
  clear h1
  go_wp2_with fail
  refine shut_grow (fun u => u = u2) hK (fun _ h => by rw [h]; exact ⟨hq2, h2⟩) rfl (fun hHeld => ?_)
  clear hK K hq2 h2
  refine wpAnyH_take (i := 9) (oi := { dst := some 2, op := Op.assign (Operand.tmp 20), type := 44, pos := "spaces.go:186", after := #[{ on := 8, ground := Ground.data }, { on := 8, ground := Ground.chain }, { on := 0, ground := Ground.phase }, { on := 1, ground := Ground.phase }, { on := 2, ground := Ground.phase }, { on := 3, ground := Ground.phase }, { on := 4, ground := Ground.phase }, { on := 5, ground := Ground.phase }, { on := 6, ground := Ground.phase }, { on := 7, ground := Ground.phase }, { on := 8, ground := Ground.phase }], guard := none }) (v := ?_) rfl (by kernel_rfl) (by kernel_rfl) (by kernel_rfl) (fun _ _ _ h => h) (Or.inl ⟨by rfl, ?_⟩) (by assumption) ?_
  rotate_left
  focus (intro w hSw; (try dsimp only at hSw); go_simp <;> with_reducible rfl)
  try simp only [Act.put, List.setIfInBounds_toArray, List.set_cons_zero, List.set_cons_succ]
  refine wpAnyH_done (by kernel_rfl) ?_ _
  clear hHeld
  go_wp2_with fail
  go_ret
  exact HF.out
end
end Go.Proofs.Ytpinoejckagjbaa
