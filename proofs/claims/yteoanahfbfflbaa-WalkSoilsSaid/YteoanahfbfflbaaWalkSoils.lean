/- The law WalkSoils, walked. -/
import Derived.Test.YteoanahfbfflbaaWalkD
import Derived.Test.YteoanahfbfflbaaRamP5
import Derived.RegionTactic
import Derived.Outline
namespace Go.Proofs.Yteoanahfbfflbaa
open Go.RowKit Go.Mum
set_option linter.unusedVariables false

/-- A block that holds a way. -/
def WayAt (x : World) (m : Nat) (b a e d t p : Int) : Prop := x.heap[m]? = some (.cells #[.int .u32 b, .int .u32 a, .int .u32 e, .int .i64 d, .int .i64 t, .int .i64 p] 58 (0, 0))
theorem WayAt.facts {x : World} {m : Nat} {b a e d t p : Int} (h : WayAt x m b a e d t p) : x.cell? ⟨m, 0, none⟩ = some (.int .u32 b) ∧ x.cell? ⟨m, 1, none⟩ = some (.int .u32 a) ∧ x.cell? ⟨m, 2, none⟩ = some (.int .u32 e) ∧ x.cell? ⟨m, 3, none⟩ = some (.int .i64 d) ∧ x.cell? ⟨m, 4, none⟩ = some (.int .i64 t) ∧ x.cell? ⟨m, 5, none⟩ = some (.int .i64 p) ∧ x.frozen? ⟨m, 0, none⟩ = false :=
  ⟨cell_of h 0 rfl, cell_of h 1 rfl, cell_of h 2 rfl, cell_of h 3 rfl, cell_of h 4 rfl, cell_of h 5 rfl, frozen_of h 0⟩
theorem WayAt.keep {l : List Nat} {x y : World} {m : Nat} {b a e d t p : Int} (h : WayAt x m b a e d t p) (hk : Keep l x y) (hm : m ∉ l) : WayAt y m b a e d t p := hk.heap h hm

theorem soil_ways {n root va : Nat} {L : List Int} (hl : L.length = 64 * n) (hL : IsBytes L) :
    ∃ (f : Bool) (b a d t p c : Int) (e : Nat), wayV (lookF (rdOf n L) n root 16 va) = .agg #[.int .u32 b, .int .u32 a, .int .u32 e, .int .i64 d, .int .i64 t, .int .i64 p] ∧ (lookF (rdOf n L) n root 16 va).isSome = f ∧
      bits .andNot .u32 b 16 = c ∧ e < 4294967296 ∧ ∀ A, ∃ b', wayV (lookF (rdOf n (soilL n L A)) n root 16 va) = .agg #[.int .u32 b', .int .u32 a, .int .u32 e, .int .i64 d, .int .i64 t, .int .i64 p] ∧ (lookF (rdOf n (soilL n L A)) n root 16 va).isSome = f ∧
      bits .andNot .u32 b' 16 = c ∧ (f = true → A = e → bits .and .u32 b' 16 = 16) := by
  cases h : lookF (rdOf n L) n root 16 va with
  | none =>
    refine ⟨false, 0, 0, 0, 0, 0, 0, 0, rfl, rfl, by decide, by decide, fun A => ?_⟩
    obtain ⟨-, hs, hA⟩ := soil_sim (n := n) (a := A) hl
    rcases look_sim n root 16 va hs with ⟨h1, h2⟩ | ⟨b, b', a, e, d, t, p, h1, h2, q1, q2, q3, q4⟩
    · rw [h2]
      exact ⟨0, rfl, rfl, by decide, by simp⟩
    · rw [h] at h1; cases h1
  | some k =>
    obtain ⟨b, a, e, d, t, p⟩ := k
    have hb : b < 32 := (lookF_lt (fun a z hz => rdOf_lt hL hl hz) h).1
    refine ⟨true, b, a, d, t, p, (b % 16 : Nat), e, rfl, rfl, andNot16 b hb, (lookF_lt (fun a z hz => rdOf_lt hL hl hz) h).2.2, fun A => ?_⟩
    obtain ⟨-, hs, hA⟩ := soil_sim (n := n) (a := A) hl
    rcases look_sim n root 16 va hs with ⟨h1, h2⟩ | ⟨b1, b', a1, e1, d1, t1, p1, h1, h2, q1, q2, q3, q4⟩
    · rw [h] at h1; cases h1
    · rw [h] at h1
      cases h1
      rw [h2]
      refine ⟨b', rfl, rfl, by rw [andNot16 b' q3, q1], fun _ hAe => and16 b' q3 ?_⟩
      subst hAe
      obtain ⟨-, -, y, hy, -⟩ := look_frames h2
      exact q4 y hy (hA y hy)

theorem both_set {r fb g q n : Nat} {L L' : List Int} {w y z : World} (h : Both w r fb g q n L) (hl : L'.length = L.length) (hr : RamAt y r fb g (List.range n) L') (hd : RefAt z (some ⟨q, 0, none⟩) L') (hq : Keep [q] y z) : Both z r fb g q n L' := by
  have hr' := hr.keep hq (by simpa using h.qs.1.symm) (by simpa using h.qs.2.1.symm) (by simpa using h.qs.2.2.symm)
  obtain ⟨q', e, hqd⟩ := hd.some_of (by rw [hl, h.len]; have := h.n1; omega)
  cases e
  exact h.set hl hr' hqd

set_option maxRecDepth 100000 in
set_option maxHeartbeats 4000000 in
theorem WalkSoils_walk (a0 : Int) (s1 : Option Addr) (len1 cap1 n1 : Nat) (c2 : Array Value) (n2 : Nat) (w : World) (w0 : (Lit.int .u8 a0).wf = true) (w1 : Fits Try.prog w maxLen n1 53 [.slice s1 len1 cap1]) (w2 : Fits Try.prog w maxLen n2 54 c2.toList) :
    Calls Try.prog 11 #[.int .u8 a0, .slice s1 len1 cap1, .agg c2] w fun e w' => e = .returned (.bool true) ∧ Below w.heap.size w w' := by
  obtain ⟨x0, x1, x2, rfl, h0, h1, h2⟩ := three_of_fits w2
  obtain ⟨n, es, hn4, hn10, HM⟩ := made_start w0 w1
  have HM := Lib.hid HM
  clear w0 w1 w2
  go_enter Try.func11, Try.ntmps11
  go_wp2_with fail
  obtain ⟨bx, hbx⟩ : ∃ bx, bx = w.heap.size := ⟨_, rfl⟩
  rw [← hbx]
  generalize hx : w.alloc _ = x
  have HX : Hid (Keep [] w x ∧ x.cell? ⟨bx, 0, none⟩ = some (.int .u32 x0) ∧ x.cell? ⟨bx, 1, none⟩ = some (.int .u32 x1) ∧ x.cell? ⟨bx, 2, none⟩ = some (.int .u32 x2) ∧ bx < x.heap.size ∧ w.heap.size ≤ bx) := Lib.hid (by
    subst hx hbx
    exact ⟨(Keep.refl [] w).alloc _, cell_of (heap_alloc_same w _) 0 rfl, cell_of (heap_alloc_same w _) 1 rfl, cell_of (heap_alloc_same w _) 2 rfl, by simp, Nat.le_refl _⟩)
  clear hx hbx
  refine (HM.out x HX.out.1).mono ?_
  rintro e y ⟨r, fb, g, q, hr, hfb, hg, hq, rfl, hB, hK⟩
  have hb3 : bx < g ∧ bx < q := by have := HX.out.2.2.2.2.1; omega
  have hb4 : w.heap.size ≤ g ∧ w.heap.size ≤ q := by have := HX.out.2.2.2.2.2; omega
  have c0 : ∀ o, (y.alloc o).cell? ⟨bx, 0, none⟩ = some (.int .u32 x0) := fun o => (hK.alloc o).cell HX.out.2.1 (by simp)
  have c1 : ∀ o, (y.alloc o).cell? ⟨bx, 1, none⟩ = some (.int .u32 x1) := fun o => (hK.alloc o).cell HX.out.2.2.1 (by simp)
  have c2 : ∀ o, (y.alloc o).cell? ⟨bx, 2, none⟩ = some (.int .u32 x2) := fun o => (hK.alloc o).cell HX.out.2.2.2.1 (by simp)
  have HY := Lib.hid (And.intro hB (HX.out.1.trans hK))
  clear hB hK hr hfb hg hq HX HM
  generalize es.take 64 = es at HY
  generalize madeL n es = L at HY
  have L1 := Lib.hid (fun z (hz : Keep [] y z) => look_at (HY.out.1.keep0 hz).mem x0 16 x1 h0 (by omega) h1)
  have hn3 : 64 * (n : Int) / 64 = (n : Int) := by omega
  obtain ⟨f, b, a, d, t, p, c, e, W1, W2, hc1, he, HA⟩ := soil_ways (n := n) (root := x0) (va := x1) HY.out.1.len HY.out.1.ref.2.1
  unfold LookPost at L1
  rw [W1, W2] at L1
  have HA := Lib.hid HA
  clear W1 W2
  go_wp2_with fail
  obtain ⟨dx, hdx⟩ : ∃ dx, dx = y.heap.size := ⟨_, rfl⟩
  rw [← hdx]
  replace c0 := c0 (.cells #[.slice (some ⟨q, 0, none⟩) (64 * n) (64 * n)] 35)
  replace c1 := c1 (.cells #[.slice (some ⟨q, 0, none⟩) (64 * n) (64 * n)] 35)
  replace c2 := c2 (.cells #[.slice (some ⟨q, 0, none⟩) (64 * n) (64 * n)] 35)
  generalize hy2 : y.alloc _ = y2 at c0 c1 c2 ⊢
  have HZ : Hid (Keep [] y y2 ∧ y2.cell? ⟨dx, 0, none⟩ = some (.slice (some ⟨q, 0, none⟩) (64 * n) (64 * n)) ∧ g < dx ∧ q < dx ∧ dx < y2.heap.size) := Lib.hid (by
    have := HY.out.1.lt
    subst hy2 hdx
    exact ⟨(Keep.refl [] y).alloc _, cell_of (heap_alloc_same y _) 0 rfl, this.2.2.1, this.2.2.2, by simp⟩)
  clear hy2 hdx
  have cd := HZ.out.2.1
  refine (L1.out _ HZ.out.1).mono ?_
  rintro e' z ⟨rfl, hK⟩
  have HK := Lib.hid (HZ.out.1.trans hK)
  have hzz : dx < z.heap.size := by have := hK.size; have := HZ.out.2.2.2.2; omega
  have hgd := HZ.out.2.2.1
  have hqd := HZ.out.2.2.2.1
  replace c0 := fun o => (hK.alloc o).cell c0 (by simp)
  replace c1 := fun o => (hK.alloc o).cell c1 (by simp)
  replace c2 := fun o => (hK.alloc o).cell c2 (by simp)
  replace cd := fun o => (hK.alloc o).cell cd (by simp)
  clear hK
  obtain ⟨ax, hax⟩ : ∃ ax, ax = z.heap.size := ⟨_, rfl⟩
  replace c0 := c0 (.cells #[.int .u32 b, .int .u32 a, .int .u32 e, .int .i64 d, .int .i64 t, .int .i64 p] 58)
  replace c1 := c1 (.cells #[.int .u32 b, .int .u32 a, .int .u32 e, .int .i64 d, .int .i64 t, .int .i64 p] 58)
  replace c2 := c2 (.cells #[.int .u32 b, .int .u32 a, .int .u32 e, .int .i64 d, .int .i64 t, .int .i64 p] 58)
  replace cd := cd (.cells #[.int .u32 b, .int .u32 a, .int .u32 e, .int .i64 d, .int .i64 t, .int .i64 p] 58)
  have HAx : ∀ o, o = Obj.cells #[.int .u32 b, .int .u32 a, .int .u32 e, .int .i64 d, .int .i64 t, .int .i64 p] 58 (0, 0) → WayAt (z.alloc o) z.heap.size b a e d t p := fun o h => by subst h; exact heap_alloc_same z _
  have HZ2 : Hid (Keep [] y (z.alloc (.cells #[.int .u32 b, .int .u32 a, .int .u32 e, .int .i64 d, .int .i64 t, .int .i64 p] 58)) ∧ WayAt (z.alloc (.cells #[.int .u32 b, .int .u32 a, .int .u32 e, .int .i64 d, .int .i64 t, .int .i64 p] 58)) z.heap.size b a e d t p) := Lib.hid ⟨HK.out.alloc _, HAx _ rfl⟩
  clear HAx
  obtain ⟨a0', a1', a2', -⟩ := HZ2.out.2.facts
  have hgx : g < ax ∧ q < ax ∧ dx < ax ∧ bx < ax := by omega
  by_cases hp : (x2 : Int) % 2 = 0
  · cases f with
    | true =>
      go_wp2_with fail
      obtain ⟨A, hAe0⟩ : ∃ A, A = e := ⟨e, rfl⟩
      have hAl : e < 4294967296 := he
      obtain ⟨b', V1, V2, hc2, hbe⟩ := HA.out e
      rw [← hax] at HZ2 a0' a1' a2' ⊢
      generalize hz2 : z.alloc _ = z2 at c0 c1 c2 cd a0' a1' a2' HZ2 ⊢
      clear hz2 hax hzz a0' a1' a2' c2 HA HZ L1
      have S1 := fun x (hx : Keep [] y x) => soil_at (HY.out.1.keep0 hx) e hAl
      have S2 := fun x (hx : Keep [g] y x) => rsoil_at (RefN.mk (HY.out.1.ref.keep hx (by simpa using HY.out.1.qs.2.2)) HY.out.1.len) e hAl
      unfold SoilPostR at S1
      unfold SoilPostD at S2
      generalize soilB (rdOf n L) e = ok at S1 S2
      have S1 := Lib.hid S1
      have S2 := Lib.hid S2
      have hsl := (soil_sim (a := e) HY.out.1.len).1
      have L3 := fun u (hu : Both u r fb g q n (soilL n L e)) x (hx : Keep [] u x) => look_at (hu.keep0 hx).mem x0 16 x1 h0 (by omega) h1
      unfold LookPost at L3
      rw [V1, V2] at L3
      clear V1 V2
      replace L3 := Lib.hid L3
      generalize soilL n L e = L' at hsl L3 S1 S2
      go_wp2_with fail
      refine wp_region_held_drew (S := fun x => Keep [g, q] z2 x ∧ x.cell? ⟨dx, 0, none⟩ = some (.slice (some ⟨q, 0, none⟩) (64 * n) (64 * n))) (by kernel_rfl) ⟨(Keep.refl [g, q] z2).drew, cd⟩ (fun hHeld => ?_)
      skip
      refine wpAnyH_take (i := 0) (oi := { dst := some 48, op := Op.move (Operand.tmp 7), type := 22, pos := "law.go:76", after := #[], guard := none }) (v := ?_) rfl (by kernel_rfl) (by kernel_rfl) (by kernel_rfl) (fun _ _ _ h => h) (Or.inl ⟨by rfl, ?_⟩) (by assumption) ?_
      rotate_left
      focus (intro w hSw; (try dsimp only at hSw); go_simp <;> with_reducible rfl)
      try simp only [Act.put, List.setIfInBounds_toArray, List.set_cons_zero, List.set_cons_succ]
      refine wpAnyH_take (i := 1) (oi := { dst := some 49, op := Op.move (Operand.tmp 12), type := 26, pos := "law.go:76", after := #[], guard := none }) (v := ?_) rfl (by kernel_rfl) (by kernel_rfl) (by kernel_rfl) (fun _ _ _ h => h) (Or.inl ⟨by rfl, ?_⟩) (by assumption) ?_
      rotate_left
      focus (intro w hSw; (try dsimp only at hSw); go_simp <;> with_reducible rfl)
      try simp only [Act.put, List.setIfInBounds_toArray, List.set_cons_zero, List.set_cons_succ]
      refine wpAnyH_take (i := 3) (oi := { dst := some 51, op := Op.load 35 (Operand.tmp 8), type := 35, pos := "law.go:76", after := #[], guard := none }) (v := ?_) rfl (by kernel_rfl) (by kernel_rfl) (by kernel_rfl) (fun _ _ _ h => h) (Or.inl ⟨by rfl, ?_⟩) (by assumption) ?_
      rotate_left
      focus (intro w hSw; (try dsimp only at hSw); go_simp <;> with_reducible rfl)
      try simp only [Act.put, List.setIfInBounds_toArray, List.set_cons_zero, List.set_cons_succ]
      refine wpAnyH_take (i := 4) (oi := { dst := some 52, op := Op.move (Operand.tmp 12), type := 26, pos := "law.go:76", after := #[], guard := none }) (v := ?_) rfl (by kernel_rfl) (by kernel_rfl) (by kernel_rfl) (fun _ _ _ h => h) (Or.inl ⟨by rfl, ?_⟩) (by assumption) ?_
      rotate_left
      focus (intro w hSw; (try dsimp only at hSw); go_simp <;> with_reducible rfl)
      try simp only [Act.put, List.setIfInBounds_toArray, List.set_cons_zero, List.set_cons_succ]
      refine wpAnyH_ready (rs := [2]) (by kernel_rfl) (by simp) ?_
      refine AllReadyH.cons (o := { dst := some 50, op := Op.call { callee := Callee.value (Operand.func 37), args := #[Operand.tmp 48, Operand.tmp 49], argTypes := #[22, 26] }, type := 4, pos := "law.go:76", after := #[{ on := 0, ground := Ground.data }, { on := 1, ground := Ground.data }], guard := none }) rfl (fun K hK => ?_) AllReadyH.nil
      go_simp
      refine (S1.out _ HZ2.out.1.drew).mono ?_
      rintro e' u1 ⟨rfl, hR1, hk1⟩
      have H1 := Lib.hid (And.intro hR1 ((HZ2.out.1.drew.weaken (l' := [g]) (by simp)).trans hk1))
      have hS1 : Keep [g, q] z2 u1 ∧ u1.cell? ⟨dx, 0, none⟩ = some (.slice (some ⟨q, 0, none⟩) (64 * n) (64 * n)) := ⟨hHeld.1.trans (hk1.weaken (by simp)), hk1.cell cd (by simp; omega)⟩
      have HS1 := Lib.hid hS1
      clear hR1 hk1 hS1
      go_wp2_with fail
      refine shut_grow (fun x => Keep [g, q] z2 x ∧ x.cell? ⟨dx, 0, none⟩ = some (.slice (some ⟨q, 0, none⟩) (64 * n) (64 * n))) hK (fun _ h => h) HS1.out (fun hHeld => ?_)
      clear hK K
      skip
      refine wpAnyH_ready (rs := [5]) (by kernel_rfl) (by simp) ?_
      refine AllReadyH.cons (o := { dst := some 53, op := Op.call { callee := Callee.value (Operand.func 38), args := #[Operand.tmp 51, Operand.tmp 52], argTypes := #[35, 26] }, type := 4, pos := "law.go:76", after := #[{ on := 3, ground := Ground.data }, { on := 4, ground := Ground.data }, { on := 2, ground := Ground.chain }], guard := none }) rfl (fun K hK => ?_) AllReadyH.nil
      go_simp
      refine (S2.out _ H1.out.2).mono ?_
      rintro e' u ⟨rfl, hR2, hk2⟩
      have hKu : Keep [g, q] z2 u := HS1.out.1.trans (hk2.weaken (by simp))
      have hcu : u.cell? ⟨dx, 0, none⟩ = some (.slice (some ⟨q, 0, none⟩) (64 * n) (64 * n)) := hk2.cell HS1.out.2 (by simp; omega)
      have HU : Hid (Both u r fb g q n L' ∧ Keep [g, q] z2 u ∧ WayAt u ax b a e d t p) := Lib.hid ⟨both_set HY.out.1 hsl H1.out.1 hR2 hk2, hKu, HZ2.out.2.keep hKu (by simp; omega)⟩
      have HC := Lib.hid hcu
      clear hR2 hk2
      go_wp2_with fail
      refine shut_grow (fun x => x = u) hK (fun _ h => by rw [h]; exact ⟨HU.out.2.1, HC.out⟩) rfl (fun hHeld => ?_)
      clear hK K
      refine wpAnyH_take (i := 6) (oi := { dst := some 54, op := Op.binOp BinOp.neq 4 (Operand.tmp 50) (Operand.tmp 53) 4, type := 4, pos := "law.go:76", after := #[{ on := 2, ground := Ground.data }, { on := 5, ground := Ground.data }], guard := none }) (v := ?_) rfl (by kernel_rfl) (by kernel_rfl) (by kernel_rfl) (fun _ _ _ h => h) (Or.inl ⟨by rfl, ?_⟩) (by assumption) ?_
      rotate_left
      focus (intro w hSw; (try dsimp only at hSw); go_simp <;> with_reducible rfl)
      try simp only [Act.put, List.setIfInBounds_toArray, List.set_cons_zero, List.set_cons_succ]
      refine wpAnyH_done (by kernel_rfl) ?_ _
      clear hHeld cd
      replace c0 := hKu.cell c0 (by simp; omega)
      replace c1 := hKu.cell c1 (by simp; omega)
      clear hKu S1 S2 HS1 H1
      replace L3 := Lib.hid (L3.out u HU.out.1)
      go_wp2_with fail
      go_loopw [13] (fun kv wr => ∃ k : Nat, kv = .int .i64 k ∧ k ≤ n ∧ Keep [] u wr) (fun kv _ => n - (intOf kv).toNat)
      case atStart => exact ⟨0, rfl, by omega, Keep.refl _ _⟩
      case round =>
        obtain ⟨k, rfl, hk, hK⟩ := hrel
        have hcb : wr.cell? ⟨dx, 0, none⟩ = some (.slice (some ⟨q, 0, none⟩) (64 * n) (64 * n)) := hK.cell hcu (by simp)
        by_cases hlt : k < n
        · have F1 := rframe_yes (HU.out.1.ram.keep0 (hK.drew)) k (by rw [List.length_range]; exact hlt)
          rw [frameOf_range L' hlt] at F1
          have F2 : ∀ x, Keep [] u x → Calls Try.prog 36 #[.agg #[.slice (some ⟨q, 0, none⟩) (64 * n) (64 * n)], .int .i64 k] x (RowPost ((L'.drop (64 * k)).take 64) x) := fun x hx => by
            have := fframe_yes (HU.out.1.ref.keep0 hx) k (by have := HU.out.1.len; omega)
            rw [HU.out.1.len] at this
            exact this
          have hml : ((L'.drop (64 * k)).take 64).length = 64 := by have := HU.out.1.len; rw [List.length_take, List.length_drop]; omega
          generalize (L'.drop (64 * k)).take 64 = M at F1 F2 hml
          have HF := Lib.hid (And.intro F1 (And.intro F2 hml))
          have HKu := Lib.hid hK
          clear F1 F2 hml hK
          go_wp2_with fail
          refine wp_region_held_drew (S := fun x => Keep [] wr x ∧ x.cell? ⟨dx, 0, none⟩ = some (.slice (some ⟨q, 0, none⟩) (64 * n) (64 * n))) (by kernel_rfl) ⟨(Keep.refl [] wr).drew, hcb⟩ (fun hHeld => ?_)
          skip
          refine wpAnyH_take (i := 0) (oi := { dst := some 63, op := Op.move (Operand.tmp 7), type := 22, pos := "law.go:80", after := #[], guard := none }) (v := ?_) rfl (by kernel_rfl) (by kernel_rfl) (by kernel_rfl) (fun _ _ _ h => h) (Or.inl ⟨by rfl, ?_⟩) (by assumption) ?_
          rotate_left
          focus (intro w hSw; (try dsimp only at hSw); go_simp <;> with_reducible rfl)
          try simp only [Act.put, List.setIfInBounds_toArray, List.set_cons_zero, List.set_cons_succ]
          refine wpAnyH_take (i := 1) (oi := { dst := some 64, op := Op.move (Operand.tmp 13), type := 3, pos := "law.go:80", after := #[], guard := none }) (v := ?_) rfl (by kernel_rfl) (by kernel_rfl) (by kernel_rfl) (fun _ _ _ h => h) (Or.inl ⟨by rfl, ?_⟩) (by assumption) ?_
          rotate_left
          focus (intro w hSw; (try dsimp only at hSw); go_simp <;> with_reducible rfl)
          try simp only [Act.put, List.setIfInBounds_toArray, List.set_cons_zero, List.set_cons_succ]
          refine wpAnyH_take (i := 4) (oi := { dst := some 67, op := Op.load 35 (Operand.tmp 8), type := 35, pos := "law.go:80", after := #[], guard := none }) (v := ?_) rfl (by kernel_rfl) (by kernel_rfl) (by kernel_rfl) (fun _ _ _ h => h) (Or.inl ⟨by rfl, ?_⟩) (by assumption) ?_
          rotate_left
          focus (intro w hSw; (try dsimp only at hSw); go_simp <;> with_reducible rfl)
          try simp only [Act.put, List.setIfInBounds_toArray, List.set_cons_zero, List.set_cons_succ]
          refine wpAnyH_take (i := 5) (oi := { dst := some 68, op := Op.move (Operand.tmp 13), type := 3, pos := "law.go:80", after := #[], guard := none }) (v := ?_) rfl (by kernel_rfl) (by kernel_rfl) (by kernel_rfl) (fun _ _ _ h => h) (Or.inl ⟨by rfl, ?_⟩) (by assumption) ?_
          rotate_left
          focus (intro w hSw; (try dsimp only at hSw); go_simp <;> with_reducible rfl)
          try simp only [Act.put, List.setIfInBounds_toArray, List.set_cons_zero, List.set_cons_succ]
          refine wpAnyH_ready (rs := [2]) (by kernel_rfl) (by simp) ?_
          refine AllReadyH.cons (o := { dst := some 65, op := Op.call { callee := Callee.value (Operand.func 20), args := #[Operand.tmp 63, Operand.tmp 64], argTypes := #[22, 3] }, type := 30, pos := "law.go:80", after := #[{ on := 0, ground := Ground.data }, { on := 1, ground := Ground.data }], guard := none }) rfl (fun K hK => ?_) AllReadyH.nil
          go_simp
          refine HF.out.1.mono ?_
          rintro e' y1 hp1
          obtain ⟨b1, cp1, rfl, hR1, hK1⟩ := rowPost_own hp1
          rw [HF.out.2.2]
          go_wp2_with fail
          have hq := Lib.hid (And.intro hR1 (hHeld.1.trans hK1))
          clear hp1 hR1
          refine shut_grow (fun x => (Keep [] wr x ∧ x.cell? ⟨dx, 0, none⟩ = some (.slice (some ⟨q, 0, none⟩) (64 * n) (64 * n))) ∧ (convert 30 9 (.slice b1 64 cp1)).run Try.prog x = .ok (.string (strOfNums M)) x) hK (fun _ h => h.1) ⟨⟨hq.out.2, hK1.cell hHeld.2 (by simp)⟩, str_of hq.out.1 HF.out.2.2.symm⟩ (fun hHeld => ?_)
          clear hK K
          refine wpAnyH_take (i := 3) (oi := { dst := some 66, op := Op.convert 30 9 (Operand.tmp 65), type := 9, pos := "law.go:80", after := #[{ on := 2, ground := Ground.data }], guard := none }) (v := ?_) rfl (by kernel_rfl) (by kernel_rfl) (by kernel_rfl) (fun _ _ _ h => h) (Or.inl ⟨by rfl, ?_⟩) (by assumption) ?_
          rotate_left
          focus (intro w hSw; (try dsimp only at hSw); go_simp <;> with_reducible rfl)
          try simp only [Act.put, List.setIfInBounds_toArray, List.set_cons_zero, List.set_cons_succ]
          refine wpAnyH_ready (rs := [6]) (by kernel_rfl) (by simp) ?_
          refine AllReadyH.cons (o := { dst := some 69, op := Op.call { callee := Callee.value (Operand.func 36), args := #[Operand.tmp 67, Operand.tmp 68], argTypes := #[35, 3] }, type := 30, pos := "law.go:80", after := #[{ on := 4, ground := Ground.data }, { on := 5, ground := Ground.data }, { on := 2, ground := Ground.chain }], guard := none }) rfl (fun K hK => ?_) AllReadyH.nil
          go_simp
          refine (HF.out.2.1 _ (HKu.out.trans hHeld.1.1)).mono ?_
          rintro e' y2' ⟨b2, cp2, rfl, hR2, hK2⟩
          rw [HF.out.2.2]
          go_wp2_with fail
          have hpp := Lib.hid (And.intro (hHeld.1.1.trans hK2) (hK2.cell hHeld.1.2 (by simp)))
          refine shut_grow (fun x => x = y2' ∧ (convert 30 9 (.slice b1 64 cp1)).run Try.prog x = .ok (.string (strOfNums M)) x ∧ (convert 30 9 (.slice b2 64 cp2)).run Try.prog x = .ok (.string (strOfNums M)) x) hK (fun x h => ⟨by rw [h.1]; exact hpp.out, h.2.1⟩) ⟨rfl, str_of (hq.out.1.keep0 hK2) HF.out.2.2.symm, str_of hR2 HF.out.2.2.symm⟩ (fun hHeld => ?_)
          clear hK K
          refine wpAnyH_take (i := 7) (oi := { dst := some 70, op := Op.convert 30 9 (Operand.tmp 69), type := 9, pos := "law.go:80", after := #[{ on := 6, ground := Ground.data }], guard := none }) (v := ?_) rfl (by kernel_rfl) (by kernel_rfl) (by kernel_rfl) (fun _ _ _ h => h) (Or.inl ⟨by rfl, ?_⟩) (by assumption) ?_
          rotate_left
          focus (intro w hSw; (try dsimp only at hSw); go_simp <;> with_reducible rfl)
          try simp only [Act.put, List.setIfInBounds_toArray, List.set_cons_zero, List.set_cons_succ]
          refine wpAnyH_take (i := 8) (oi := { dst := some 71, op := Op.binOp BinOp.neq 9 (Operand.tmp 66) (Operand.tmp 70) 9, type := 4, pos := "law.go:80", after := #[{ on := 3, ground := Ground.data }, { on := 7, ground := Ground.data }], guard := none }) (v := ?_) rfl (by kernel_rfl) (by kernel_rfl) (by kernel_rfl) (fun _ _ _ h => h) (Or.inl ⟨by rfl, ?_⟩) (by assumption) ?_
          rotate_left
          focus (intro w hSw; (try dsimp only at hSw); go_simp <;> with_reducible rfl)
          try simp only [Act.put, List.setIfInBounds_toArray, List.set_cons_zero, List.set_cons_succ]
          refine wpAnyH_done (by kernel_rfl) ?_ _
          clear hHeld hK1 hK2
          go_wp2_with fail
          go_roundw
          case rel => exact ⟨k + 1, by go_num, by omega, HKu.out.trans hpp.out.1⟩
          case measure => simp [intOf]; omega
        · have hlt' : ¬ ((k : Int) < (n : Int)) := by omega
          have d0 := hK.cell c0 (by simp)
          have d1 := hK.cell c1 (by simp)
          have cdr := hcb
          clear hcb
          have hb16 : bits .and .u32 b' 16 = 16 := by first | exact hbe rfl rfl | exact hbe trivial rfl | exact hbe trivial trivial | exact hbe rfl trivial
          go_wp2_with fail
          refine (L3.out _ hK).mono ?_
          rintro e' v ⟨rfl, hKv⟩
          have hv := hK.trans hKv
          have WA := HU.out.2.2.keep hv (by simp)
          have WB := fun o => (WA.keep ((Keep.refl [] v).alloc o) (by simp)).facts
          have g0 := fun o => (WB o).1
          have g1 := fun o => (WB o).2.1
          have g2 := fun o => (WB o).2.2.1
          have g3 := fun o => (WB o).2.2.2.1
          have g4 := fun o => (WB o).2.2.2.2.1
          have g5 := fun o => (WB o).2.2.2.2.2.1
          have g6 := fun o => (WB o).2.2.2.2.2.2
          have WA1 : WayAt (v.setCell ⟨ax, 0, none⟩ (.int .u32 c)) ax c a e d t p := heap_set_same WA 0 _
          have WC := fun o => (WA1.keep ((Keep.refl [] _).alloc o) (by simp)).facts
          have j0 := fun o => (WC o).1
          have j1 := fun o => (WC o).2.1
          have j2 := fun o => (WC o).2.2.1
          have j3 := fun o => (WC o).2.2.2.1
          have j4 := fun o => (WC o).2.2.2.2.1
          have j5 := fun o => (WC o).2.2.2.2.2.1
          have HAx : ∀ o, o = Obj.cells #[.int .u32 b', .int .u32 a, .int .u32 e, .int .i64 d, .int .i64 t, .int .i64 p] 58 (0, 0) → WayAt (v.alloc o) v.heap.size b' a e d t p := fun o h => by subst h; exact heap_alloc_same v _
          obtain ⟨k0, k1, k2, k3, k4, k5, k6⟩ := (HAx _ rfl).facts
          have hcx : ax < v.heap.size := lt_of_heap WA
          have HW : Hid (∀ o u1, Calls Try.prog 33 #[] ((v.setCell ⟨ax, 0, none⟩ u1).alloc o) fun e w' => e = .returned (.bool true) ∧ Keep [] w w') := Lib.hid (fun o u1 => (works_at _).mono fun e x h => ⟨h.1, ((((HY.out.2.trans HZ2.out.1).then (HU.out.2.1.trans (hv.weaken (by simp))) (fun k hk hlt => by simp at hk; omega)).setCell (.inr (by show w.heap.size ≤ ax; omega)) u1).alloc o).trans h.2⟩)
          clear WA WB WA1 WC HAx hKv hv d0 d1 cdr
          go_wp2_with fail
          refine (HW.out _ _).mono ?_
          rintro e' y9 ⟨rfl, hK9⟩
          have hF := Lib.hid (Keep.below hK9 (Nat.le_refl _) (by simp))
          clear hK9
          go_wp2_with fail
          go_ret
          exact ⟨rfl, hF.out⟩
    | false =>
      go_wp2_with fail
      rw [show (x2 : Int) % 700 = ((x2 % 700 : Nat) : Int) by simp]
      have hAl : x2 % 700 < 4294967296 := by omega
      generalize x2 % 700 = A at hAl ⊢
      obtain ⟨b', V1, V2, hc2, hbe⟩ := HA.out A
      rw [← hax] at HZ2 a0' a1' a2' ⊢
      generalize hz2 : z.alloc _ = z2 at c0 c1 c2 cd a0' a1' a2' HZ2 ⊢
      clear hz2 hax hzz a0' a1' a2' c2 HA HZ L1
      have S1 := fun x (hx : Keep [] y x) => soil_at (HY.out.1.keep0 hx) A hAl
      have S2 := fun x (hx : Keep [g] y x) => rsoil_at (RefN.mk (HY.out.1.ref.keep hx (by simpa using HY.out.1.qs.2.2)) HY.out.1.len) A hAl
      unfold SoilPostR at S1
      unfold SoilPostD at S2
      generalize soilB (rdOf n L) A = ok at S1 S2
      have S1 := Lib.hid S1
      have S2 := Lib.hid S2
      have hsl := (soil_sim (a := A) HY.out.1.len).1
      have L3 := fun u (hu : Both u r fb g q n (soilL n L A)) x (hx : Keep [] u x) => look_at (hu.keep0 hx).mem x0 16 x1 h0 (by omega) h1
      unfold LookPost at L3
      rw [V1, V2] at L3
      clear V1 V2
      replace L3 := Lib.hid L3
      generalize soilL n L A = L' at hsl L3 S1 S2
      go_wp2_with fail
      refine wp_region_held_drew (S := fun x => Keep [g, q] z2 x ∧ x.cell? ⟨dx, 0, none⟩ = some (.slice (some ⟨q, 0, none⟩) (64 * n) (64 * n))) (by kernel_rfl) ⟨(Keep.refl [g, q] z2).drew, cd⟩ (fun hHeld => ?_)
      skip
      refine wpAnyH_take (i := 0) (oi := { dst := some 48, op := Op.move (Operand.tmp 7), type := 22, pos := "law.go:76", after := #[], guard := none }) (v := ?_) rfl (by kernel_rfl) (by kernel_rfl) (by kernel_rfl) (fun _ _ _ h => h) (Or.inl ⟨by rfl, ?_⟩) (by assumption) ?_
      rotate_left
      focus (intro w hSw; (try dsimp only at hSw); go_simp <;> with_reducible rfl)
      try simp only [Act.put, List.setIfInBounds_toArray, List.set_cons_zero, List.set_cons_succ]
      refine wpAnyH_take (i := 1) (oi := { dst := some 49, op := Op.move (Operand.tmp 12), type := 26, pos := "law.go:76", after := #[], guard := none }) (v := ?_) rfl (by kernel_rfl) (by kernel_rfl) (by kernel_rfl) (fun _ _ _ h => h) (Or.inl ⟨by rfl, ?_⟩) (by assumption) ?_
      rotate_left
      focus (intro w hSw; (try dsimp only at hSw); go_simp <;> with_reducible rfl)
      try simp only [Act.put, List.setIfInBounds_toArray, List.set_cons_zero, List.set_cons_succ]
      refine wpAnyH_take (i := 3) (oi := { dst := some 51, op := Op.load 35 (Operand.tmp 8), type := 35, pos := "law.go:76", after := #[], guard := none }) (v := ?_) rfl (by kernel_rfl) (by kernel_rfl) (by kernel_rfl) (fun _ _ _ h => h) (Or.inl ⟨by rfl, ?_⟩) (by assumption) ?_
      rotate_left
      focus (intro w hSw; (try dsimp only at hSw); go_simp <;> with_reducible rfl)
      try simp only [Act.put, List.setIfInBounds_toArray, List.set_cons_zero, List.set_cons_succ]
      refine wpAnyH_take (i := 4) (oi := { dst := some 52, op := Op.move (Operand.tmp 12), type := 26, pos := "law.go:76", after := #[], guard := none }) (v := ?_) rfl (by kernel_rfl) (by kernel_rfl) (by kernel_rfl) (fun _ _ _ h => h) (Or.inl ⟨by rfl, ?_⟩) (by assumption) ?_
      rotate_left
      focus (intro w hSw; (try dsimp only at hSw); go_simp <;> with_reducible rfl)
      try simp only [Act.put, List.setIfInBounds_toArray, List.set_cons_zero, List.set_cons_succ]
      refine wpAnyH_ready (rs := [2]) (by kernel_rfl) (by simp) ?_
      refine AllReadyH.cons (o := { dst := some 50, op := Op.call { callee := Callee.value (Operand.func 37), args := #[Operand.tmp 48, Operand.tmp 49], argTypes := #[22, 26] }, type := 4, pos := "law.go:76", after := #[{ on := 0, ground := Ground.data }, { on := 1, ground := Ground.data }], guard := none }) rfl (fun K hK => ?_) AllReadyH.nil
      go_simp
      refine (S1.out _ HZ2.out.1.drew).mono ?_
      rintro e' u1 ⟨rfl, hR1, hk1⟩
      have H1 := Lib.hid (And.intro hR1 ((HZ2.out.1.drew.weaken (l' := [g]) (by simp)).trans hk1))
      have hS1 : Keep [g, q] z2 u1 ∧ u1.cell? ⟨dx, 0, none⟩ = some (.slice (some ⟨q, 0, none⟩) (64 * n) (64 * n)) := ⟨hHeld.1.trans (hk1.weaken (by simp)), hk1.cell cd (by simp; omega)⟩
      have HS1 := Lib.hid hS1
      clear hR1 hk1 hS1
      go_wp2_with fail
      refine shut_grow (fun x => Keep [g, q] z2 x ∧ x.cell? ⟨dx, 0, none⟩ = some (.slice (some ⟨q, 0, none⟩) (64 * n) (64 * n))) hK (fun _ h => h) HS1.out (fun hHeld => ?_)
      clear hK K
      skip
      refine wpAnyH_ready (rs := [5]) (by kernel_rfl) (by simp) ?_
      refine AllReadyH.cons (o := { dst := some 53, op := Op.call { callee := Callee.value (Operand.func 38), args := #[Operand.tmp 51, Operand.tmp 52], argTypes := #[35, 26] }, type := 4, pos := "law.go:76", after := #[{ on := 3, ground := Ground.data }, { on := 4, ground := Ground.data }, { on := 2, ground := Ground.chain }], guard := none }) rfl (fun K hK => ?_) AllReadyH.nil
      go_simp
      refine (S2.out _ H1.out.2).mono ?_
      rintro e' u ⟨rfl, hR2, hk2⟩
      have hKu : Keep [g, q] z2 u := HS1.out.1.trans (hk2.weaken (by simp))
      have hcu : u.cell? ⟨dx, 0, none⟩ = some (.slice (some ⟨q, 0, none⟩) (64 * n) (64 * n)) := hk2.cell HS1.out.2 (by simp; omega)
      have HU : Hid (Both u r fb g q n L' ∧ Keep [g, q] z2 u ∧ WayAt u ax b a e d t p) := Lib.hid ⟨both_set HY.out.1 hsl H1.out.1 hR2 hk2, hKu, HZ2.out.2.keep hKu (by simp; omega)⟩
      have HC := Lib.hid hcu
      clear hR2 hk2
      go_wp2_with fail
      refine shut_grow (fun x => x = u) hK (fun _ h => by rw [h]; exact ⟨HU.out.2.1, HC.out⟩) rfl (fun hHeld => ?_)
      clear hK K
      refine wpAnyH_take (i := 6) (oi := { dst := some 54, op := Op.binOp BinOp.neq 4 (Operand.tmp 50) (Operand.tmp 53) 4, type := 4, pos := "law.go:76", after := #[{ on := 2, ground := Ground.data }, { on := 5, ground := Ground.data }], guard := none }) (v := ?_) rfl (by kernel_rfl) (by kernel_rfl) (by kernel_rfl) (fun _ _ _ h => h) (Or.inl ⟨by rfl, ?_⟩) (by assumption) ?_
      rotate_left
      focus (intro w hSw; (try dsimp only at hSw); go_simp <;> with_reducible rfl)
      try simp only [Act.put, List.setIfInBounds_toArray, List.set_cons_zero, List.set_cons_succ]
      refine wpAnyH_done (by kernel_rfl) ?_ _
      clear hHeld cd
      replace c0 := hKu.cell c0 (by simp; omega)
      replace c1 := hKu.cell c1 (by simp; omega)
      clear hKu S1 S2 HS1 H1
      replace L3 := Lib.hid (L3.out u HU.out.1)
      go_wp2_with fail
      go_loopw [13] (fun kv wr => ∃ k : Nat, kv = .int .i64 k ∧ k ≤ n ∧ Keep [] u wr) (fun kv _ => n - (intOf kv).toNat)
      case atStart => exact ⟨0, rfl, by omega, Keep.refl _ _⟩
      case round =>
        obtain ⟨k, rfl, hk, hK⟩ := hrel
        have hcb : wr.cell? ⟨dx, 0, none⟩ = some (.slice (some ⟨q, 0, none⟩) (64 * n) (64 * n)) := hK.cell hcu (by simp)
        by_cases hlt : k < n
        · have F1 := rframe_yes (HU.out.1.ram.keep0 (hK.drew)) k (by rw [List.length_range]; exact hlt)
          rw [frameOf_range L' hlt] at F1
          have F2 : ∀ x, Keep [] u x → Calls Try.prog 36 #[.agg #[.slice (some ⟨q, 0, none⟩) (64 * n) (64 * n)], .int .i64 k] x (RowPost ((L'.drop (64 * k)).take 64) x) := fun x hx => by
            have := fframe_yes (HU.out.1.ref.keep0 hx) k (by have := HU.out.1.len; omega)
            rw [HU.out.1.len] at this
            exact this
          have hml : ((L'.drop (64 * k)).take 64).length = 64 := by have := HU.out.1.len; rw [List.length_take, List.length_drop]; omega
          generalize (L'.drop (64 * k)).take 64 = M at F1 F2 hml
          have HF := Lib.hid (And.intro F1 (And.intro F2 hml))
          have HKu := Lib.hid hK
          clear F1 F2 hml hK
          go_wp2_with fail
          refine wp_region_held_drew (S := fun x => Keep [] wr x ∧ x.cell? ⟨dx, 0, none⟩ = some (.slice (some ⟨q, 0, none⟩) (64 * n) (64 * n))) (by kernel_rfl) ⟨(Keep.refl [] wr).drew, hcb⟩ (fun hHeld => ?_)
          skip
          refine wpAnyH_take (i := 0) (oi := { dst := some 63, op := Op.move (Operand.tmp 7), type := 22, pos := "law.go:80", after := #[], guard := none }) (v := ?_) rfl (by kernel_rfl) (by kernel_rfl) (by kernel_rfl) (fun _ _ _ h => h) (Or.inl ⟨by rfl, ?_⟩) (by assumption) ?_
          rotate_left
          focus (intro w hSw; (try dsimp only at hSw); go_simp <;> with_reducible rfl)
          try simp only [Act.put, List.setIfInBounds_toArray, List.set_cons_zero, List.set_cons_succ]
          refine wpAnyH_take (i := 1) (oi := { dst := some 64, op := Op.move (Operand.tmp 13), type := 3, pos := "law.go:80", after := #[], guard := none }) (v := ?_) rfl (by kernel_rfl) (by kernel_rfl) (by kernel_rfl) (fun _ _ _ h => h) (Or.inl ⟨by rfl, ?_⟩) (by assumption) ?_
          rotate_left
          focus (intro w hSw; (try dsimp only at hSw); go_simp <;> with_reducible rfl)
          try simp only [Act.put, List.setIfInBounds_toArray, List.set_cons_zero, List.set_cons_succ]
          refine wpAnyH_take (i := 4) (oi := { dst := some 67, op := Op.load 35 (Operand.tmp 8), type := 35, pos := "law.go:80", after := #[], guard := none }) (v := ?_) rfl (by kernel_rfl) (by kernel_rfl) (by kernel_rfl) (fun _ _ _ h => h) (Or.inl ⟨by rfl, ?_⟩) (by assumption) ?_
          rotate_left
          focus (intro w hSw; (try dsimp only at hSw); go_simp <;> with_reducible rfl)
          try simp only [Act.put, List.setIfInBounds_toArray, List.set_cons_zero, List.set_cons_succ]
          refine wpAnyH_take (i := 5) (oi := { dst := some 68, op := Op.move (Operand.tmp 13), type := 3, pos := "law.go:80", after := #[], guard := none }) (v := ?_) rfl (by kernel_rfl) (by kernel_rfl) (by kernel_rfl) (fun _ _ _ h => h) (Or.inl ⟨by rfl, ?_⟩) (by assumption) ?_
          rotate_left
          focus (intro w hSw; (try dsimp only at hSw); go_simp <;> with_reducible rfl)
          try simp only [Act.put, List.setIfInBounds_toArray, List.set_cons_zero, List.set_cons_succ]
          refine wpAnyH_ready (rs := [2]) (by kernel_rfl) (by simp) ?_
          refine AllReadyH.cons (o := { dst := some 65, op := Op.call { callee := Callee.value (Operand.func 20), args := #[Operand.tmp 63, Operand.tmp 64], argTypes := #[22, 3] }, type := 30, pos := "law.go:80", after := #[{ on := 0, ground := Ground.data }, { on := 1, ground := Ground.data }], guard := none }) rfl (fun K hK => ?_) AllReadyH.nil
          go_simp
          refine HF.out.1.mono ?_
          rintro e' y1 hp1
          obtain ⟨b1, cp1, rfl, hR1, hK1⟩ := rowPost_own hp1
          rw [HF.out.2.2]
          go_wp2_with fail
          have hq := Lib.hid (And.intro hR1 (hHeld.1.trans hK1))
          clear hp1 hR1
          refine shut_grow (fun x => (Keep [] wr x ∧ x.cell? ⟨dx, 0, none⟩ = some (.slice (some ⟨q, 0, none⟩) (64 * n) (64 * n))) ∧ (convert 30 9 (.slice b1 64 cp1)).run Try.prog x = .ok (.string (strOfNums M)) x) hK (fun _ h => h.1) ⟨⟨hq.out.2, hK1.cell hHeld.2 (by simp)⟩, str_of hq.out.1 HF.out.2.2.symm⟩ (fun hHeld => ?_)
          clear hK K
          refine wpAnyH_take (i := 3) (oi := { dst := some 66, op := Op.convert 30 9 (Operand.tmp 65), type := 9, pos := "law.go:80", after := #[{ on := 2, ground := Ground.data }], guard := none }) (v := ?_) rfl (by kernel_rfl) (by kernel_rfl) (by kernel_rfl) (fun _ _ _ h => h) (Or.inl ⟨by rfl, ?_⟩) (by assumption) ?_
          rotate_left
          focus (intro w hSw; (try dsimp only at hSw); go_simp <;> with_reducible rfl)
          try simp only [Act.put, List.setIfInBounds_toArray, List.set_cons_zero, List.set_cons_succ]
          refine wpAnyH_ready (rs := [6]) (by kernel_rfl) (by simp) ?_
          refine AllReadyH.cons (o := { dst := some 69, op := Op.call { callee := Callee.value (Operand.func 36), args := #[Operand.tmp 67, Operand.tmp 68], argTypes := #[35, 3] }, type := 30, pos := "law.go:80", after := #[{ on := 4, ground := Ground.data }, { on := 5, ground := Ground.data }, { on := 2, ground := Ground.chain }], guard := none }) rfl (fun K hK => ?_) AllReadyH.nil
          go_simp
          refine (HF.out.2.1 _ (HKu.out.trans hHeld.1.1)).mono ?_
          rintro e' y2' ⟨b2, cp2, rfl, hR2, hK2⟩
          rw [HF.out.2.2]
          go_wp2_with fail
          have hpp := Lib.hid (And.intro (hHeld.1.1.trans hK2) (hK2.cell hHeld.1.2 (by simp)))
          refine shut_grow (fun x => x = y2' ∧ (convert 30 9 (.slice b1 64 cp1)).run Try.prog x = .ok (.string (strOfNums M)) x ∧ (convert 30 9 (.slice b2 64 cp2)).run Try.prog x = .ok (.string (strOfNums M)) x) hK (fun x h => ⟨by rw [h.1]; exact hpp.out, h.2.1⟩) ⟨rfl, str_of (hq.out.1.keep0 hK2) HF.out.2.2.symm, str_of hR2 HF.out.2.2.symm⟩ (fun hHeld => ?_)
          clear hK K
          refine wpAnyH_take (i := 7) (oi := { dst := some 70, op := Op.convert 30 9 (Operand.tmp 69), type := 9, pos := "law.go:80", after := #[{ on := 6, ground := Ground.data }], guard := none }) (v := ?_) rfl (by kernel_rfl) (by kernel_rfl) (by kernel_rfl) (fun _ _ _ h => h) (Or.inl ⟨by rfl, ?_⟩) (by assumption) ?_
          rotate_left
          focus (intro w hSw; (try dsimp only at hSw); go_simp <;> with_reducible rfl)
          try simp only [Act.put, List.setIfInBounds_toArray, List.set_cons_zero, List.set_cons_succ]
          refine wpAnyH_take (i := 8) (oi := { dst := some 71, op := Op.binOp BinOp.neq 9 (Operand.tmp 66) (Operand.tmp 70) 9, type := 4, pos := "law.go:80", after := #[{ on := 3, ground := Ground.data }, { on := 7, ground := Ground.data }], guard := none }) (v := ?_) rfl (by kernel_rfl) (by kernel_rfl) (by kernel_rfl) (fun _ _ _ h => h) (Or.inl ⟨by rfl, ?_⟩) (by assumption) ?_
          rotate_left
          focus (intro w hSw; (try dsimp only at hSw); go_simp <;> with_reducible rfl)
          try simp only [Act.put, List.setIfInBounds_toArray, List.set_cons_zero, List.set_cons_succ]
          refine wpAnyH_done (by kernel_rfl) ?_ _
          clear hHeld hK1 hK2
          go_wp2_with fail
          go_roundw
          case rel => exact ⟨k + 1, by go_num, by omega, HKu.out.trans hpp.out.1⟩
          case measure => simp [intOf]; omega
        · have hlt' : ¬ ((k : Int) < (n : Int)) := by omega
          have d0 := hK.cell c0 (by simp)
          have d1 := hK.cell c1 (by simp)
          have cdr := hcb
          clear hcb
          go_wp2_with fail
          refine (L3.out _ hK).mono ?_
          rintro e' v ⟨rfl, hKv⟩
          have hv := hK.trans hKv
          have WA := HU.out.2.2.keep hv (by simp)
          have WB := fun o => (WA.keep ((Keep.refl [] v).alloc o) (by simp)).facts
          have g0 := fun o => (WB o).1
          have g1 := fun o => (WB o).2.1
          have g2 := fun o => (WB o).2.2.1
          have g3 := fun o => (WB o).2.2.2.1
          have g4 := fun o => (WB o).2.2.2.2.1
          have g5 := fun o => (WB o).2.2.2.2.2.1
          have g6 := fun o => (WB o).2.2.2.2.2.2
          have WA1 : WayAt (v.setCell ⟨ax, 0, none⟩ (.int .u32 c)) ax c a e d t p := heap_set_same WA 0 _
          have WC := fun o => (WA1.keep ((Keep.refl [] _).alloc o) (by simp)).facts
          have j0 := fun o => (WC o).1
          have j1 := fun o => (WC o).2.1
          have j2 := fun o => (WC o).2.2.1
          have j3 := fun o => (WC o).2.2.2.1
          have j4 := fun o => (WC o).2.2.2.2.1
          have j5 := fun o => (WC o).2.2.2.2.2.1
          have HAx : ∀ o, o = Obj.cells #[.int .u32 b', .int .u32 a, .int .u32 e, .int .i64 d, .int .i64 t, .int .i64 p] 58 (0, 0) → WayAt (v.alloc o) v.heap.size b' a e d t p := fun o h => by subst h; exact heap_alloc_same v _
          obtain ⟨k0, k1, k2, k3, k4, k5, k6⟩ := (HAx _ rfl).facts
          have hcx : ax < v.heap.size := lt_of_heap WA
          have HW : Hid (∀ o u1, Calls Try.prog 33 #[] ((v.setCell ⟨ax, 0, none⟩ u1).alloc o) fun e w' => e = .returned (.bool true) ∧ Keep [] w w') := Lib.hid (fun o u1 => (works_at _).mono fun e x h => ⟨h.1, ((((HY.out.2.trans HZ2.out.1).then (HU.out.2.1.trans (hv.weaken (by simp))) (fun k hk hlt => by simp at hk; omega)).setCell (.inr (by show w.heap.size ≤ ax; omega)) u1).alloc o).trans h.2⟩)
          clear WA WB WA1 WC HAx hKv hv d0 d1 cdr
          go_wp2_with fail
          refine (HW.out _ _).mono ?_
          rintro e' y9 ⟨rfl, hK9⟩
          have hF := Lib.hid (Keep.below hK9 (Nat.le_refl _) (by simp))
          clear hK9
          go_wp2_with fail
          go_ret
          exact ⟨rfl, hF.out⟩
  · have hp2 : ((x2 : Int) % 2 == 0) = false := beq_eq_false_iff_ne.2 hp
    cases f with
    | true =>
      go_wp2_with fail
      rw [show (x2 : Int) % 700 = ((x2 % 700 : Nat) : Int) by simp]
      have hAl : x2 % 700 < 4294967296 := by omega
      generalize x2 % 700 = A at hAl ⊢
      obtain ⟨b', V1, V2, hc2, hbe⟩ := HA.out A
      rw [← hax] at HZ2 a0' a1' a2' ⊢
      generalize hz2 : z.alloc _ = z2 at c0 c1 c2 cd a0' a1' a2' HZ2 ⊢
      clear hz2 hax hzz a0' a1' a2' c2 HA HZ L1
      have S1 := fun x (hx : Keep [] y x) => soil_at (HY.out.1.keep0 hx) A hAl
      have S2 := fun x (hx : Keep [g] y x) => rsoil_at (RefN.mk (HY.out.1.ref.keep hx (by simpa using HY.out.1.qs.2.2)) HY.out.1.len) A hAl
      unfold SoilPostR at S1
      unfold SoilPostD at S2
      generalize soilB (rdOf n L) A = ok at S1 S2
      have S1 := Lib.hid S1
      have S2 := Lib.hid S2
      have hsl := (soil_sim (a := A) HY.out.1.len).1
      have L3 := fun u (hu : Both u r fb g q n (soilL n L A)) x (hx : Keep [] u x) => look_at (hu.keep0 hx).mem x0 16 x1 h0 (by omega) h1
      unfold LookPost at L3
      rw [V1, V2] at L3
      clear V1 V2
      replace L3 := Lib.hid L3
      generalize soilL n L A = L' at hsl L3 S1 S2
      go_wp2_with fail
      refine wp_region_held_drew (S := fun x => Keep [g, q] z2 x ∧ x.cell? ⟨dx, 0, none⟩ = some (.slice (some ⟨q, 0, none⟩) (64 * n) (64 * n))) (by kernel_rfl) ⟨(Keep.refl [g, q] z2).drew, cd⟩ (fun hHeld => ?_)
      skip
      refine wpAnyH_take (i := 0) (oi := { dst := some 48, op := Op.move (Operand.tmp 7), type := 22, pos := "law.go:76", after := #[], guard := none }) (v := ?_) rfl (by kernel_rfl) (by kernel_rfl) (by kernel_rfl) (fun _ _ _ h => h) (Or.inl ⟨by rfl, ?_⟩) (by assumption) ?_
      rotate_left
      focus (intro w hSw; (try dsimp only at hSw); go_simp <;> with_reducible rfl)
      try simp only [Act.put, List.setIfInBounds_toArray, List.set_cons_zero, List.set_cons_succ]
      refine wpAnyH_take (i := 1) (oi := { dst := some 49, op := Op.move (Operand.tmp 12), type := 26, pos := "law.go:76", after := #[], guard := none }) (v := ?_) rfl (by kernel_rfl) (by kernel_rfl) (by kernel_rfl) (fun _ _ _ h => h) (Or.inl ⟨by rfl, ?_⟩) (by assumption) ?_
      rotate_left
      focus (intro w hSw; (try dsimp only at hSw); go_simp <;> with_reducible rfl)
      try simp only [Act.put, List.setIfInBounds_toArray, List.set_cons_zero, List.set_cons_succ]
      refine wpAnyH_take (i := 3) (oi := { dst := some 51, op := Op.load 35 (Operand.tmp 8), type := 35, pos := "law.go:76", after := #[], guard := none }) (v := ?_) rfl (by kernel_rfl) (by kernel_rfl) (by kernel_rfl) (fun _ _ _ h => h) (Or.inl ⟨by rfl, ?_⟩) (by assumption) ?_
      rotate_left
      focus (intro w hSw; (try dsimp only at hSw); go_simp <;> with_reducible rfl)
      try simp only [Act.put, List.setIfInBounds_toArray, List.set_cons_zero, List.set_cons_succ]
      refine wpAnyH_take (i := 4) (oi := { dst := some 52, op := Op.move (Operand.tmp 12), type := 26, pos := "law.go:76", after := #[], guard := none }) (v := ?_) rfl (by kernel_rfl) (by kernel_rfl) (by kernel_rfl) (fun _ _ _ h => h) (Or.inl ⟨by rfl, ?_⟩) (by assumption) ?_
      rotate_left
      focus (intro w hSw; (try dsimp only at hSw); go_simp <;> with_reducible rfl)
      try simp only [Act.put, List.setIfInBounds_toArray, List.set_cons_zero, List.set_cons_succ]
      refine wpAnyH_ready (rs := [2]) (by kernel_rfl) (by simp) ?_
      refine AllReadyH.cons (o := { dst := some 50, op := Op.call { callee := Callee.value (Operand.func 37), args := #[Operand.tmp 48, Operand.tmp 49], argTypes := #[22, 26] }, type := 4, pos := "law.go:76", after := #[{ on := 0, ground := Ground.data }, { on := 1, ground := Ground.data }], guard := none }) rfl (fun K hK => ?_) AllReadyH.nil
      go_simp
      refine (S1.out _ HZ2.out.1.drew).mono ?_
      rintro e' u1 ⟨rfl, hR1, hk1⟩
      have H1 := Lib.hid (And.intro hR1 ((HZ2.out.1.drew.weaken (l' := [g]) (by simp)).trans hk1))
      have hS1 : Keep [g, q] z2 u1 ∧ u1.cell? ⟨dx, 0, none⟩ = some (.slice (some ⟨q, 0, none⟩) (64 * n) (64 * n)) := ⟨hHeld.1.trans (hk1.weaken (by simp)), hk1.cell cd (by simp; omega)⟩
      have HS1 := Lib.hid hS1
      clear hR1 hk1 hS1
      go_wp2_with fail
      refine shut_grow (fun x => Keep [g, q] z2 x ∧ x.cell? ⟨dx, 0, none⟩ = some (.slice (some ⟨q, 0, none⟩) (64 * n) (64 * n))) hK (fun _ h => h) HS1.out (fun hHeld => ?_)
      clear hK K
      skip
      refine wpAnyH_ready (rs := [5]) (by kernel_rfl) (by simp) ?_
      refine AllReadyH.cons (o := { dst := some 53, op := Op.call { callee := Callee.value (Operand.func 38), args := #[Operand.tmp 51, Operand.tmp 52], argTypes := #[35, 26] }, type := 4, pos := "law.go:76", after := #[{ on := 3, ground := Ground.data }, { on := 4, ground := Ground.data }, { on := 2, ground := Ground.chain }], guard := none }) rfl (fun K hK => ?_) AllReadyH.nil
      go_simp
      refine (S2.out _ H1.out.2).mono ?_
      rintro e' u ⟨rfl, hR2, hk2⟩
      have hKu : Keep [g, q] z2 u := HS1.out.1.trans (hk2.weaken (by simp))
      have hcu : u.cell? ⟨dx, 0, none⟩ = some (.slice (some ⟨q, 0, none⟩) (64 * n) (64 * n)) := hk2.cell HS1.out.2 (by simp; omega)
      have HU : Hid (Both u r fb g q n L' ∧ Keep [g, q] z2 u ∧ WayAt u ax b a e d t p) := Lib.hid ⟨both_set HY.out.1 hsl H1.out.1 hR2 hk2, hKu, HZ2.out.2.keep hKu (by simp; omega)⟩
      have HC := Lib.hid hcu
      clear hR2 hk2
      go_wp2_with fail
      refine shut_grow (fun x => x = u) hK (fun _ h => by rw [h]; exact ⟨HU.out.2.1, HC.out⟩) rfl (fun hHeld => ?_)
      clear hK K
      refine wpAnyH_take (i := 6) (oi := { dst := some 54, op := Op.binOp BinOp.neq 4 (Operand.tmp 50) (Operand.tmp 53) 4, type := 4, pos := "law.go:76", after := #[{ on := 2, ground := Ground.data }, { on := 5, ground := Ground.data }], guard := none }) (v := ?_) rfl (by kernel_rfl) (by kernel_rfl) (by kernel_rfl) (fun _ _ _ h => h) (Or.inl ⟨by rfl, ?_⟩) (by assumption) ?_
      rotate_left
      focus (intro w hSw; (try dsimp only at hSw); go_simp <;> with_reducible rfl)
      try simp only [Act.put, List.setIfInBounds_toArray, List.set_cons_zero, List.set_cons_succ]
      refine wpAnyH_done (by kernel_rfl) ?_ _
      clear hHeld cd
      replace c0 := hKu.cell c0 (by simp; omega)
      replace c1 := hKu.cell c1 (by simp; omega)
      clear hKu S1 S2 HS1 H1
      replace L3 := Lib.hid (L3.out u HU.out.1)
      go_wp2_with fail
      go_loopw [13] (fun kv wr => ∃ k : Nat, kv = .int .i64 k ∧ k ≤ n ∧ Keep [] u wr) (fun kv _ => n - (intOf kv).toNat)
      case atStart => exact ⟨0, rfl, by omega, Keep.refl _ _⟩
      case round =>
        obtain ⟨k, rfl, hk, hK⟩ := hrel
        have hcb : wr.cell? ⟨dx, 0, none⟩ = some (.slice (some ⟨q, 0, none⟩) (64 * n) (64 * n)) := hK.cell hcu (by simp)
        by_cases hlt : k < n
        · have F1 := rframe_yes (HU.out.1.ram.keep0 (hK.drew)) k (by rw [List.length_range]; exact hlt)
          rw [frameOf_range L' hlt] at F1
          have F2 : ∀ x, Keep [] u x → Calls Try.prog 36 #[.agg #[.slice (some ⟨q, 0, none⟩) (64 * n) (64 * n)], .int .i64 k] x (RowPost ((L'.drop (64 * k)).take 64) x) := fun x hx => by
            have := fframe_yes (HU.out.1.ref.keep0 hx) k (by have := HU.out.1.len; omega)
            rw [HU.out.1.len] at this
            exact this
          have hml : ((L'.drop (64 * k)).take 64).length = 64 := by have := HU.out.1.len; rw [List.length_take, List.length_drop]; omega
          generalize (L'.drop (64 * k)).take 64 = M at F1 F2 hml
          have HF := Lib.hid (And.intro F1 (And.intro F2 hml))
          have HKu := Lib.hid hK
          clear F1 F2 hml hK
          go_wp2_with fail
          refine wp_region_held_drew (S := fun x => Keep [] wr x ∧ x.cell? ⟨dx, 0, none⟩ = some (.slice (some ⟨q, 0, none⟩) (64 * n) (64 * n))) (by kernel_rfl) ⟨(Keep.refl [] wr).drew, hcb⟩ (fun hHeld => ?_)
          skip
          refine wpAnyH_take (i := 0) (oi := { dst := some 63, op := Op.move (Operand.tmp 7), type := 22, pos := "law.go:80", after := #[], guard := none }) (v := ?_) rfl (by kernel_rfl) (by kernel_rfl) (by kernel_rfl) (fun _ _ _ h => h) (Or.inl ⟨by rfl, ?_⟩) (by assumption) ?_
          rotate_left
          focus (intro w hSw; (try dsimp only at hSw); go_simp <;> with_reducible rfl)
          try simp only [Act.put, List.setIfInBounds_toArray, List.set_cons_zero, List.set_cons_succ]
          refine wpAnyH_take (i := 1) (oi := { dst := some 64, op := Op.move (Operand.tmp 13), type := 3, pos := "law.go:80", after := #[], guard := none }) (v := ?_) rfl (by kernel_rfl) (by kernel_rfl) (by kernel_rfl) (fun _ _ _ h => h) (Or.inl ⟨by rfl, ?_⟩) (by assumption) ?_
          rotate_left
          focus (intro w hSw; (try dsimp only at hSw); go_simp <;> with_reducible rfl)
          try simp only [Act.put, List.setIfInBounds_toArray, List.set_cons_zero, List.set_cons_succ]
          refine wpAnyH_take (i := 4) (oi := { dst := some 67, op := Op.load 35 (Operand.tmp 8), type := 35, pos := "law.go:80", after := #[], guard := none }) (v := ?_) rfl (by kernel_rfl) (by kernel_rfl) (by kernel_rfl) (fun _ _ _ h => h) (Or.inl ⟨by rfl, ?_⟩) (by assumption) ?_
          rotate_left
          focus (intro w hSw; (try dsimp only at hSw); go_simp <;> with_reducible rfl)
          try simp only [Act.put, List.setIfInBounds_toArray, List.set_cons_zero, List.set_cons_succ]
          refine wpAnyH_take (i := 5) (oi := { dst := some 68, op := Op.move (Operand.tmp 13), type := 3, pos := "law.go:80", after := #[], guard := none }) (v := ?_) rfl (by kernel_rfl) (by kernel_rfl) (by kernel_rfl) (fun _ _ _ h => h) (Or.inl ⟨by rfl, ?_⟩) (by assumption) ?_
          rotate_left
          focus (intro w hSw; (try dsimp only at hSw); go_simp <;> with_reducible rfl)
          try simp only [Act.put, List.setIfInBounds_toArray, List.set_cons_zero, List.set_cons_succ]
          refine wpAnyH_ready (rs := [2]) (by kernel_rfl) (by simp) ?_
          refine AllReadyH.cons (o := { dst := some 65, op := Op.call { callee := Callee.value (Operand.func 20), args := #[Operand.tmp 63, Operand.tmp 64], argTypes := #[22, 3] }, type := 30, pos := "law.go:80", after := #[{ on := 0, ground := Ground.data }, { on := 1, ground := Ground.data }], guard := none }) rfl (fun K hK => ?_) AllReadyH.nil
          go_simp
          refine HF.out.1.mono ?_
          rintro e' y1 hp1
          obtain ⟨b1, cp1, rfl, hR1, hK1⟩ := rowPost_own hp1
          rw [HF.out.2.2]
          go_wp2_with fail
          have hq := Lib.hid (And.intro hR1 (hHeld.1.trans hK1))
          clear hp1 hR1
          refine shut_grow (fun x => (Keep [] wr x ∧ x.cell? ⟨dx, 0, none⟩ = some (.slice (some ⟨q, 0, none⟩) (64 * n) (64 * n))) ∧ (convert 30 9 (.slice b1 64 cp1)).run Try.prog x = .ok (.string (strOfNums M)) x) hK (fun _ h => h.1) ⟨⟨hq.out.2, hK1.cell hHeld.2 (by simp)⟩, str_of hq.out.1 HF.out.2.2.symm⟩ (fun hHeld => ?_)
          clear hK K
          refine wpAnyH_take (i := 3) (oi := { dst := some 66, op := Op.convert 30 9 (Operand.tmp 65), type := 9, pos := "law.go:80", after := #[{ on := 2, ground := Ground.data }], guard := none }) (v := ?_) rfl (by kernel_rfl) (by kernel_rfl) (by kernel_rfl) (fun _ _ _ h => h) (Or.inl ⟨by rfl, ?_⟩) (by assumption) ?_
          rotate_left
          focus (intro w hSw; (try dsimp only at hSw); go_simp <;> with_reducible rfl)
          try simp only [Act.put, List.setIfInBounds_toArray, List.set_cons_zero, List.set_cons_succ]
          refine wpAnyH_ready (rs := [6]) (by kernel_rfl) (by simp) ?_
          refine AllReadyH.cons (o := { dst := some 69, op := Op.call { callee := Callee.value (Operand.func 36), args := #[Operand.tmp 67, Operand.tmp 68], argTypes := #[35, 3] }, type := 30, pos := "law.go:80", after := #[{ on := 4, ground := Ground.data }, { on := 5, ground := Ground.data }, { on := 2, ground := Ground.chain }], guard := none }) rfl (fun K hK => ?_) AllReadyH.nil
          go_simp
          refine (HF.out.2.1 _ (HKu.out.trans hHeld.1.1)).mono ?_
          rintro e' y2' ⟨b2, cp2, rfl, hR2, hK2⟩
          rw [HF.out.2.2]
          go_wp2_with fail
          have hpp := Lib.hid (And.intro (hHeld.1.1.trans hK2) (hK2.cell hHeld.1.2 (by simp)))
          refine shut_grow (fun x => x = y2' ∧ (convert 30 9 (.slice b1 64 cp1)).run Try.prog x = .ok (.string (strOfNums M)) x ∧ (convert 30 9 (.slice b2 64 cp2)).run Try.prog x = .ok (.string (strOfNums M)) x) hK (fun x h => ⟨by rw [h.1]; exact hpp.out, h.2.1⟩) ⟨rfl, str_of (hq.out.1.keep0 hK2) HF.out.2.2.symm, str_of hR2 HF.out.2.2.symm⟩ (fun hHeld => ?_)
          clear hK K
          refine wpAnyH_take (i := 7) (oi := { dst := some 70, op := Op.convert 30 9 (Operand.tmp 69), type := 9, pos := "law.go:80", after := #[{ on := 6, ground := Ground.data }], guard := none }) (v := ?_) rfl (by kernel_rfl) (by kernel_rfl) (by kernel_rfl) (fun _ _ _ h => h) (Or.inl ⟨by rfl, ?_⟩) (by assumption) ?_
          rotate_left
          focus (intro w hSw; (try dsimp only at hSw); go_simp <;> with_reducible rfl)
          try simp only [Act.put, List.setIfInBounds_toArray, List.set_cons_zero, List.set_cons_succ]
          refine wpAnyH_take (i := 8) (oi := { dst := some 71, op := Op.binOp BinOp.neq 9 (Operand.tmp 66) (Operand.tmp 70) 9, type := 4, pos := "law.go:80", after := #[{ on := 3, ground := Ground.data }, { on := 7, ground := Ground.data }], guard := none }) (v := ?_) rfl (by kernel_rfl) (by kernel_rfl) (by kernel_rfl) (fun _ _ _ h => h) (Or.inl ⟨by rfl, ?_⟩) (by assumption) ?_
          rotate_left
          focus (intro w hSw; (try dsimp only at hSw); go_simp <;> with_reducible rfl)
          try simp only [Act.put, List.setIfInBounds_toArray, List.set_cons_zero, List.set_cons_succ]
          refine wpAnyH_done (by kernel_rfl) ?_ _
          clear hHeld hK1 hK2
          go_wp2_with fail
          go_roundw
          case rel => exact ⟨k + 1, by go_num, by omega, HKu.out.trans hpp.out.1⟩
          case measure => simp [intOf]; omega
        · have hlt' : ¬ ((k : Int) < (n : Int)) := by omega
          have d0 := hK.cell c0 (by simp)
          have d1 := hK.cell c1 (by simp)
          have cdr := hcb
          clear hcb
          by_cases hAe : A = e
          · have hb16 : bits .and .u32 b' 16 = 16 := by first | exact hbe rfl hAe | exact hbe trivial hAe
            have hAe' := hAe.symm
            subst hAe'
            go_wp2_with fail
            refine (L3.out _ hK).mono ?_
            rintro e' v ⟨rfl, hKv⟩
            have hv := hK.trans hKv
            have WA := HU.out.2.2.keep hv (by simp)
            have WB := fun o => (WA.keep ((Keep.refl [] v).alloc o) (by simp)).facts
            have g0 := fun o => (WB o).1
            have g1 := fun o => (WB o).2.1
            have g2 := fun o => (WB o).2.2.1
            have g3 := fun o => (WB o).2.2.2.1
            have g4 := fun o => (WB o).2.2.2.2.1
            have g5 := fun o => (WB o).2.2.2.2.2.1
            have g6 := fun o => (WB o).2.2.2.2.2.2
            have WA1 : WayAt (v.setCell ⟨ax, 0, none⟩ (.int .u32 c)) ax c a e d t p := heap_set_same WA 0 _
            have WC := fun o => (WA1.keep ((Keep.refl [] _).alloc o) (by simp)).facts
            have j0 := fun o => (WC o).1
            have j1 := fun o => (WC o).2.1
            have j2 := fun o => (WC o).2.2.1
            have j3 := fun o => (WC o).2.2.2.1
            have j4 := fun o => (WC o).2.2.2.2.1
            have j5 := fun o => (WC o).2.2.2.2.2.1
            have HAx : ∀ o, o = Obj.cells #[.int .u32 b', .int .u32 a, .int .u32 e, .int .i64 d, .int .i64 t, .int .i64 p] 58 (0, 0) → WayAt (v.alloc o) v.heap.size b' a e d t p := fun o h => by subst h; exact heap_alloc_same v _
            obtain ⟨k0, k1, k2, k3, k4, k5, k6⟩ := (HAx _ rfl).facts
            have hcx : ax < v.heap.size := lt_of_heap WA
            have HW : Hid (∀ o u1, Calls Try.prog 33 #[] ((v.setCell ⟨ax, 0, none⟩ u1).alloc o) fun e w' => e = .returned (.bool true) ∧ Keep [] w w') := Lib.hid (fun o u1 => (works_at _).mono fun e x h => ⟨h.1, ((((HY.out.2.trans HZ2.out.1).then (HU.out.2.1.trans (hv.weaken (by simp))) (fun k hk hlt => by simp at hk; omega)).setCell (.inr (by show w.heap.size ≤ ax; omega)) u1).alloc o).trans h.2⟩)
            clear WA WB WA1 WC HAx hKv hv d0 d1 cdr
            go_wp2_with fail
            refine (HW.out _ _).mono ?_
            rintro e' y9 ⟨rfl, hK9⟩
            have hF := Lib.hid (Keep.below hK9 (Nat.le_refl _) (by simp))
            clear hK9
            go_wp2_with fail
            go_ret
            exact ⟨rfl, hF.out⟩
          · have hAe2 : ((A : Int) == (e : Int)) = false := beq_eq_false_iff_ne.2 (by omega)
            go_wp2_with fail
            refine (L3.out _ hK).mono ?_
            rintro e' v ⟨rfl, hKv⟩
            have hv := hK.trans hKv
            have WA := HU.out.2.2.keep hv (by simp)
            have WB := fun o => (WA.keep ((Keep.refl [] v).alloc o) (by simp)).facts
            have g0 := fun o => (WB o).1
            have g1 := fun o => (WB o).2.1
            have g2 := fun o => (WB o).2.2.1
            have g3 := fun o => (WB o).2.2.2.1
            have g4 := fun o => (WB o).2.2.2.2.1
            have g5 := fun o => (WB o).2.2.2.2.2.1
            have g6 := fun o => (WB o).2.2.2.2.2.2
            have WA1 : WayAt (v.setCell ⟨ax, 0, none⟩ (.int .u32 c)) ax c a e d t p := heap_set_same WA 0 _
            have WC := fun o => (WA1.keep ((Keep.refl [] _).alloc o) (by simp)).facts
            have j0 := fun o => (WC o).1
            have j1 := fun o => (WC o).2.1
            have j2 := fun o => (WC o).2.2.1
            have j3 := fun o => (WC o).2.2.2.1
            have j4 := fun o => (WC o).2.2.2.2.1
            have j5 := fun o => (WC o).2.2.2.2.2.1
            have HAx : ∀ o, o = Obj.cells #[.int .u32 b', .int .u32 a, .int .u32 e, .int .i64 d, .int .i64 t, .int .i64 p] 58 (0, 0) → WayAt (v.alloc o) v.heap.size b' a e d t p := fun o h => by subst h; exact heap_alloc_same v _
            obtain ⟨k0, k1, k2, k3, k4, k5, k6⟩ := (HAx _ rfl).facts
            have hcx : ax < v.heap.size := lt_of_heap WA
            have HW : Hid (∀ o u1, Calls Try.prog 33 #[] ((v.setCell ⟨ax, 0, none⟩ u1).alloc o) fun e w' => e = .returned (.bool true) ∧ Keep [] w w') := Lib.hid (fun o u1 => (works_at _).mono fun e x h => ⟨h.1, ((((HY.out.2.trans HZ2.out.1).then (HU.out.2.1.trans (hv.weaken (by simp))) (fun k hk hlt => by simp at hk; omega)).setCell (.inr (by show w.heap.size ≤ ax; omega)) u1).alloc o).trans h.2⟩)
            clear WA WB WA1 WC HAx hKv hv d0 d1 cdr
            go_wp2_with fail
            refine (HW.out _ _).mono ?_
            rintro e' y9 ⟨rfl, hK9⟩
            have hF := Lib.hid (Keep.below hK9 (Nat.le_refl _) (by simp))
            clear hK9
            go_wp2_with fail
            go_ret
            exact ⟨rfl, hF.out⟩
    | false =>
      go_wp2_with fail
      rw [show (x2 : Int) % 700 = ((x2 % 700 : Nat) : Int) by simp]
      have hAl : x2 % 700 < 4294967296 := by omega
      generalize x2 % 700 = A at hAl ⊢
      obtain ⟨b', V1, V2, hc2, hbe⟩ := HA.out A
      rw [← hax] at HZ2 a0' a1' a2' ⊢
      generalize hz2 : z.alloc _ = z2 at c0 c1 c2 cd a0' a1' a2' HZ2 ⊢
      clear hz2 hax hzz a0' a1' a2' c2 HA HZ L1
      have S1 := fun x (hx : Keep [] y x) => soil_at (HY.out.1.keep0 hx) A hAl
      have S2 := fun x (hx : Keep [g] y x) => rsoil_at (RefN.mk (HY.out.1.ref.keep hx (by simpa using HY.out.1.qs.2.2)) HY.out.1.len) A hAl
      unfold SoilPostR at S1
      unfold SoilPostD at S2
      generalize soilB (rdOf n L) A = ok at S1 S2
      have S1 := Lib.hid S1
      have S2 := Lib.hid S2
      have hsl := (soil_sim (a := A) HY.out.1.len).1
      have L3 := fun u (hu : Both u r fb g q n (soilL n L A)) x (hx : Keep [] u x) => look_at (hu.keep0 hx).mem x0 16 x1 h0 (by omega) h1
      unfold LookPost at L3
      rw [V1, V2] at L3
      clear V1 V2
      replace L3 := Lib.hid L3
      generalize soilL n L A = L' at hsl L3 S1 S2
      go_wp2_with fail
      refine wp_region_held_drew (S := fun x => Keep [g, q] z2 x ∧ x.cell? ⟨dx, 0, none⟩ = some (.slice (some ⟨q, 0, none⟩) (64 * n) (64 * n))) (by kernel_rfl) ⟨(Keep.refl [g, q] z2).drew, cd⟩ (fun hHeld => ?_)
      skip
      refine wpAnyH_take (i := 0) (oi := { dst := some 48, op := Op.move (Operand.tmp 7), type := 22, pos := "law.go:76", after := #[], guard := none }) (v := ?_) rfl (by kernel_rfl) (by kernel_rfl) (by kernel_rfl) (fun _ _ _ h => h) (Or.inl ⟨by rfl, ?_⟩) (by assumption) ?_
      rotate_left
      focus (intro w hSw; (try dsimp only at hSw); go_simp <;> with_reducible rfl)
      try simp only [Act.put, List.setIfInBounds_toArray, List.set_cons_zero, List.set_cons_succ]
      refine wpAnyH_take (i := 1) (oi := { dst := some 49, op := Op.move (Operand.tmp 12), type := 26, pos := "law.go:76", after := #[], guard := none }) (v := ?_) rfl (by kernel_rfl) (by kernel_rfl) (by kernel_rfl) (fun _ _ _ h => h) (Or.inl ⟨by rfl, ?_⟩) (by assumption) ?_
      rotate_left
      focus (intro w hSw; (try dsimp only at hSw); go_simp <;> with_reducible rfl)
      try simp only [Act.put, List.setIfInBounds_toArray, List.set_cons_zero, List.set_cons_succ]
      refine wpAnyH_take (i := 3) (oi := { dst := some 51, op := Op.load 35 (Operand.tmp 8), type := 35, pos := "law.go:76", after := #[], guard := none }) (v := ?_) rfl (by kernel_rfl) (by kernel_rfl) (by kernel_rfl) (fun _ _ _ h => h) (Or.inl ⟨by rfl, ?_⟩) (by assumption) ?_
      rotate_left
      focus (intro w hSw; (try dsimp only at hSw); go_simp <;> with_reducible rfl)
      try simp only [Act.put, List.setIfInBounds_toArray, List.set_cons_zero, List.set_cons_succ]
      refine wpAnyH_take (i := 4) (oi := { dst := some 52, op := Op.move (Operand.tmp 12), type := 26, pos := "law.go:76", after := #[], guard := none }) (v := ?_) rfl (by kernel_rfl) (by kernel_rfl) (by kernel_rfl) (fun _ _ _ h => h) (Or.inl ⟨by rfl, ?_⟩) (by assumption) ?_
      rotate_left
      focus (intro w hSw; (try dsimp only at hSw); go_simp <;> with_reducible rfl)
      try simp only [Act.put, List.setIfInBounds_toArray, List.set_cons_zero, List.set_cons_succ]
      refine wpAnyH_ready (rs := [2]) (by kernel_rfl) (by simp) ?_
      refine AllReadyH.cons (o := { dst := some 50, op := Op.call { callee := Callee.value (Operand.func 37), args := #[Operand.tmp 48, Operand.tmp 49], argTypes := #[22, 26] }, type := 4, pos := "law.go:76", after := #[{ on := 0, ground := Ground.data }, { on := 1, ground := Ground.data }], guard := none }) rfl (fun K hK => ?_) AllReadyH.nil
      go_simp
      refine (S1.out _ HZ2.out.1.drew).mono ?_
      rintro e' u1 ⟨rfl, hR1, hk1⟩
      have H1 := Lib.hid (And.intro hR1 ((HZ2.out.1.drew.weaken (l' := [g]) (by simp)).trans hk1))
      have hS1 : Keep [g, q] z2 u1 ∧ u1.cell? ⟨dx, 0, none⟩ = some (.slice (some ⟨q, 0, none⟩) (64 * n) (64 * n)) := ⟨hHeld.1.trans (hk1.weaken (by simp)), hk1.cell cd (by simp; omega)⟩
      have HS1 := Lib.hid hS1
      clear hR1 hk1 hS1
      go_wp2_with fail
      refine shut_grow (fun x => Keep [g, q] z2 x ∧ x.cell? ⟨dx, 0, none⟩ = some (.slice (some ⟨q, 0, none⟩) (64 * n) (64 * n))) hK (fun _ h => h) HS1.out (fun hHeld => ?_)
      clear hK K
      skip
      refine wpAnyH_ready (rs := [5]) (by kernel_rfl) (by simp) ?_
      refine AllReadyH.cons (o := { dst := some 53, op := Op.call { callee := Callee.value (Operand.func 38), args := #[Operand.tmp 51, Operand.tmp 52], argTypes := #[35, 26] }, type := 4, pos := "law.go:76", after := #[{ on := 3, ground := Ground.data }, { on := 4, ground := Ground.data }, { on := 2, ground := Ground.chain }], guard := none }) rfl (fun K hK => ?_) AllReadyH.nil
      go_simp
      refine (S2.out _ H1.out.2).mono ?_
      rintro e' u ⟨rfl, hR2, hk2⟩
      have hKu : Keep [g, q] z2 u := HS1.out.1.trans (hk2.weaken (by simp))
      have hcu : u.cell? ⟨dx, 0, none⟩ = some (.slice (some ⟨q, 0, none⟩) (64 * n) (64 * n)) := hk2.cell HS1.out.2 (by simp; omega)
      have HU : Hid (Both u r fb g q n L' ∧ Keep [g, q] z2 u ∧ WayAt u ax b a e d t p) := Lib.hid ⟨both_set HY.out.1 hsl H1.out.1 hR2 hk2, hKu, HZ2.out.2.keep hKu (by simp; omega)⟩
      have HC := Lib.hid hcu
      clear hR2 hk2
      go_wp2_with fail
      refine shut_grow (fun x => x = u) hK (fun _ h => by rw [h]; exact ⟨HU.out.2.1, HC.out⟩) rfl (fun hHeld => ?_)
      clear hK K
      refine wpAnyH_take (i := 6) (oi := { dst := some 54, op := Op.binOp BinOp.neq 4 (Operand.tmp 50) (Operand.tmp 53) 4, type := 4, pos := "law.go:76", after := #[{ on := 2, ground := Ground.data }, { on := 5, ground := Ground.data }], guard := none }) (v := ?_) rfl (by kernel_rfl) (by kernel_rfl) (by kernel_rfl) (fun _ _ _ h => h) (Or.inl ⟨by rfl, ?_⟩) (by assumption) ?_
      rotate_left
      focus (intro w hSw; (try dsimp only at hSw); go_simp <;> with_reducible rfl)
      try simp only [Act.put, List.setIfInBounds_toArray, List.set_cons_zero, List.set_cons_succ]
      refine wpAnyH_done (by kernel_rfl) ?_ _
      clear hHeld cd
      replace c0 := hKu.cell c0 (by simp; omega)
      replace c1 := hKu.cell c1 (by simp; omega)
      clear hKu S1 S2 HS1 H1
      replace L3 := Lib.hid (L3.out u HU.out.1)
      go_wp2_with fail
      go_loopw [13] (fun kv wr => ∃ k : Nat, kv = .int .i64 k ∧ k ≤ n ∧ Keep [] u wr) (fun kv _ => n - (intOf kv).toNat)
      case atStart => exact ⟨0, rfl, by omega, Keep.refl _ _⟩
      case round =>
        obtain ⟨k, rfl, hk, hK⟩ := hrel
        have hcb : wr.cell? ⟨dx, 0, none⟩ = some (.slice (some ⟨q, 0, none⟩) (64 * n) (64 * n)) := hK.cell hcu (by simp)
        by_cases hlt : k < n
        · have F1 := rframe_yes (HU.out.1.ram.keep0 (hK.drew)) k (by rw [List.length_range]; exact hlt)
          rw [frameOf_range L' hlt] at F1
          have F2 : ∀ x, Keep [] u x → Calls Try.prog 36 #[.agg #[.slice (some ⟨q, 0, none⟩) (64 * n) (64 * n)], .int .i64 k] x (RowPost ((L'.drop (64 * k)).take 64) x) := fun x hx => by
            have := fframe_yes (HU.out.1.ref.keep0 hx) k (by have := HU.out.1.len; omega)
            rw [HU.out.1.len] at this
            exact this
          have hml : ((L'.drop (64 * k)).take 64).length = 64 := by have := HU.out.1.len; rw [List.length_take, List.length_drop]; omega
          generalize (L'.drop (64 * k)).take 64 = M at F1 F2 hml
          have HF := Lib.hid (And.intro F1 (And.intro F2 hml))
          have HKu := Lib.hid hK
          clear F1 F2 hml hK
          go_wp2_with fail
          refine wp_region_held_drew (S := fun x => Keep [] wr x ∧ x.cell? ⟨dx, 0, none⟩ = some (.slice (some ⟨q, 0, none⟩) (64 * n) (64 * n))) (by kernel_rfl) ⟨(Keep.refl [] wr).drew, hcb⟩ (fun hHeld => ?_)
          skip
          refine wpAnyH_take (i := 0) (oi := { dst := some 63, op := Op.move (Operand.tmp 7), type := 22, pos := "law.go:80", after := #[], guard := none }) (v := ?_) rfl (by kernel_rfl) (by kernel_rfl) (by kernel_rfl) (fun _ _ _ h => h) (Or.inl ⟨by rfl, ?_⟩) (by assumption) ?_
          rotate_left
          focus (intro w hSw; (try dsimp only at hSw); go_simp <;> with_reducible rfl)
          try simp only [Act.put, List.setIfInBounds_toArray, List.set_cons_zero, List.set_cons_succ]
          refine wpAnyH_take (i := 1) (oi := { dst := some 64, op := Op.move (Operand.tmp 13), type := 3, pos := "law.go:80", after := #[], guard := none }) (v := ?_) rfl (by kernel_rfl) (by kernel_rfl) (by kernel_rfl) (fun _ _ _ h => h) (Or.inl ⟨by rfl, ?_⟩) (by assumption) ?_
          rotate_left
          focus (intro w hSw; (try dsimp only at hSw); go_simp <;> with_reducible rfl)
          try simp only [Act.put, List.setIfInBounds_toArray, List.set_cons_zero, List.set_cons_succ]
          refine wpAnyH_take (i := 4) (oi := { dst := some 67, op := Op.load 35 (Operand.tmp 8), type := 35, pos := "law.go:80", after := #[], guard := none }) (v := ?_) rfl (by kernel_rfl) (by kernel_rfl) (by kernel_rfl) (fun _ _ _ h => h) (Or.inl ⟨by rfl, ?_⟩) (by assumption) ?_
          rotate_left
          focus (intro w hSw; (try dsimp only at hSw); go_simp <;> with_reducible rfl)
          try simp only [Act.put, List.setIfInBounds_toArray, List.set_cons_zero, List.set_cons_succ]
          refine wpAnyH_take (i := 5) (oi := { dst := some 68, op := Op.move (Operand.tmp 13), type := 3, pos := "law.go:80", after := #[], guard := none }) (v := ?_) rfl (by kernel_rfl) (by kernel_rfl) (by kernel_rfl) (fun _ _ _ h => h) (Or.inl ⟨by rfl, ?_⟩) (by assumption) ?_
          rotate_left
          focus (intro w hSw; (try dsimp only at hSw); go_simp <;> with_reducible rfl)
          try simp only [Act.put, List.setIfInBounds_toArray, List.set_cons_zero, List.set_cons_succ]
          refine wpAnyH_ready (rs := [2]) (by kernel_rfl) (by simp) ?_
          refine AllReadyH.cons (o := { dst := some 65, op := Op.call { callee := Callee.value (Operand.func 20), args := #[Operand.tmp 63, Operand.tmp 64], argTypes := #[22, 3] }, type := 30, pos := "law.go:80", after := #[{ on := 0, ground := Ground.data }, { on := 1, ground := Ground.data }], guard := none }) rfl (fun K hK => ?_) AllReadyH.nil
          go_simp
          refine HF.out.1.mono ?_
          rintro e' y1 hp1
          obtain ⟨b1, cp1, rfl, hR1, hK1⟩ := rowPost_own hp1
          rw [HF.out.2.2]
          go_wp2_with fail
          have hq := Lib.hid (And.intro hR1 (hHeld.1.trans hK1))
          clear hp1 hR1
          refine shut_grow (fun x => (Keep [] wr x ∧ x.cell? ⟨dx, 0, none⟩ = some (.slice (some ⟨q, 0, none⟩) (64 * n) (64 * n))) ∧ (convert 30 9 (.slice b1 64 cp1)).run Try.prog x = .ok (.string (strOfNums M)) x) hK (fun _ h => h.1) ⟨⟨hq.out.2, hK1.cell hHeld.2 (by simp)⟩, str_of hq.out.1 HF.out.2.2.symm⟩ (fun hHeld => ?_)
          clear hK K
          refine wpAnyH_take (i := 3) (oi := { dst := some 66, op := Op.convert 30 9 (Operand.tmp 65), type := 9, pos := "law.go:80", after := #[{ on := 2, ground := Ground.data }], guard := none }) (v := ?_) rfl (by kernel_rfl) (by kernel_rfl) (by kernel_rfl) (fun _ _ _ h => h) (Or.inl ⟨by rfl, ?_⟩) (by assumption) ?_
          rotate_left
          focus (intro w hSw; (try dsimp only at hSw); go_simp <;> with_reducible rfl)
          try simp only [Act.put, List.setIfInBounds_toArray, List.set_cons_zero, List.set_cons_succ]
          refine wpAnyH_ready (rs := [6]) (by kernel_rfl) (by simp) ?_
          refine AllReadyH.cons (o := { dst := some 69, op := Op.call { callee := Callee.value (Operand.func 36), args := #[Operand.tmp 67, Operand.tmp 68], argTypes := #[35, 3] }, type := 30, pos := "law.go:80", after := #[{ on := 4, ground := Ground.data }, { on := 5, ground := Ground.data }, { on := 2, ground := Ground.chain }], guard := none }) rfl (fun K hK => ?_) AllReadyH.nil
          go_simp
          refine (HF.out.2.1 _ (HKu.out.trans hHeld.1.1)).mono ?_
          rintro e' y2' ⟨b2, cp2, rfl, hR2, hK2⟩
          rw [HF.out.2.2]
          go_wp2_with fail
          have hpp := Lib.hid (And.intro (hHeld.1.1.trans hK2) (hK2.cell hHeld.1.2 (by simp)))
          refine shut_grow (fun x => x = y2' ∧ (convert 30 9 (.slice b1 64 cp1)).run Try.prog x = .ok (.string (strOfNums M)) x ∧ (convert 30 9 (.slice b2 64 cp2)).run Try.prog x = .ok (.string (strOfNums M)) x) hK (fun x h => ⟨by rw [h.1]; exact hpp.out, h.2.1⟩) ⟨rfl, str_of (hq.out.1.keep0 hK2) HF.out.2.2.symm, str_of hR2 HF.out.2.2.symm⟩ (fun hHeld => ?_)
          clear hK K
          refine wpAnyH_take (i := 7) (oi := { dst := some 70, op := Op.convert 30 9 (Operand.tmp 69), type := 9, pos := "law.go:80", after := #[{ on := 6, ground := Ground.data }], guard := none }) (v := ?_) rfl (by kernel_rfl) (by kernel_rfl) (by kernel_rfl) (fun _ _ _ h => h) (Or.inl ⟨by rfl, ?_⟩) (by assumption) ?_
          rotate_left
          focus (intro w hSw; (try dsimp only at hSw); go_simp <;> with_reducible rfl)
          try simp only [Act.put, List.setIfInBounds_toArray, List.set_cons_zero, List.set_cons_succ]
          refine wpAnyH_take (i := 8) (oi := { dst := some 71, op := Op.binOp BinOp.neq 9 (Operand.tmp 66) (Operand.tmp 70) 9, type := 4, pos := "law.go:80", after := #[{ on := 3, ground := Ground.data }, { on := 7, ground := Ground.data }], guard := none }) (v := ?_) rfl (by kernel_rfl) (by kernel_rfl) (by kernel_rfl) (fun _ _ _ h => h) (Or.inl ⟨by rfl, ?_⟩) (by assumption) ?_
          rotate_left
          focus (intro w hSw; (try dsimp only at hSw); go_simp <;> with_reducible rfl)
          try simp only [Act.put, List.setIfInBounds_toArray, List.set_cons_zero, List.set_cons_succ]
          refine wpAnyH_done (by kernel_rfl) ?_ _
          clear hHeld hK1 hK2
          go_wp2_with fail
          go_roundw
          case rel => exact ⟨k + 1, by go_num, by omega, HKu.out.trans hpp.out.1⟩
          case measure => simp [intOf]; omega
        · have hlt' : ¬ ((k : Int) < (n : Int)) := by omega
          have d0 := hK.cell c0 (by simp)
          have d1 := hK.cell c1 (by simp)
          have cdr := hcb
          clear hcb
          go_wp2_with fail
          refine (L3.out _ hK).mono ?_
          rintro e' v ⟨rfl, hKv⟩
          have hv := hK.trans hKv
          have WA := HU.out.2.2.keep hv (by simp)
          have WB := fun o => (WA.keep ((Keep.refl [] v).alloc o) (by simp)).facts
          have g0 := fun o => (WB o).1
          have g1 := fun o => (WB o).2.1
          have g2 := fun o => (WB o).2.2.1
          have g3 := fun o => (WB o).2.2.2.1
          have g4 := fun o => (WB o).2.2.2.2.1
          have g5 := fun o => (WB o).2.2.2.2.2.1
          have g6 := fun o => (WB o).2.2.2.2.2.2
          have WA1 : WayAt (v.setCell ⟨ax, 0, none⟩ (.int .u32 c)) ax c a e d t p := heap_set_same WA 0 _
          have WC := fun o => (WA1.keep ((Keep.refl [] _).alloc o) (by simp)).facts
          have j0 := fun o => (WC o).1
          have j1 := fun o => (WC o).2.1
          have j2 := fun o => (WC o).2.2.1
          have j3 := fun o => (WC o).2.2.2.1
          have j4 := fun o => (WC o).2.2.2.2.1
          have j5 := fun o => (WC o).2.2.2.2.2.1
          have HAx : ∀ o, o = Obj.cells #[.int .u32 b', .int .u32 a, .int .u32 e, .int .i64 d, .int .i64 t, .int .i64 p] 58 (0, 0) → WayAt (v.alloc o) v.heap.size b' a e d t p := fun o h => by subst h; exact heap_alloc_same v _
          obtain ⟨k0, k1, k2, k3, k4, k5, k6⟩ := (HAx _ rfl).facts
          have hcx : ax < v.heap.size := lt_of_heap WA
          have HW : Hid (∀ o u1, Calls Try.prog 33 #[] ((v.setCell ⟨ax, 0, none⟩ u1).alloc o) fun e w' => e = .returned (.bool true) ∧ Keep [] w w') := Lib.hid (fun o u1 => (works_at _).mono fun e x h => ⟨h.1, ((((HY.out.2.trans HZ2.out.1).then (HU.out.2.1.trans (hv.weaken (by simp))) (fun k hk hlt => by simp at hk; omega)).setCell (.inr (by show w.heap.size ≤ ax; omega)) u1).alloc o).trans h.2⟩)
          clear WA WB WA1 WC HAx hKv hv d0 d1 cdr
          go_wp2_with fail
          refine (HW.out _ _).mono ?_
          rintro e' y9 ⟨rfl, hK9⟩
          have hF := Lib.hid (Keep.below hK9 (Nat.le_refl _) (by simp))
          clear hK9
          go_wp2_with fail
          go_ret
          exact ⟨rfl, hF.out⟩
end Go.Proofs.Yteoanahfbfflbaa
