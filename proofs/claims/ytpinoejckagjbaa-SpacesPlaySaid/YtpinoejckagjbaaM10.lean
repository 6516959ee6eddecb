/- Contracts of the functions that the law reaches, walked, and the plain laws on them (several texts in one). -/
import Derived.Outline
import Derived.Test.YtpinoejckagjbaaM09
import Derived.Test.YtpinoejckagjbaaM03

/- A table is lent. -/
namespace Go.Proofs.Ytpinoejckagjbaa
open Go.RowKit Go.Mum
set_option linter.unusedVariables false
set_option linter.unusedSimpArgs false
set_option maxRecDepth 100000

/-- A shadow, its memory and its pool. -/
structure SAt (x : World) (s r fb g p pm : Nat) (most : Nat) (T : Nat → Tab) (L : List Int) (c : Nat) : Prop where
  sh : ShAt x s r p 8 T
  ram : RamAt x r fb g (List.range 40) L
  inv : ShInv most T L
  pool : ∃ lent tk sh, PoolAt x p pm 20 most lent tk sh ∧ (0 ≤ tk ∧ tk ≤ (c : Int) ∧ 0 ≤ sh ∧ sh ≤ (c : Int)) ∧ (∀ z, z ∈ lent ↔ ∃ n, n < 32 ∧ (T n).th = true ∧ z = ((T n).fr : Int))
  ne : (s ≠ r ∧ s ≠ fb ∧ s ≠ g ∧ s ≠ p ∧ s ≠ pm) ∧ (p ≠ r ∧ p ≠ fb ∧ p ≠ g ∧ pm ≠ r ∧ pm ≠ fb ∧ pm ≠ g)

theorem SAt.keep {l : List Nat} {w x : World} {s r fb g p pm most : Nat} {T : Nat → Tab} {L : List Int} {c : Nat} (h : SAt w s r fb g p pm most T L c) (hk : Keep l w x) (hl : s ∉ l ∧ r ∉ l ∧ fb ∉ l ∧ g ∉ l ∧ p ∉ l ∧ pm ∉ l) : SAt x s r fb g p pm most T L c := by
  obtain ⟨lent, tk, sh, hp, hb, hz⟩ := h.pool
  exact ⟨h.sh.keep hk hl.1, h.ram.keep hk hl.2.1 hl.2.2.1 hl.2.2.2.1, h.inv, ⟨lent, tk, sh, hp.keep hk hl.2.2.2.2.1 hl.2.2.2.2.2, hb, hz⟩, h.ne⟩

theorem SAt.keep0 {w x : World} {s r fb g p pm most : Nat} {T : Nat → Tab} {L : List Int} {c : Nat} (h : SAt w s r fb g p pm most T L c) (hk : Keep [] w x) : SAt x s r fb g p pm most T L c := h.keep hk (by simp)

theorem SAt.later {w : World} {s r fb g p pm most : Nat} {T : Nat → Tab} {L : List Int} {c : Nat} (h : SAt w s r fb g p pm most T L c) : SAt w s r fb g p pm most T L (c + 1) := by
  obtain ⟨lent, tk, sh, hp, hb, hz⟩ := h.pool
  exact ⟨h.sh, h.ram, h.inv, ⟨lent, tk, sh, hp, by omega, hz⟩, h.ne⟩

/-- What the asking for a table leaves. -/
def TablePost (s r fb g p pm most : Nat) (T : Nat → Tab) (L : List Int) (c n : Nat) (w : World) (e : Ending) (w' : World) : Prop :=
  Keep [s, g, p, pm] w w' ∧
  (((T n).th = true ∧ e = .returned (.bool true) ∧ SAt w' s r fb g p pm most T L (c + 1)) ∨
   ((T n).th = false ∧ e = .returned (.bool true) ∧ ∃ f L', SAt w' s r fb g p pm most (setTab T n ⟨true, f, fun _ => 0⟩) L' (c + 1)) ∨
   ((T n).th = false ∧ e = .returned (.bool false) ∧ SAt w' s r fb g p pm most T L (c + 1) ∧ ∀ j, j < most → ∃ m, m < 32 ∧ (T m).th = true ∧ (T m).fr = 20 + j))

theorem info_table : (Try.prog.info? 109).map (·.size) = some 18 := by kernel_rfl

theorem or_add {a b k : Nat} (hb : b < 2 ^ k) : a * 2 ^ k ||| b = a * 2 ^ k + b := by
  rw [Nat.mul_comm, ← Nat.two_pow_add_eq_or_of_lt hb]

theorem or_low {f a b : Nat} (ha : a < 64) (hb : b < 64) : (64 * f + a) ||| b = 64 * f + (a ||| b) := by
  have h : a ||| b < 2 ^ 6 := Nat.or_lt_two_pow ha hb
  rw [show 64 * f = f * 2 ^ 6 by omega, ← or_add (k := 6) (a := f) (b := a) ha, Nat.or_assoc, or_add h]

theorem or_bits {f a b : Nat} (hf : f < 1000000) (ha : a < 64) (hb : b < 64) : bits .or .u32 (64 * (f : Int) + (a : Int)) (b : Int) = ((64 * f + (a ||| b) : Nat) : Int) := by
  have := or_u32 (64 * f + a) b (by omega) (by omega)
  rw [or_low ha hb] at this
  rw [← this]
  congr 1

set_option maxHeartbeats 4000000 in
theorem stable_at {w : World} {s r fb g p pm most : Nat} {T : Nat → Tab} {L : List Int} {c : Nat} (h : SAt w s r fb g p pm most T L c) (hc : c ≤ 1000) (n : Nat) (hn : n < 32) :
    Calls Try.prog 47 #[.pointer (some ⟨s, 0, none⟩), .int .u32 n] w (TablePost s r fb g p pm most T L c n w) := by
  have HS := Lib.hid h
  obtain ⟨c0, c1, c2, c3⟩ := h.sh.heads
  have ct := h.sh.th hn
  have hni : (n : Int) < 32 := by omega
  cases hth : (T n).th
  · obtain ⟨lent, tk, sh, hp, hb, hz⟩ := h.pool
    have hmost := h.inv.mst
    have C := Lib.hid (ptake_at hp (by omega) (by omega) (by omega) (by omega) hb.1 (by omega) hb.2.2.1 (by omega))
    have HP := Lib.hid (And.intro hb hz)
    rw [hth] at ct
    have HTH := Lib.hid hth
    clear h hp hb hz hth
    go_enter Try.func47, Try.ntmps47
    go_wp2_with fail
    refine C.out.mono ?_
    rintro e y hT
    rcases hT with ⟨k, hk, hall, hfree, rfl, hpool, hkp⟩ | ⟨hall, rfl, hpool, hkp⟩
    · obtain ⟨f, hf⟩ : ∃ f, f = 20 + k := ⟨_, rfl⟩
      have f0 : (20 : Int) + (k : Int) = (f : Int) := by omega
      rw [f0] at hpool hfree ⊢
      have H1 : Hid (PoolAt y p pm 20 most (lent ++ [(f : Int)]) (tk + 1) sh ∧ Keep [p, pm] w y ∧ ((f : Int) ∉ lent) ∧ (20 ≤ f ∧ f < 20 + most)) := Lib.hid ⟨hpool, hkp, hfree, by omega⟩
      have hf40 : f < 40 := by omega
      have hfi : (f : Int) < 40 := by omega
      have HFD : Hid (decide ((40 : Int) ≤ (f : Int)) = false) := Lib.hid (decide_eq_false (by omega))
      have a1 : IntKind.u32.wrap (f : Int) = (f : Int) := IntWalk.u32_in _ (by omega)
      have a2 : IntKind.u32.wrap ((f : Int) * 64) = ((64 * f : Nat) : Int) := by rw [IntWalk.u32_in _ (by omega)]; omega
      have a2' : (f : Int) * 64 = ((64 * f : Nat) : Int) := by omega
      have hne := HS.out.ne
      have hmk := make_u8 64 (by omega) 64 rfl
      obtain ⟨Zs, hZs⟩ : ∃ Z, Z = List.replicate 64 (0 : Int) := ⟨_, rfl⟩
      rw [← hZs] at hmk
      have HZ := Lib.hid hZs
      clear hZs
      have d0 : y.cell? ⟨s, 0, none⟩ = some (.pointer (some ⟨r, 0, none⟩)) := hkp.cell c0 (by simp; omega)
      have HY : Hid (ShAt y s r p 8 T ∧ RamAt y r fb g (List.range 40) L) := Lib.hid ⟨HS.out.sh.keep hkp (by simp; omega), HS.out.ram.keep hkp (by simp; omega) (by simp; omega) (by simp; omega)⟩
      clear hall hfree hpool hkp hf hk f0 c0 c1 c2 c3 ct C
      go_wp2_with fail
      refine wp_region_held_drew (S := fun x => x.cell? ⟨s, 0, none⟩ = some (.pointer (some ⟨r, 0, none⟩))) (by kernel_rfl) d0 (fun hHeld => ?_)
      skip
      refine wpAnyH_take (i := 0) (oi := { dst := some 28, op := Op.move (Operand.tmp 5), type := 3, pos := "shadow.go:73", after := #[], guard := none }) (v := ?_) rfl (by kernel_rfl) (by kernel_rfl) (by kernel_rfl) (fun _ _ _ h => h) (Or.inl ⟨by rfl, ?_⟩) (by assumption) ?_
      rotate_left
      focus (intro w hSw; (try dsimp only at hSw); go_simp <;> with_reducible rfl)
      try simp only [Act.put, List.setIfInBounds_toArray, List.set_cons_zero, List.set_cons_succ]
      refine wpAnyH_take (i := 1) (oi := { dst := some 29, op := Op.move (Operand.tmp 0), type := 27, pos := "shadow.go:73", after := #[], guard := none }) (v := ?_) rfl (by kernel_rfl) (by kernel_rfl) (by kernel_rfl) (fun _ _ _ h => h) (Or.inl ⟨by rfl, ?_⟩) (by assumption) ?_
      rotate_left
      focus (intro w hSw; (try dsimp only at hSw); go_simp <;> with_reducible rfl)
      try simp only [Act.put, List.setIfInBounds_toArray, List.set_cons_zero, List.set_cons_succ]
      refine wpAnyH_take (i := 2) (oi := { dst := some 30, op := Op.nilCheck (Operand.tmp 29), type := 0, pos := "shadow.go:73", after := #[{ on := 1, ground := Ground.data }], guard := none }) (v := ?_) rfl (by kernel_rfl) (by kernel_rfl) (by kernel_rfl) (fun _ _ _ h => h) (Or.inl ⟨by rfl, ?_⟩) (by assumption) ?_
      rotate_left
      focus (intro w hSw; (try dsimp only at hSw); go_simp <;> with_reducible rfl)
      try simp only [Act.put, List.setIfInBounds_toArray, List.set_cons_zero, List.set_cons_succ]
      refine wpAnyH_take (i := 3) (oi := { dst := some 31, op := Op.fieldAddr 112 (Operand.tmp 30) 0, type := 0, pos := "shadow.go:73", after := #[{ on := 2, ground := Ground.data }], guard := none }) (v := ?_) rfl (by kernel_rfl) (by kernel_rfl) (by kernel_rfl) (fun _ _ _ h => h) (Or.inl ⟨by rfl, ?_⟩) (by assumption) ?_
      rotate_left
      focus (intro w hSw; (try dsimp only at hSw); go_simp <;> with_reducible rfl)
      try simp only [Act.put, List.setIfInBounds_toArray, List.set_cons_zero, List.set_cons_succ]
      refine wpAnyH_take (i := 4) (oi := { dst := some 32, op := Op.load 26 (Operand.tmp 31), type := 26, pos := "shadow.go:73", after := #[{ on := 3, ground := Ground.data }], guard := none }) (v := ?_) rfl (by kernel_rfl) (by kernel_rfl) (by kernel_rfl) (fun _ _ _ h => h) (Or.inl ⟨by rfl, ?_⟩) (by assumption) ?_
      rotate_left
      focus (intro w hSw; (try dsimp only at hSw); go_simp <;> with_reducible rfl)
      try simp only [Act.put, List.setIfInBounds_toArray, List.set_cons_zero, List.set_cons_succ]
      refine wpAnyH_ready (rs := [5]) (by kernel_rfl) (by simp) ?_
      refine AllReadyH.cons (o := { dst := some 33, op := Op.call { callee := Callee.value (Operand.func 46), args := #[Operand.tmp 32], argTypes := #[26] }, type := 3, pos := "shadow.go:73", after := #[{ on := 4, ground := Ground.data }], guard := none }) rfl (fun K hK => ?_) AllReadyH.nil
      go_simp
      have hsz := (HY.out.2.keep0 (Keep.refl [] y).drew).sz
      rw [List.length_range] at hsz
      refine (sframes_at hsz).mono ?_
      rintro e y1 ⟨rfl, rfl⟩
      clear hsz
      go_wp2_with fail
      refine shut_grow (fun x => x.cell? ⟨s, 0, none⟩ = some (.pointer (some ⟨r, 0, none⟩))) hK (fun _ h => h) hHeld (fun hHeld => ?_)
      clear hK K
      refine wpAnyH_take (i := 6) (oi := { dst := some 34, op := Op.binOp BinOp.geq 3 (Operand.tmp 28) (Operand.tmp 33) 3, type := 4, pos := "shadow.go:73", after := #[{ on := 0, ground := Ground.data }, { on := 5, ground := Ground.data }], guard := none }) (v := ?_) rfl (by kernel_rfl) (by kernel_rfl) (by kernel_rfl) (fun _ _ _ h => h) (Or.inl ⟨by rfl, ?_⟩) (by assumption) ?_
      rotate_left
      focus (intro w hSw; (try dsimp only at hSw); go_simp <;> with_reducible rfl)
      try simp only [Act.put, List.setIfInBounds_toArray, List.set_cons_zero, List.set_cons_succ]
      refine wpAnyH_take (i := 7) (oi := { dst := some 35, op := Op.move (Operand.tmp 34), type := 4, pos := "shadow.go:73", after := #[{ on := 6, ground := Ground.data }, { on := 5, ground := Ground.chain }], guard := none }) (v := ?_) rfl (by kernel_rfl) (by kernel_rfl) (by kernel_rfl) (fun _ _ _ h => h) (Or.inl ⟨by rfl, ?_⟩) (by assumption) ?_
      rotate_left
      focus (intro w hSw; (try dsimp only at hSw); go_simp <;> with_reducible rfl)
      try simp only [Act.put, List.setIfInBounds_toArray, List.set_cons_zero, List.set_cons_succ]
      rw [HFD.out]
      refine wpAnyH_take (i := 8) (oi := { dst := some 36, op := Op.move (Operand.tmp 0), type := 27, pos := "shadow.go:73", after := #[{ on := 7, ground := Ground.guard }], guard := some (7, false) }) (v := ?_) rfl (by kernel_rfl) (by kernel_rfl) (by kernel_rfl) (fun _ _ _ h => h) (Or.inl ⟨by rfl, ?_⟩) (by assumption) ?_
      rotate_left
      focus (intro w hSw; (try dsimp only at hSw); go_simp <;> with_reducible rfl)
      try simp only [Act.put, List.setIfInBounds_toArray, List.set_cons_zero, List.set_cons_succ]
      refine wpAnyH_take (i := 9) (oi := { dst := some 37, op := Op.nilCheck (Operand.tmp 36), type := 0, pos := "shadow.go:73", after := #[{ on := 8, ground := Ground.data }, { on := 7, ground := Ground.guard }], guard := some (7, false) }) (v := ?_) rfl (by kernel_rfl) (by kernel_rfl) (by kernel_rfl) (fun _ _ _ h => h) (Or.inl ⟨by rfl, ?_⟩) (by assumption) ?_
      rotate_left
      focus (intro w hSw; (try dsimp only at hSw); go_simp <;> with_reducible rfl)
      try simp only [Act.put, List.setIfInBounds_toArray, List.set_cons_zero, List.set_cons_succ]
      refine wpAnyH_take (i := 10) (oi := { dst := some 38, op := Op.fieldAddr 112 (Operand.tmp 37) 0, type := 0, pos := "shadow.go:73", after := #[{ on := 9, ground := Ground.data }, { on := 7, ground := Ground.guard }], guard := some (7, false) }) (v := ?_) rfl (by kernel_rfl) (by kernel_rfl) (by kernel_rfl) (fun _ _ _ h => h) (Or.inl ⟨by rfl, ?_⟩) (by assumption) ?_
      rotate_left
      focus (intro w hSw; (try dsimp only at hSw); go_simp <;> with_reducible rfl)
      try simp only [Act.put, List.setIfInBounds_toArray, List.set_cons_zero, List.set_cons_succ]
      refine wpAnyH_take (i := 11) (oi := { dst := some 39, op := Op.load 26 (Operand.tmp 38), type := 26, pos := "shadow.go:73", after := #[{ on := 10, ground := Ground.data }, { on := 7, ground := Ground.guard }], guard := some (7, false) }) (v := ?_) rfl (by kernel_rfl) (by kernel_rfl) (by kernel_rfl) (fun _ _ _ h => h) (Or.inl ⟨by rfl, ?_⟩) (by assumption) ?_
      rotate_left
      focus (intro w hSw; (try dsimp only at hSw); go_simp <;> with_reducible rfl)
      try simp only [Act.put, List.setIfInBounds_toArray, List.set_cons_zero, List.set_cons_succ]
      refine wpAnyH_take (i := 12) (oi := { dst := some 40, op := Op.move (Operand.tmp 7), type := 22, pos := "shadow.go:73", after := #[{ on := 7, ground := Ground.guard }], guard := some (7, false) }) (v := ?_) rfl (by kernel_rfl) (by kernel_rfl) (by kernel_rfl) (fun _ _ _ h => h) (Or.inl ⟨by rfl, ?_⟩) (by assumption) ?_
      rotate_left
      focus (intro w hSw; (try dsimp only at hSw); go_simp <;> with_reducible rfl)
      try simp only [Act.put, List.setIfInBounds_toArray, List.set_cons_zero, List.set_cons_succ]
      refine wpAnyH_ready (rs := [13]) (by kernel_rfl) (by simp) ?_
      refine AllReadyH.cons (o := { dst := some 41, op := Op.makeSlice 48 (Operand.const (Value.int IntKind.i64 64)) (Operand.const (Value.int IntKind.i64 64)), type := 48, pos := "shadow.go:73", after := #[{ on := 7, ground := Ground.guard }], guard := some (7, false) }) rfl (fun K hK => ?_) AllReadyH.nil
      go_simp
      obtain ⟨mk, hmk2⟩ : ∃ b, b = y.heap.size := ⟨_, rfl⟩
      rw [← hmk2]
      generalize hy2 : World.drew (World.alloc y _) = y2
      have H2 : Hid (ShAt y2 s r p 8 T ∧ RamAt y2 r fb g (List.range 40) L ∧ Row y2 (some ⟨mk, 0, none⟩) Zs.length Zs ∧ Keep [] y y2 ∧ mk = y.heap.size) := Lib.hid (by
        have hk : Keep [] y y2 := by subst hy2; exact ((Keep.refl [] y).alloc _).drew
        have h1 : y2.heap[mk]? = some (.cells (u8s Zs).toArray 5 (0, 0)) := by subst hy2; exact heap_alloc_at _ hmk2
        exact ⟨HY.out.1.keep hk (by simp), HY.out.2.keep0 hk, RefAt.row ⟨.inr ⟨_, rfl, h1⟩, (by intro x hx; rw [HZ.out] at hx; rw [List.eq_of_mem_replicate hx]; omega), by rw [HZ.out]; simp⟩, hk, hmk2⟩)
      have HZl : Zs.length = 64 := by rw [HZ.out]; simp
      have d1 := H2.out.1.heads.1
      clear hy2 hmk2
      refine shut_grow (fun x => x.cell? ⟨s, 0, none⟩ = some (.pointer (some ⟨r, 0, none⟩))) hK (fun _ h => h) d1 (fun hHeld => ?_)
      clear hK K
      refine wpAnyH_ready (rs := [14]) (by kernel_rfl) (by simp) ?_
      refine AllReadyH.cons (o := { dst := some 42, op := Op.call { callee := Callee.value (Operand.func 44), args := #[Operand.tmp 39, Operand.tmp 40, Operand.tmp 41], argTypes := #[26, 22, 48] }, type := 4, pos := "shadow.go:73", after := #[{ on := 11, ground := Ground.data }, { on := 12, ground := Ground.data }, { on := 13, ground := Ground.data }, { on := 7, ground := Ground.chain }, { on := 7, ground := Ground.guard }], guard := some (7, false) }) rfl (fun K hK => ?_) AllReadyH.nil
      go_simp
      have hF := fill_c H2.out.2.1 (by rw [HS.out.inv.len]) (by omega) (64 * f) H2.out.2.2.1 (by intro b hb; cases hb; have := lt_of_heap HY.out.2.data; have := H2.out.2.2.2.2; simp; omega) (by omega)
      rw [HZl] at hF
      refine hF.mono ?_
      rintro e y3 ⟨rfl, hR3, hk3⟩
      have H3 : Hid (ShAt y3 s r p 8 T ∧ RamAt y3 r fb g (List.range 40) (splice L (64 * f) Zs) ∧ Keep [g] y y3) := Lib.hid ⟨H2.out.1.keep hk3 (by simp; omega), hR3, (H2.out.2.2.2.1.weaken (by simp)).trans hk3⟩
      have d3 := H3.out.1.heads.1
      clear hR3 hk3 hF
      go_wp2_with fail
      refine shut_grow (fun x => x = y3) hK (fun _ h => by rw [h]; exact d3) rfl (fun hHeld => ?_)
      clear hK K
      refine wpAnyH_take (i := 15) (oi := { dst := some 43, op := Op.unOp UnOp.not 4 (Operand.tmp 42), type := 4, pos := "shadow.go:73", after := #[{ on := 14, ground := Ground.data }, { on := 7, ground := Ground.guard }], guard := some (7, false) }) (v := ?_) rfl (by kernel_rfl) (by kernel_rfl) (by kernel_rfl) (fun _ _ _ h => h) (Or.inl ⟨by rfl, ?_⟩) (by assumption) ?_
      rotate_left
      focus (intro w hSw; (try dsimp only at hSw); go_simp <;> with_reducible rfl)
      try simp only [Act.put, List.setIfInBounds_toArray, List.set_cons_zero, List.set_cons_succ]
      refine wpAnyH_take (i := 16) (oi := { dst := some 44, op := Op.pick (Operand.tmp 35) (Operand.const (Value.bool true)) (Operand.tmp 43), type := 4, pos := "shadow.go:73", after := #[{ on := 7, ground := Ground.data }, { on := 15, ground := Ground.data }], guard := none }) (v := ?_) rfl (by kernel_rfl) (by kernel_rfl) (by kernel_rfl) (fun _ _ _ h => h) (Or.inl ⟨by rfl, ?_⟩) (by assumption) ?_
      rotate_left
      focus (intro w hSw; (try dsimp only at hSw); go_simp <;> with_reducible rfl)
      try simp only [Act.put, List.setIfInBounds_toArray, List.set_cons_zero, List.set_cons_succ]
      refine wpAnyH_done (by kernel_rfl) ?_ _
      clear hHeld
      have hth3 : y3.there s (3 + n * 18) 18 := fun j hj => ⟨by rw [ArrAt.cell H3.out.1 (by omega)]; rfl, ArrAt.frozen H3.out.1 _⟩
      go_wp2_with (refine wpList_store_mid rfl 109 (.tmp 57) (.tmp 54) rfl s (3 + n * 18) #[.bool true, .int .i64 f, .int .u32 0, .int .u32 0, .int .u32 0, .int .u32 0, .int .u32 0, .int .u32 0, .int .u32 0, .int .u32 0, .int .u32 0, .int .u32 0, .int .u32 0, .int .u32 0, .int .u32 0, .int .u32 0, .int .u32 0, .int .u32 0] (by rfl) (by rfl) (by exact hth3) (by exact info_table) (by simp [Value.oneCell']) ?_)
      try simp only [Act.put]
      generalize hy4 : World.setCells y3 _ _ _ = y4
      have H4 : Hid (ShAt y4 s r p 8 (setTab T n ⟨true, f, fun _ => 0⟩) ∧ RamAt y4 r fb g (List.range 40) (splice L (64 * f) (List.replicate 64 0)) ∧ Keep [s, g] y y4) := Lib.hid (by
        have e : y4 = y3.setCells s (3 + n * 18) (tabL ⟨true, f, fun _ => 0⟩) := by rw [← hy4]; rfl
        have hk : Keep [s] y3 y4 := by rw [e]; exact keepSets (.inl (by simp)) _ _ _ (Keep.refl _ _)
        refine ⟨by rw [e]; exact H3.out.1.table hn _, ?_, (H3.out.2.2.weaken (by simp)).trans (hk.weaken (by simp))⟩
        have := H3.out.2.1
        rw [HZ.out] at this
        exact this.keep hk (by simp; omega) (by simp; omega) (by simp; omega))
      clear hy4 hth3 d3 d1
      obtain ⟨q0, q1, q2, q3⟩ := H4.out.1.heads
      have o1 : bits .or .u32 (64 * (f : Int)) 1 = 64 * (f : Int) + 1 := by
        have := or_bits (f := f) (a := 0) (b := 1) (by omega) (by decide) (by decide)
        simpa using this
      have o2 : bits .or .u32 (64 * (f : Int) + 1) 2 = 64 * (f : Int) + 3 := by
        have := or_bits (f := f) (a := 1) (b := 2) (by omega) (by decide) (by decide)
        simpa using this
      have o3 : bits .or .u32 (64 * (f : Int) + 3) 4 = 64 * (f : Int) + 7 := by
        have := or_bits (f := f) (a := 3) (b := 4) (by omega) (by decide) (by decide)
        simpa using this
      have m1 : IntKind.u32.wrap (4 * (n : Int)) = 4 * (n : Int) := IntWalk.u32_in _ (by omega)
      have m2 : IntKind.u32.wrap (512 + 4 * (n : Int)) = ((512 + 4 * n : Nat) : Int) := by rw [IntWalk.u32_in _ (by omega)]; omega
      refine wp_region_held_drew (S := fun x => x.cell? ⟨s, 0, none⟩ = some (.pointer (some ⟨r, 0, none⟩)) ∧ x.cell? ⟨s, 2, none⟩ = some (.int .i64 8)) (by kernel_rfl) ⟨q0, q2⟩ (fun hHeld => ?_)
      skip
      refine wpAnyH_take (i := 0) (oi := { dst := some 58, op := Op.move (Operand.tmp 0), type := 27, pos := "shadow.go:78", after := #[], guard := none }) (v := ?_) rfl (by kernel_rfl) (by kernel_rfl) (by kernel_rfl) (fun _ _ _ h => h) (Or.inl ⟨by rfl, ?_⟩) (by assumption) ?_
      rotate_left
      focus (intro w hSw; (try dsimp only at hSw); go_simp <;> with_reducible rfl)
      try simp only [Act.put, List.setIfInBounds_toArray, List.set_cons_zero, List.set_cons_succ]
      refine wpAnyH_take (i := 1) (oi := { dst := some 59, op := Op.nilCheck (Operand.tmp 58), type := 0, pos := "shadow.go:78", after := #[{ on := 0, ground := Ground.data }], guard := none }) (v := ?_) rfl (by kernel_rfl) (by kernel_rfl) (by kernel_rfl) (fun _ _ _ h => h) (Or.inl ⟨by rfl, ?_⟩) (by assumption) ?_
      rotate_left
      focus (intro w hSw; (try dsimp only at hSw); go_simp <;> with_reducible rfl)
      try simp only [Act.put, List.setIfInBounds_toArray, List.set_cons_zero, List.set_cons_succ]
      refine wpAnyH_take (i := 2) (oi := { dst := some 60, op := Op.fieldAddr 112 (Operand.tmp 59) 0, type := 0, pos := "shadow.go:78", after := #[{ on := 1, ground := Ground.data }], guard := none }) (v := ?_) rfl (by kernel_rfl) (by kernel_rfl) (by kernel_rfl) (fun _ _ _ h => h) (Or.inl ⟨by rfl, ?_⟩) (by assumption) ?_
      rotate_left
      focus (intro w hSw; (try dsimp only at hSw); go_simp <;> with_reducible rfl)
      try simp only [Act.put, List.setIfInBounds_toArray, List.set_cons_zero, List.set_cons_succ]
      refine wpAnyH_take (i := 3) (oi := { dst := some 61, op := Op.load 26 (Operand.tmp 60), type := 26, pos := "shadow.go:78", after := #[{ on := 2, ground := Ground.data }], guard := none }) (v := ?_) rfl (by kernel_rfl) (by kernel_rfl) (by kernel_rfl) (fun _ _ _ h => h) (Or.inl ⟨by rfl, ?_⟩) (by assumption) ?_
      rotate_left
      focus (intro w hSw; (try dsimp only at hSw); go_simp <;> with_reducible rfl)
      try simp only [Act.put, List.setIfInBounds_toArray, List.set_cons_zero, List.set_cons_succ]
      refine wpAnyH_take (i := 4) (oi := { dst := some 62, op := Op.move (Operand.tmp 0), type := 27, pos := "shadow.go:78", after := #[], guard := none }) (v := ?_) rfl (by kernel_rfl) (by kernel_rfl) (by kernel_rfl) (fun _ _ _ h => h) (Or.inl ⟨by rfl, ?_⟩) (by assumption) ?_
      rotate_left
      focus (intro w hSw; (try dsimp only at hSw); go_simp <;> with_reducible rfl)
      try simp only [Act.put, List.setIfInBounds_toArray, List.set_cons_zero, List.set_cons_succ]
      refine wpAnyH_take (i := 6) (oi := { dst := some 64, op := Op.move (Operand.tmp 1), type := 22, pos := "shadow.go:78", after := #[], guard := none }) (v := ?_) rfl (by kernel_rfl) (by kernel_rfl) (by kernel_rfl) (fun _ _ _ h => h) (Or.inl ⟨by rfl, ?_⟩) (by assumption) ?_
      rotate_left
      focus (intro w hSw; (try dsimp only at hSw); go_simp <;> with_reducible rfl)
      try simp only [Act.put, List.setIfInBounds_toArray, List.set_cons_zero, List.set_cons_succ]
      refine wpAnyH_take (i := 7) (oi := { dst := some 65, op := Op.binOp BinOp.mul 22 (Operand.const (Value.int IntKind.u32 4)) (Operand.tmp 64) 22, type := 22, pos := "shadow.go:78", after := #[{ on := 6, ground := Ground.data }], guard := none }) (v := ?_) rfl (by kernel_rfl) (by kernel_rfl) (by kernel_rfl) (fun _ _ _ h => h) (Or.inl ⟨by rfl, ?_⟩) (by assumption) ?_
      rotate_left
      focus (intro w hSw; (try dsimp only at hSw); go_simp <;> with_reducible rfl)
      try simp only [Act.put, List.setIfInBounds_toArray, List.set_cons_zero, List.set_cons_succ]
      refine wpAnyH_take (i := 9) (oi := { dst := some 67, op := Op.move (Operand.tmp 7), type := 22, pos := "shadow.go:78", after := #[], guard := none }) (v := ?_) rfl (by kernel_rfl) (by kernel_rfl) (by kernel_rfl) (fun _ _ _ h => h) (Or.inl ⟨by rfl, ?_⟩) (by assumption) ?_
      rotate_left
      focus (intro w hSw; (try dsimp only at hSw); go_simp <;> with_reducible rfl)
      try simp only [Act.put, List.setIfInBounds_toArray, List.set_cons_zero, List.set_cons_succ]
      refine wpAnyH_take (i := 10) (oi := { dst := some 68, op := Op.binOp BinOp.or 22 (Operand.tmp 67) (Operand.const (Value.int IntKind.u32 1)) 22, type := 22, pos := "shadow.go:78", after := #[{ on := 9, ground := Ground.data }], guard := none }) (v := ?_) rfl (by kernel_rfl) (by kernel_rfl) (by kernel_rfl) (fun _ _ _ h => h) (Or.inl ⟨by rfl, ?_⟩) (by assumption) ?_
      rotate_left
      focus (intro w hSw; (try dsimp only at hSw); go_simp <;> with_reducible rfl)
      try simp only [Act.put, List.setIfInBounds_toArray, List.set_cons_zero, List.set_cons_succ]
      refine wpAnyH_take (i := 11) (oi := { dst := some 69, op := Op.binOp BinOp.or 22 (Operand.tmp 68) (Operand.const (Value.int IntKind.u32 2)) 22, type := 22, pos := "shadow.go:78", after := #[{ on := 10, ground := Ground.data }], guard := none }) (v := ?_) rfl (by kernel_rfl) (by kernel_rfl) (by kernel_rfl) (fun _ _ _ h => h) (Or.inl ⟨by rfl, ?_⟩) (by assumption) ?_
      rotate_left
      focus (intro w hSw; (try dsimp only at hSw); go_simp <;> with_reducible rfl)
      try simp only [Act.put, List.setIfInBounds_toArray, List.set_cons_zero, List.set_cons_succ]
      refine wpAnyH_take (i := 12) (oi := { dst := some 70, op := Op.binOp BinOp.or 22 (Operand.tmp 69) (Operand.const (Value.int IntKind.u32 4)) 22, type := 22, pos := "shadow.go:78", after := #[{ on := 11, ground := Ground.data }], guard := none }) (v := ?_) rfl (by kernel_rfl) (by kernel_rfl) (by kernel_rfl) (fun _ _ _ h => h) (Or.inl ⟨by rfl, ?_⟩) (by assumption) ?_
      rotate_left
      focus (intro w hSw; (try dsimp only at hSw); go_simp <;> with_reducible rfl)
      try simp only [Act.put, List.setIfInBounds_toArray, List.set_cons_zero, List.set_cons_succ]
      refine wpAnyH_ready (rs := [5]) (by kernel_rfl) (by simp) ?_
      refine AllReadyH.cons (o := { dst := some 63, op := Op.call { callee := Callee.value (Operand.func 16), args := #[Operand.tmp 62], argTypes := #[27] }, type := 22, pos := "shadow.go:78", after := #[{ on := 4, ground := Ground.data }], guard := none }) rfl (fun K hK => ?_) AllReadyH.nil
      go_simp
      refine (sroot_at (dir := 8) hHeld.1 hHeld.2 (by omega)).mono ?_
      rintro e y5 ⟨rfl, rfl⟩
      go_wp2_with fail
      refine shut_grow (fun x => x.cell? ⟨s, 0, none⟩ = some (.pointer (some ⟨r, 0, none⟩)) ∧ x.cell? ⟨s, 2, none⟩ = some (.int .i64 8)) hK (fun _ h => h) hHeld (fun hHeld => ?_)
      clear hK K
      refine wpAnyH_take (i := 8) (oi := { dst := some 66, op := Op.binOp BinOp.add 22 (Operand.tmp 63) (Operand.tmp 65) 22, type := 22, pos := "shadow.go:78", after := #[{ on := 5, ground := Ground.data }, { on := 7, ground := Ground.data }], guard := none }) (v := ?_) rfl (by kernel_rfl) (by kernel_rfl) (by kernel_rfl) (fun _ _ _ h => h) (Or.inl ⟨by rfl, ?_⟩) (by assumption) ?_
      rotate_left
      focus (intro w hSw; (try dsimp only at hSw); go_simp <;> with_reducible rfl)
      try simp only [Act.put, List.setIfInBounds_toArray, List.set_cons_zero, List.set_cons_succ]
      refine wpAnyH_ready (rs := [13]) (by kernel_rfl) (by simp) ?_
      refine AllReadyH.cons (o := { dst := some 71, op := Op.call { callee := Callee.value (Operand.func 82), args := #[Operand.tmp 61, Operand.tmp 66, Operand.tmp 70], argTypes := #[26, 22, 22] }, type := 4, pos := "shadow.go:78", after := #[{ on := 3, ground := Ground.data }, { on := 8, ground := Ground.data }, { on := 12, ground := Ground.data }, { on := 5, ground := Ground.chain }], guard := none }) rfl (fun K hK => ?_) AllReadyH.nil
      go_simp
      have hSW := setword_c (H4.out.2.1.keep0 (Keep.refl [] y4).drew) (by rw [length_splice' _ _ _ (by rw [HS.out.inv.len]; simp; omega), HS.out.inv.len]) (by omega) (512 + 4 * n) (64 * f + 7) ⟨by omega, by omega⟩ (by omega)
      have x1 : ((512 + 4 * n : Nat) : Int) = 512 + 4 * (n : Int) := by omega
      have x2 : ((64 * f + 7 : Nat) : Int) = 64 * (f : Int) + 7 := by omega
      rw [x1, x2] at hSW
      refine hSW.mono ?_
      rintro e y6 ⟨rfl, hR6, hk6⟩
      have e0 := hk6.cell hHeld.1 (by simp; omega)
      have e2 := hk6.cell hHeld.2 (by simp; omega)
      have hk46 : Keep [g] y4 y6 := (Keep.refl [g] y4).drew.trans hk6
      have HF : Hid (TablePost s r fb g p pm most T L c n w (.returned (.bool true)) y6) := Lib.hid (by
        have hky : Keep [s, g] y y6 := H4.out.2.2.trans (hk46.weaken (by simp))
        refine ⟨(H1.out.2.1.weaken (by simp)).trans (hky.weaken (by simp)), .inr (.inl ⟨HTH.out, rfl, f, _, ⟨H4.out.1.keep hk46 (by simp; omega), hR6, HS.out.inv.lend hn HTH.out H1.out.2.2.2 ?_, ⟨lent ++ [(f : Int)], tk + 1, sh, H1.out.1.keep hky (by simp; omega) (by simp; omega), by have := HP.out.1; omega, ?_⟩, HS.out.ne⟩⟩)⟩
        · intro m hm1 hm2 hm3
          exact H1.out.2.2.1 ((HP.out.2 _).2 ⟨m, hm1, hm2, by rw [hm3]⟩)
        · intro z
          rw [List.mem_append, List.mem_singleton, HP.out.2]
          constructor
          · rintro (⟨m, h1, h2, h3⟩ | rfl)
            · have hmn : m ≠ n := by rintro rfl; rw [HTH.out] at h2; cases h2
              exact ⟨m, h1, by rw [setTab_ne hmn]; exact h2, by rw [setTab_ne hmn]; exact h3⟩
            · exact ⟨n, hn, by rw [setTab_same], by rw [setTab_same]⟩
          · rintro ⟨m, h1, h2, h3⟩
            by_cases hmn : m = n
            · subst hmn
              rw [setTab_same] at h3
              exact .inr h3
            · rw [setTab_ne hmn] at h2 h3
              exact .inl ⟨m, h1, h2, h3⟩)
      clear hR6 hk6 hk46 hSW
      go_wp2_with fail
      refine shut_grow (fun x => x = y6) hK (fun _ h => by rw [h]; exact ⟨e0, e2⟩) rfl (fun hHeld => ?_)
      clear hK K
      refine wpAnyH_done (by kernel_rfl) ?_ _
      go_wp2_with fail
      go_ret
      exact HF.out
    · have HF : Hid (TablePost s r fb g p pm most T L c n w (.returned (.bool false)) y) := Lib.hid (by
        have hne := HS.out.ne
        refine ⟨hkp.weaken (by simp), .inr (.inr ⟨HTH.out, rfl, ⟨HS.out.sh.keep hkp (by simp; omega), HS.out.ram.keep hkp (by simp; omega) (by simp; omega) (by simp; omega), HS.out.inv, ⟨lent, tk, sh + 1, hpool, by have := HP.out.1; omega, HP.out.2⟩, hne⟩, fun j hj => ?_⟩)⟩
        obtain ⟨m, h1, h2, h3⟩ := (HP.out.2 _).1 (hall j (by omega))
        exact ⟨m, h1, h2, by omega⟩)
      clear hall hpool hkp
      go_wp2_with fail
      go_ret
      exact HF.out
  · have HF : Hid (TablePost s r fb g p pm most T L c n w (.returned (.bool true)) w) := Lib.hid ⟨Keep.refl _ _, .inl ⟨hth, rfl, h.later⟩⟩
    rw [hth] at ct
    clear h hth
    go_enter Try.func47, Try.ntmps47
    go_wp2_with fail
    go_ret
    exact HF.out
end Go.Proofs.Ytpinoejckagjbaa
