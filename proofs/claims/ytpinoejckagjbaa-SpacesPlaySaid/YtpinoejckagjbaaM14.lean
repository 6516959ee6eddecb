/- Contracts of the functions that the law reaches, walked, and the plain laws on them (several texts in one). -/
import Derived.Outline
import Derived.Test.YtpinoejckagjbaaM13

/- An entry laid, a table lent: for any memory and pool. -/
namespace Go.Proofs.Ytpinoejckagjbaa
open Go.RowKit Go.Mum
set_option linter.unusedVariables false
set_option linter.unusedSimpArgs false
set_option maxRecDepth 100000

set_option maxHeartbeats 2000000 in
theorem ulay_at {w : World} {s r fb g p nf : Nat} {dir : Int} {uv : Value} {T : Nat → Tab} {L : List Int} (h : ShU w s r p dir uv T) (hR : RamAt w r fb g (List.range nf) L) (hl : L.length = 64 * nf) (hnf : nf ≤ 512) (hs : s ≠ r ∧ s ≠ fb ∧ s ≠ g) (va e : Nat) (hv : va < 32768) (hel : e < 4294967296) (hf : (T (va / 1024)).fr < nf) :
    Calls Try.prog 48 #[.pointer (some ⟨s, 0, none⟩), .int .u32 va, .int .u32 e] w fun en w' => ∃ v, en = .returned v ∧ ShU w' s r p dir uv (setTab T (va / 1024) (setEn (T (va / 1024)) (va / 64 % 16) e)) ∧ RamAt w' r fb g (List.range nf) (splice L (64 * (T (va / 1024)).fr + 4 * (va / 64 % 16)) (le4 e)) ∧ Keep [s, g] w w' := by
  obtain ⟨n, hn⟩ : ∃ n, n = va / 1024 := ⟨_, rfl⟩
  obtain ⟨k, hk⟩ : ∃ k, k = va / 64 % 16 := ⟨_, rfl⟩
  obtain ⟨fr, hfr⟩ : ∃ fr, fr = (T n).fr := ⟨_, rfl⟩
  rw [← hn] at hf ⊢
  rw [← hk, ← hfr]
  have n1 : (va : Int) / 1024 = (n : Int) := by omega
  have e15 : bits .and .u32 ((va : Int) / 64) 15 = (k : Int) := by
    have := mask_u32 (va / 64) 4 (by decide) 15 rfl (by omega)
    rw [show (((va / 64 : Nat)) : Int) = (va : Int) / 64 by omega] at this
    rw [this, hk]
  have hn32 : n < 32 := by omega
  have hk16 : k < 16 := by omega
  have hni : (n : Int) < 32 := by omega
  have hki : (k : Int) < 16 := by omega
  clear hn hk
  obtain ⟨c0, c1, c2, c3⟩ := h.heads
  have cn := h.fr hn32
  have ck := h.en hn32 hk16
  have z0 := h.frozen (3 + n * 18 + 2 + k)
  go_enter Try.func48, Try.ntmps48
  go_wp2_with fail
  have hS := h.lay (e := e) hn32 hk16
  have hk := keepSet (Keep.refl [s, g] w) (b := s) (by simp) (3 + n * 18 + 2 + k) (.int .u32 e)
  have hR1 := hR.keep (keepSet (Keep.refl [s] w) (b := s) (by simp) (3 + n * 18 + 2 + k) (.int .u32 e)) (by simp; omega) (by simp; omega) (by simp; omega)
  generalize hy : World.setCell w _ _ = y at hS hk hR1 ⊢
  have HY := Lib.hid (And.intro hS (And.intro hk hR1))
  obtain ⟨d0, d1, d2, d3⟩ := hS.heads
  have dn := hS.fr hn32
  rw [setTab_same] at dn
  change y.cell? ⟨s, 3 + n * 18 + 1, none⟩ = some (.int .i64 ((T n).fr : Nat)) at dn
  rw [← hfr] at dn hf
  have HFR := Lib.hid hfr
  clear hfr
  have a1 : IntKind.i64.wrap ((fr : Int) * 64) = (fr : Int) * 64 := IntWalk.i64_in _ (by omega)
  have a2 : IntKind.u32.wrap ((fr : Int) * 64) = (fr : Int) * 64 := IntWalk.u32_in _ (by omega)
  have a3 : IntKind.u32.wrap (4 * (k : Int)) = 4 * (k : Int) := IntWalk.u32_in _ (by omega)
  have a4 : IntKind.u32.wrap ((fr : Int) * 64 + 4 * (k : Int)) = ((64 * fr + 4 * k : Nat) : Int) := by rw [IntWalk.u32_in _ (by omega)]; omega
  clear hy hS hk hR1 cn ck z0 c0 c1 c2 c3 h hR d1 d2 d3
  refine wp_region_held_drew (S := fun x => x.cell? ⟨s, 0, none⟩ = some (.pointer (some ⟨r, 0, none⟩)) ∧ x.cell? ⟨s, 3 + n * 18 + 1, none⟩ = some (.int .i64 fr)) (by kernel_rfl) ⟨d0, dn⟩ (fun hHeld => ?_)
  skip
  refine wpAnyH_take (i := 0) (oi := { dst := some 22, op := Op.move (Operand.tmp 0), type := 27, pos := "shadow.go:86", after := #[], guard := none }) (v := ?_) rfl (by kernel_rfl) (by kernel_rfl) (by kernel_rfl) (fun _ _ _ h => h) (Or.inl ⟨by rfl, ?_⟩) (by assumption) ?_
  rotate_left
  focus (intro w hSw; (try dsimp only at hSw); go_simp <;> with_reducible rfl)
  try simp only [Act.put, List.setIfInBounds_toArray, List.set_cons_zero, List.set_cons_succ]
  refine wpAnyH_take (i := 1) (oi := { dst := some 23, op := Op.nilCheck (Operand.tmp 22), type := 0, pos := "shadow.go:86", after := #[{ on := 0, ground := Ground.data }], guard := none }) (v := ?_) rfl (by kernel_rfl) (by kernel_rfl) (by kernel_rfl) (fun _ _ _ h => h) (Or.inl ⟨by rfl, ?_⟩) (by assumption) ?_
  rotate_left
  focus (intro w hSw; (try dsimp only at hSw); go_simp <;> with_reducible rfl)
  try simp only [Act.put, List.setIfInBounds_toArray, List.set_cons_zero, List.set_cons_succ]
  refine wpAnyH_take (i := 2) (oi := { dst := some 24, op := Op.fieldAddr 112 (Operand.tmp 23) 0, type := 0, pos := "shadow.go:86", after := #[{ on := 1, ground := Ground.data }], guard := none }) (v := ?_) rfl (by kernel_rfl) (by kernel_rfl) (by kernel_rfl) (fun _ _ _ h => h) (Or.inl ⟨by rfl, ?_⟩) (by assumption) ?_
  rotate_left
  focus (intro w hSw; (try dsimp only at hSw); go_simp <;> with_reducible rfl)
  try simp only [Act.put, List.setIfInBounds_toArray, List.set_cons_zero, List.set_cons_succ]
  refine wpAnyH_take (i := 3) (oi := { dst := some 25, op := Op.load 26 (Operand.tmp 24), type := 26, pos := "shadow.go:86", after := #[{ on := 2, ground := Ground.data }], guard := none }) (v := ?_) rfl (by kernel_rfl) (by kernel_rfl) (by kernel_rfl) (fun _ _ _ h => h) (Or.inl ⟨by rfl, ?_⟩) (by assumption) ?_
  rotate_left
  focus (intro w hSw; (try dsimp only at hSw); go_simp <;> with_reducible rfl)
  try simp only [Act.put, List.setIfInBounds_toArray, List.set_cons_zero, List.set_cons_succ]
  refine wpAnyH_take (i := 4) (oi := { dst := some 26, op := Op.move (Operand.tmp 0), type := 27, pos := "shadow.go:86", after := #[], guard := none }) (v := ?_) rfl (by kernel_rfl) (by kernel_rfl) (by kernel_rfl) (fun _ _ _ h => h) (Or.inl ⟨by rfl, ?_⟩) (by assumption) ?_
  rotate_left
  focus (intro w hSw; (try dsimp only at hSw); go_simp <;> with_reducible rfl)
  try simp only [Act.put, List.setIfInBounds_toArray, List.set_cons_zero, List.set_cons_succ]
  refine wpAnyH_take (i := 5) (oi := { dst := some 27, op := Op.move (Operand.tmp 6), type := 22, pos := "shadow.go:86", after := #[], guard := none }) (v := ?_) rfl (by kernel_rfl) (by kernel_rfl) (by kernel_rfl) (fun _ _ _ h => h) (Or.inl ⟨by rfl, ?_⟩) (by assumption) ?_
  rotate_left
  focus (intro w hSw; (try dsimp only at hSw); go_simp <;> with_reducible rfl)
  try simp only [Act.put, List.setIfInBounds_toArray, List.set_cons_zero, List.set_cons_succ]
  refine wpAnyH_take (i := 6) (oi := { dst := some 28, op := Op.nilCheck (Operand.tmp 26), type := 0, pos := "shadow.go:86", after := #[{ on := 4, ground := Ground.data }], guard := none }) (v := ?_) rfl (by kernel_rfl) (by kernel_rfl) (by kernel_rfl) (fun _ _ _ h => h) (Or.inl ⟨by rfl, ?_⟩) (by assumption) ?_
  rotate_left
  focus (intro w hSw; (try dsimp only at hSw); go_simp <;> with_reducible rfl)
  try simp only [Act.put, List.setIfInBounds_toArray, List.set_cons_zero, List.set_cons_succ]
  refine wpAnyH_take (i := 7) (oi := { dst := some 29, op := Op.fieldAddr 112 (Operand.tmp 28) 3, type := 0, pos := "shadow.go:86", after := #[{ on := 6, ground := Ground.data }], guard := none }) (v := ?_) rfl (by kernel_rfl) (by kernel_rfl) (by kernel_rfl) (fun _ _ _ h => h) (Or.inl ⟨by rfl, ?_⟩) (by assumption) ?_
  rotate_left
  focus (intro w hSw; (try dsimp only at hSw); go_simp <;> with_reducible rfl)
  try simp only [Act.put, List.setIfInBounds_toArray, List.set_cons_zero, List.set_cons_succ]
  refine wpAnyH_take (i := 8) (oi := { dst := some 30, op := Op.indexAddr 110 (Operand.tmp 29) (Operand.tmp 27), type := 0, pos := "shadow.go:86", after := #[{ on := 7, ground := Ground.data }, { on := 5, ground := Ground.data }], guard := none }) (v := ?_) rfl (by kernel_rfl) (by kernel_rfl) (by kernel_rfl) (fun _ _ _ h => h) (Or.inl ⟨by rfl, ?_⟩) (by assumption) ?_
  rotate_left
  focus (intro w hSw; (try dsimp only at hSw); go_simp <;> with_reducible rfl)
  try simp only [Act.put, List.setIfInBounds_toArray, List.set_cons_zero, List.set_cons_succ]
  refine wpAnyH_take (i := 9) (oi := { dst := some 31, op := Op.fieldAddr 109 (Operand.tmp 30) 1, type := 0, pos := "shadow.go:86", after := #[{ on := 8, ground := Ground.data }], guard := none }) (v := ?_) rfl (by kernel_rfl) (by kernel_rfl) (by kernel_rfl) (fun _ _ _ h => h) (Or.inl ⟨by rfl, ?_⟩) (by assumption) ?_
  rotate_left
  focus (intro w hSw; (try dsimp only at hSw); go_simp <;> with_reducible rfl)
  try simp only [Act.put, List.setIfInBounds_toArray, List.set_cons_zero, List.set_cons_succ]
  refine wpAnyH_take (i := 10) (oi := { dst := some 32, op := Op.load 3 (Operand.tmp 31), type := 3, pos := "shadow.go:86", after := #[{ on := 9, ground := Ground.data }], guard := none }) (v := ?_) rfl (by kernel_rfl) (by kernel_rfl) (by kernel_rfl) (fun _ _ _ h => h) (Or.inl ⟨by rfl, ?_⟩) (by assumption) ?_
  rotate_left
  focus (intro w hSw; (try dsimp only at hSw); go_simp <;> with_reducible rfl)
  try simp only [Act.put, List.setIfInBounds_toArray, List.set_cons_zero, List.set_cons_succ]
  refine wpAnyH_take (i := 11) (oi := { dst := some 33, op := Op.binOp BinOp.mul 3 (Operand.tmp 32) (Operand.const (Value.int IntKind.i64 64)) 3, type := 3, pos := "shadow.go:86", after := #[{ on := 10, ground := Ground.data }], guard := none }) (v := ?_) rfl (by kernel_rfl) (by kernel_rfl) (by kernel_rfl) (fun _ _ _ h => h) (Or.inl ⟨by rfl, ?_⟩) (by assumption) ?_
  rotate_left
  focus (intro w hSw; (try dsimp only at hSw); go_simp <;> with_reducible rfl)
  try simp only [Act.put, List.setIfInBounds_toArray, List.set_cons_zero, List.set_cons_succ]
  refine wpAnyH_take (i := 12) (oi := { dst := some 34, op := Op.convert 3 22 (Operand.tmp 33), type := 22, pos := "shadow.go:86", after := #[{ on := 11, ground := Ground.data }], guard := none }) (v := ?_) rfl (by kernel_rfl) (by kernel_rfl) (by kernel_rfl) (fun _ _ _ h => h) (Or.inl ⟨by rfl, ?_⟩) (by assumption) ?_
  rotate_left
  focus (intro w hSw; (try dsimp only at hSw); go_simp <;> with_reducible rfl)
  try simp only [Act.put, List.setIfInBounds_toArray, List.set_cons_zero, List.set_cons_succ]
  refine wpAnyH_take (i := 13) (oi := { dst := some 35, op := Op.move (Operand.tmp 7), type := 22, pos := "shadow.go:86", after := #[], guard := none }) (v := ?_) rfl (by kernel_rfl) (by kernel_rfl) (by kernel_rfl) (fun _ _ _ h => h) (Or.inl ⟨by rfl, ?_⟩) (by assumption) ?_
  rotate_left
  focus (intro w hSw; (try dsimp only at hSw); go_simp <;> with_reducible rfl)
  try simp only [Act.put, List.setIfInBounds_toArray, List.set_cons_zero, List.set_cons_succ]
  refine wpAnyH_take (i := 14) (oi := { dst := some 36, op := Op.binOp BinOp.mul 22 (Operand.const (Value.int IntKind.u32 4)) (Operand.tmp 35) 22, type := 22, pos := "shadow.go:86", after := #[{ on := 13, ground := Ground.data }], guard := none }) (v := ?_) rfl (by kernel_rfl) (by kernel_rfl) (by kernel_rfl) (fun _ _ _ h => h) (Or.inl ⟨by rfl, ?_⟩) (by assumption) ?_
  rotate_left
  focus (intro w hSw; (try dsimp only at hSw); go_simp <;> with_reducible rfl)
  try simp only [Act.put, List.setIfInBounds_toArray, List.set_cons_zero, List.set_cons_succ]
  refine wpAnyH_take (i := 15) (oi := { dst := some 37, op := Op.binOp BinOp.add 22 (Operand.tmp 34) (Operand.tmp 36) 22, type := 22, pos := "shadow.go:86", after := #[{ on := 12, ground := Ground.data }, { on := 14, ground := Ground.data }], guard := none }) (v := ?_) rfl (by kernel_rfl) (by kernel_rfl) (by kernel_rfl) (fun _ _ _ h => h) (Or.inl ⟨by rfl, ?_⟩) (by assumption) ?_
  rotate_left
  focus (intro w hSw; (try dsimp only at hSw); go_simp <;> with_reducible rfl)
  try simp only [Act.put, List.setIfInBounds_toArray, List.set_cons_zero, List.set_cons_succ]
  refine wpAnyH_take (i := 16) (oi := { dst := some 38, op := Op.move (Operand.tmp 2), type := 22, pos := "shadow.go:86", after := #[], guard := none }) (v := ?_) rfl (by kernel_rfl) (by kernel_rfl) (by kernel_rfl) (fun _ _ _ h => h) (Or.inl ⟨by rfl, ?_⟩) (by assumption) ?_
  rotate_left
  focus (intro w hSw; (try dsimp only at hSw); go_simp <;> with_reducible rfl)
  try simp only [Act.put, List.setIfInBounds_toArray, List.set_cons_zero, List.set_cons_succ]
  refine wpAnyH_ready (rs := [17]) (by kernel_rfl) (by simp) ?_
  refine AllReadyH.cons (o := { dst := some 39, op := Op.call { callee := Callee.value (Operand.func 82), args := #[Operand.tmp 25, Operand.tmp 37, Operand.tmp 38], argTypes := #[26, 22, 22] }, type := 4, pos := "shadow.go:86", after := #[{ on := 3, ground := Ground.data }, { on := 15, ground := Ground.data }, { on := 16, ground := Ground.data }], guard := none }) rfl (fun K hK => ?_) AllReadyH.nil
  go_simp
  refine (setword_c (HY.out.2.2.keep0 (Keep.refl [] y).drew) hl hnf (64 * fr + 4 * k) e ⟨by omega, by omega⟩ hel).mono ?_
  rintro en y2 ⟨rfl, hR2, hk2⟩
  have hk2' : Keep [g] y y2 := (Keep.refl [g] y).drew.trans hk2
  have HF : Hid (ShU y2 s r p dir uv (setTab T n (setEn (T n) k e)) ∧ RamAt y2 r fb g (List.range nf) (splice L (64 * fr + 4 * k) (le4 e)) ∧ Keep [s, g] w y2) := Lib.hid ⟨HY.out.1.keep hk2' (by simp; omega), hR2, HY.out.2.1.trans (hk2'.weaken (by simp))⟩
  have e0 := hk2.cell hHeld.1 (by simp; omega)
  have en' := hk2.cell hHeld.2 (by simp; omega)
  clear hR2 hk2 hk2'
  go_wp2_with fail
  refine shut_grow (fun x => x = y2) hK (fun _ h => by rw [h]; exact ⟨e0, en'⟩) rfl (fun hHeld => ?_)
  clear hK K
  refine wpAnyH_done (by kernel_rfl) ?_ _
  go_wp2_with fail
  go_end0
  exact ⟨⟨_, rfl⟩, HF.out⟩


/-- A shadow, its memory and its pool, whatever they are. -/
structure URaw (x : World) (s r fb g p pm nf dir P0 most : Nat) (uv : Value) (T : Nat → Tab) (L lent : List Int) (c : Nat) : Prop where
  sh : ShU x s r p dir uv T
  ram : RamAt x r fb g (List.range nf) L
  len : L.length = 64 * nf
  pool : ∃ tk sh, PoolAt x p pm P0 most lent tk sh ∧ (0 ≤ tk ∧ tk ≤ (c : Int) ∧ 0 ≤ sh ∧ sh ≤ (c : Int))
  nfb : nf ≤ 512
  hd : dir + 2 ≤ nf
  hp : P0 + most ≤ nf
  ne : (s ≠ r ∧ s ≠ fb ∧ s ≠ g ∧ s ≠ p ∧ s ≠ pm) ∧ (p ≠ r ∧ p ≠ fb ∧ p ≠ g ∧ pm ≠ r ∧ pm ≠ fb ∧ pm ≠ g)

theorem URaw.keep {l : List Nat} {w x : World} {s r fb g p pm nf dir P0 most : Nat} {uv : Value} {T : Nat → Tab} {L lent : List Int} {c : Nat} (h : URaw w s r fb g p pm nf dir P0 most uv T L lent c) (hk : Keep l w x) (hl : s ∉ l ∧ r ∉ l ∧ fb ∉ l ∧ g ∉ l ∧ p ∉ l ∧ pm ∉ l) : URaw x s r fb g p pm nf dir P0 most uv T L lent c := by
  obtain ⟨tk, sh, hp, hb⟩ := h.pool
  exact ⟨h.sh.keep hk hl.1, h.ram.keep hk hl.2.1 hl.2.2.1 hl.2.2.2.1, h.len, ⟨tk, sh, hp.keep hk hl.2.2.2.2.1 hl.2.2.2.2.2, hb⟩, h.nfb, h.hd, h.hp, h.ne⟩

theorem URaw.keep0 {w x : World} {s r fb g p pm nf dir P0 most : Nat} {uv : Value} {T : Nat → Tab} {L lent : List Int} {c : Nat} (h : URaw w s r fb g p pm nf dir P0 most uv T L lent c) (hk : Keep [] w x) : URaw x s r fb g p pm nf dir P0 most uv T L lent c := h.keep hk (by simp)

theorem URaw.later {w : World} {s r fb g p pm nf dir P0 most : Nat} {uv : Value} {T : Nat → Tab} {L lent : List Int} {c : Nat} (h : URaw w s r fb g p pm nf dir P0 most uv T L lent c) : URaw w s r fb g p pm nf dir P0 most uv T L lent (c + 1) := by
  obtain ⟨tk, sh, hp, hb⟩ := h.pool
  exact ⟨h.sh, h.ram, h.len, ⟨tk, sh, hp, by omega⟩, h.nfb, h.hd, h.hp, h.ne⟩

/-- What the asking for a table leaves. -/
def UTable (s r fb g p pm nf dir P0 most : Nat) (uv : Value) (T : Nat → Tab) (L lent : List Int) (c n : Nat) (w : World) (e : Ending) (w' : World) : Prop :=
  Keep [s, g, p, pm] w w' ∧
  (((T n).th = true ∧ e = .returned (.bool true) ∧ URaw w' s r fb g p pm nf dir P0 most uv T L lent (c + 1)) ∨
   ((T n).th = false ∧ e = .returned (.bool true) ∧ ∃ f : Nat, P0 ≤ f ∧ f < P0 + most ∧ ((f : Int) ∉ lent) ∧ URaw w' s r fb g p pm nf dir P0 most uv (setTab T n ⟨true, f, fun _ => 0⟩) (splice (splice L (64 * f) (List.replicate 64 (0 : Int))) (64 * dir + 4 * n) (le4 (64 * f + 7))) (lent ++ [(f : Int)]) (c + 1)) ∨
   ((T n).th = false ∧ e = .returned (.bool false) ∧ (∀ j : Nat, j < most → ((P0 : Int) + (j : Int)) ∈ lent) ∧ URaw w' s r fb g p pm nf dir P0 most uv T L lent (c + 1)))

set_option maxHeartbeats 4000000 in
theorem utable_at {w : World} {s r fb g p pm nf dir P0 most : Nat} {uv : Value} {T : Nat → Tab} {L lent : List Int} {c : Nat} (h : URaw w s r fb g p pm nf dir P0 most uv T L lent c) (hc : c ≤ 100000) (n : Nat) (hn : n < 32) :
    Calls Try.prog 47 #[.pointer (some ⟨s, 0, none⟩), .int .u32 n] w (UTable s r fb g p pm nf dir P0 most uv T L lent c n w) := by
  have HS := Lib.hid h
  obtain ⟨c0, c1, c2, c3⟩ := h.sh.heads
  have ct := h.sh.th hn
  have hni : (n : Int) < 32 := by omega
  cases hth : (T n).th
  · obtain ⟨tk, sh, hp, hb⟩ := h.pool
    have hmost := h.hp
    have hnf := h.nfb
    have hdir := h.hd
    have C := Lib.hid (ptake_at hp (by omega) (by omega) (by omega) (by omega) hb.1 (by omega) hb.2.2.1 (by omega))
    have HP := Lib.hid hb
    rw [hth] at ct
    have HTH := Lib.hid hth
    clear h hp hb hth
    go_enter Try.func47, Try.ntmps47
    go_wp2_with fail
    refine C.out.mono ?_
    rintro e y hT
    rcases hT with ⟨k, hk, hall, hfree, rfl, hpool, hkp⟩ | ⟨hall, rfl, hpool, hkp⟩
    · obtain ⟨f, hf⟩ : ∃ f, f = P0 + k := ⟨_, rfl⟩
      have f0 : (P0 : Int) + (k : Int) = (f : Int) := by omega
      rw [f0] at hpool hfree ⊢
      have H1 : Hid (PoolAt y p pm P0 most (lent ++ [(f : Int)]) (tk + 1) sh ∧ Keep [p, pm] w y ∧ ((f : Int) ∉ lent) ∧ (P0 ≤ f ∧ f < P0 + most)) := Lib.hid ⟨hpool, hkp, hfree, by omega⟩
      have hf40 : f < nf := by omega
      have hfi : (f : Int) < (nf : Int) := by omega
      have HFD : Hid (decide (nf ≤ f) = false) := Lib.hid (decide_eq_false (by omega))
      have a1 : IntKind.u32.wrap (f : Int) = (f : Int) := IntWalk.u32_in _ (by omega)
      have a2 : IntKind.u32.wrap ((f : Int) * 64) = ((64 * f : Nat) : Int) := by rw [IntWalk.u32_in _ (by omega)]; omega
      have a2' : (f : Int) * 64 = ((64 * f : Nat) : Int) := by omega
      have hne := HS.out.ne
      have hmk := make_u8 64 (by omega) 64 rfl
      obtain ⟨Zs, hZs⟩ : ∃ Z, Z = List.replicate 64 (0 : Int) := ⟨_, rfl⟩
      rw [← hZs] at hmk
      have HZ := Lib.hid hZs
      clear hZs
      have d0 : y.cell? ⟨s, 0, none⟩ = some (.pointer (some ⟨r, 0, none⟩)) := hkp.cell c0 (by simp; omega)
      have HY : Hid (ShU y s r p dir uv T ∧ RamAt y r fb g (List.range nf) L) := Lib.hid ⟨HS.out.sh.keep hkp (by simp; omega), HS.out.ram.keep hkp (by simp; omega) (by simp; omega) (by simp; omega)⟩
      clear hall hfree hpool hkp hf hk f0 c0 c1 c2 c3 ct C
      go_wp2_with fail
      refine wp_region_held_drew (S := fun x => x.cell? ⟨s, 0, none⟩ = some (.pointer (some ⟨r, 0, none⟩))) (by kernel_rfl) d0 (fun hHeld => ?_)
      skip
      refine wpAnyH_take (i := 0) (oi := { dst := some 28, op := Op.move (Operand.tmp 5), type := 3, pos := "shadow.go:73", after := #[], guard := none }) (v := ?_) rfl (by kernel_rfl) (by kernel_rfl) (by kernel_rfl) (fun _ _ _ h => h) (Or.inl ⟨by rfl, ?_⟩) (by assumption) ?_
      rotate_left
      focus (intro w hSw; (try dsimp only at hSw); go_simp <;> with_reducible rfl)
      try simp only [Act.put, List.setIfInBounds_toArray, List.set_cons_zero, List.set_cons_succ]
      refine wpAnyH_take (i := 1) (oi := { dst := some 29, op := Op.move (Operand.tmp 0), type := 27, pos := "shadow.go:73", after := #[], guard := none }) (v := ?_) rfl (by kernel_rfl) (by kernel_rfl) (by kernel_rfl) (fun _ _ _ h => h) (Or.inl ⟨by rfl, ?_⟩) (by assumption) ?_
      rotate_left
      focus (intro w hSw; (try dsimp only at hSw); go_simp <;> with_reducible rfl)
      try simp only [Act.put, List.setIfInBounds_toArray, List.set_cons_zero, List.set_cons_succ]
      refine wpAnyH_take (i := 2) (oi := { dst := some 30, op := Op.nilCheck (Operand.tmp 29), type := 0, pos := "shadow.go:73", after := #[{ on := 1, ground := Ground.data }], guard := none }) (v := ?_) rfl (by kernel_rfl) (by kernel_rfl) (by kernel_rfl) (fun _ _ _ h => h) (Or.inl ⟨by rfl, ?_⟩) (by assumption) ?_
      rotate_left
      focus (intro w hSw; (try dsimp only at hSw); go_simp <;> with_reducible rfl)
      try simp only [Act.put, List.setIfInBounds_toArray, List.set_cons_zero, List.set_cons_succ]
      refine wpAnyH_take (i := 3) (oi := { dst := some 31, op := Op.fieldAddr 112 (Operand.tmp 30) 0, type := 0, pos := "shadow.go:73", after := #[{ on := 2, ground := Ground.data }], guard := none }) (v := ?_) rfl (by kernel_rfl) (by kernel_rfl) (by kernel_rfl) (fun _ _ _ h => h) (Or.inl ⟨by rfl, ?_⟩) (by assumption) ?_
      rotate_left
      focus (intro w hSw; (try dsimp only at hSw); go_simp <;> with_reducible rfl)
      try simp only [Act.put, List.setIfInBounds_toArray, List.set_cons_zero, List.set_cons_succ]
      refine wpAnyH_take (i := 4) (oi := { dst := some 32, op := Op.load 26 (Operand.tmp 31), type := 26, pos := "shadow.go:73", after := #[{ on := 3, ground := Ground.data }], guard := none }) (v := ?_) rfl (by kernel_rfl) (by kernel_rfl) (by kernel_rfl) (fun _ _ _ h => h) (Or.inl ⟨by rfl, ?_⟩) (by assumption) ?_
      rotate_left
      focus (intro w hSw; (try dsimp only at hSw); go_simp <;> with_reducible rfl)
      try simp only [Act.put, List.setIfInBounds_toArray, List.set_cons_zero, List.set_cons_succ]
      refine wpAnyH_ready (rs := [5]) (by kernel_rfl) (by simp) ?_
      refine AllReadyH.cons (o := { dst := some 33, op := Op.call { callee := Callee.value (Operand.func 46), args := #[Operand.tmp 32], argTypes := #[26] }, type := 3, pos := "shadow.go:73", after := #[{ on := 4, ground := Ground.data }], guard := none }) rfl (fun K hK => ?_) AllReadyH.nil
      go_simp
      have hsz := (HY.out.2.keep0 (Keep.refl [] y).drew).sz
      rw [List.length_range] at hsz
      refine (sframes_at hsz).mono ?_
      rintro e y1 ⟨rfl, rfl⟩
      clear hsz
      go_wp2_with fail
      refine shut_grow (fun x => x.cell? ⟨s, 0, none⟩ = some (.pointer (some ⟨r, 0, none⟩))) hK (fun _ h => h) hHeld (fun hHeld => ?_)
      clear hK K
      refine wpAnyH_take (i := 6) (oi := { dst := some 34, op := Op.binOp BinOp.geq 3 (Operand.tmp 28) (Operand.tmp 33) 3, type := 4, pos := "shadow.go:73", after := #[{ on := 0, ground := Ground.data }, { on := 5, ground := Ground.data }], guard := none }) (v := ?_) rfl (by kernel_rfl) (by kernel_rfl) (by kernel_rfl) (fun _ _ _ h => h) (Or.inl ⟨by rfl, ?_⟩) (by assumption) ?_
      rotate_left
      focus (intro w hSw; (try dsimp only at hSw); go_simp <;> with_reducible rfl)
      try simp only [Act.put, List.setIfInBounds_toArray, List.set_cons_zero, List.set_cons_succ]
      refine wpAnyH_take (i := 7) (oi := { dst := some 35, op := Op.move (Operand.tmp 34), type := 4, pos := "shadow.go:73", after := #[{ on := 6, ground := Ground.data }, { on := 5, ground := Ground.chain }], guard := none }) (v := ?_) rfl (by kernel_rfl) (by kernel_rfl) (by kernel_rfl) (fun _ _ _ h => h) (Or.inl ⟨by rfl, ?_⟩) (by assumption) ?_
      rotate_left
      focus (intro w hSw; (try dsimp only at hSw); go_simp <;> with_reducible rfl)
      try simp only [Act.put, List.setIfInBounds_toArray, List.set_cons_zero, List.set_cons_succ]
      rw [HFD.out]
      refine wpAnyH_take (i := 8) (oi := { dst := some 36, op := Op.move (Operand.tmp 0), type := 27, pos := "shadow.go:73", after := #[{ on := 7, ground := Ground.guard }], guard := some (7, false) }) (v := ?_) rfl (by kernel_rfl) (by kernel_rfl) (by kernel_rfl) (fun _ _ _ h => h) (Or.inl ⟨by rfl, ?_⟩) (by assumption) ?_
      rotate_left
      focus (intro w hSw; (try dsimp only at hSw); go_simp <;> with_reducible rfl)
      try simp only [Act.put, List.setIfInBounds_toArray, List.set_cons_zero, List.set_cons_succ]
      refine wpAnyH_take (i := 9) (oi := { dst := some 37, op := Op.nilCheck (Operand.tmp 36), type := 0, pos := "shadow.go:73", after := #[{ on := 8, ground := Ground.data }, { on := 7, ground := Ground.guard }], guard := some (7, false) }) (v := ?_) rfl (by kernel_rfl) (by kernel_rfl) (by kernel_rfl) (fun _ _ _ h => h) (Or.inl ⟨by rfl, ?_⟩) (by assumption) ?_
      rotate_left
      focus (intro w hSw; (try dsimp only at hSw); go_simp <;> with_reducible rfl)
      try simp only [Act.put, List.setIfInBounds_toArray, List.set_cons_zero, List.set_cons_succ]
      refine wpAnyH_take (i := 10) (oi := { dst := some 38, op := Op.fieldAddr 112 (Operand.tmp 37) 0, type := 0, pos := "shadow.go:73", after := #[{ on := 9, ground := Ground.data }, { on := 7, ground := Ground.guard }], guard := some (7, false) }) (v := ?_) rfl (by kernel_rfl) (by kernel_rfl) (by kernel_rfl) (fun _ _ _ h => h) (Or.inl ⟨by rfl, ?_⟩) (by assumption) ?_
      rotate_left
      focus (intro w hSw; (try dsimp only at hSw); go_simp <;> with_reducible rfl)
      try simp only [Act.put, List.setIfInBounds_toArray, List.set_cons_zero, List.set_cons_succ]
      refine wpAnyH_take (i := 11) (oi := { dst := some 39, op := Op.load 26 (Operand.tmp 38), type := 26, pos := "shadow.go:73", after := #[{ on := 10, ground := Ground.data }, { on := 7, ground := Ground.guard }], guard := some (7, false) }) (v := ?_) rfl (by kernel_rfl) (by kernel_rfl) (by kernel_rfl) (fun _ _ _ h => h) (Or.inl ⟨by rfl, ?_⟩) (by assumption) ?_
      rotate_left
      focus (intro w hSw; (try dsimp only at hSw); go_simp <;> with_reducible rfl)
      try simp only [Act.put, List.setIfInBounds_toArray, List.set_cons_zero, List.set_cons_succ]
      refine wpAnyH_take (i := 12) (oi := { dst := some 40, op := Op.move (Operand.tmp 7), type := 22, pos := "shadow.go:73", after := #[{ on := 7, ground := Ground.guard }], guard := some (7, false) }) (v := ?_) rfl (by kernel_rfl) (by kernel_rfl) (by kernel_rfl) (fun _ _ _ h => h) (Or.inl ⟨by rfl, ?_⟩) (by assumption) ?_
      rotate_left
      focus (intro w hSw; (try dsimp only at hSw); go_simp <;> with_reducible rfl)
      try simp only [Act.put, List.setIfInBounds_toArray, List.set_cons_zero, List.set_cons_succ]
      refine wpAnyH_ready (rs := [13]) (by kernel_rfl) (by simp) ?_
      refine AllReadyH.cons (o := { dst := some 41, op := Op.makeSlice 48 (Operand.const (Value.int IntKind.i64 64)) (Operand.const (Value.int IntKind.i64 64)), type := 48, pos := "shadow.go:73", after := #[{ on := 7, ground := Ground.guard }], guard := some (7, false) }) rfl (fun K hK => ?_) AllReadyH.nil
      go_simp
      obtain ⟨mk, hmk2⟩ : ∃ b, b = y.heap.size := ⟨_, rfl⟩
      rw [← hmk2]
      generalize hy2 : World.drew (World.alloc y _) = y2
      have H2 : Hid (ShU y2 s r p dir uv T ∧ RamAt y2 r fb g (List.range nf) L ∧ Row y2 (some ⟨mk, 0, none⟩) Zs.length Zs ∧ Keep [] y y2 ∧ mk = y.heap.size) := Lib.hid (by
        have hk : Keep [] y y2 := by subst hy2; exact ((Keep.refl [] y).alloc _).drew
        have h1 : y2.heap[mk]? = some (.cells (u8s Zs).toArray 5 (0, 0)) := by subst hy2; exact heap_alloc_at _ hmk2
        exact ⟨HY.out.1.keep hk (by simp), HY.out.2.keep0 hk, RefAt.row ⟨.inr ⟨_, rfl, h1⟩, (by intro x hx; rw [HZ.out] at hx; rw [List.eq_of_mem_replicate hx]; omega), by rw [HZ.out]; simp⟩, hk, hmk2⟩)
      have HZl : Zs.length = 64 := by rw [HZ.out]; simp
      have d1 := H2.out.1.heads.1
      clear hy2 hmk2
      refine shut_grow (fun x => x.cell? ⟨s, 0, none⟩ = some (.pointer (some ⟨r, 0, none⟩))) hK (fun _ h => h) d1 (fun hHeld => ?_)
      clear hK K
      refine wpAnyH_ready (rs := [14]) (by kernel_rfl) (by simp) ?_
      refine AllReadyH.cons (o := { dst := some 42, op := Op.call { callee := Callee.value (Operand.func 44), args := #[Operand.tmp 39, Operand.tmp 40, Operand.tmp 41], argTypes := #[26, 22, 48] }, type := 4, pos := "shadow.go:73", after := #[{ on := 11, ground := Ground.data }, { on := 12, ground := Ground.data }, { on := 13, ground := Ground.data }, { on := 7, ground := Ground.chain }, { on := 7, ground := Ground.guard }], guard := some (7, false) }) rfl (fun K hK => ?_) AllReadyH.nil
      go_simp
      have hF := fill_c H2.out.2.1 HS.out.len hnf (64 * f) H2.out.2.2.1 (by intro b hb; cases hb; have := lt_of_heap HY.out.2.data; have := H2.out.2.2.2.2; simp; omega) (by omega)
      rw [HZl] at hF
      refine hF.mono ?_
      rintro e y3 ⟨rfl, hR3, hk3⟩
      have H3 : Hid (ShU y3 s r p dir uv T ∧ RamAt y3 r fb g (List.range nf) (splice L (64 * f) Zs) ∧ Keep [g] y y3) := Lib.hid ⟨H2.out.1.keep hk3 (by simp; omega), hR3, (H2.out.2.2.2.1.weaken (by simp)).trans hk3⟩
      have d3 := H3.out.1.heads.1
      clear hR3 hk3 hF
      go_wp2_with fail
      refine shut_grow (fun x => x = y3) hK (fun _ h => by rw [h]; exact d3) rfl (fun hHeld => ?_)
      clear hK K
      refine wpAnyH_take (i := 15) (oi := { dst := some 43, op := Op.unOp UnOp.not 4 (Operand.tmp 42), type := 4, pos := "shadow.go:73", after := #[{ on := 14, ground := Ground.data }, { on := 7, ground := Ground.guard }], guard := some (7, false) }) (v := ?_) rfl (by kernel_rfl) (by kernel_rfl) (by kernel_rfl) (fun _ _ _ h => h) (Or.inl ⟨by rfl, ?_⟩) (by assumption) ?_
      rotate_left
      focus (intro w hSw; (try dsimp only at hSw); go_simp <;> with_reducible rfl)
      try simp only [Act.put, List.setIfInBounds_toArray, List.set_cons_zero, List.set_cons_succ]
      refine wpAnyH_take (i := 16) (oi := { dst := some 44, op := Op.pick (Operand.tmp 35) (Operand.const (Value.bool true)) (Operand.tmp 43), type := 4, pos := "shadow.go:73", after := #[{ on := 7, ground := Ground.data }, { on := 15, ground := Ground.data }], guard := none }) (v := ?_) rfl (by kernel_rfl) (by kernel_rfl) (by kernel_rfl) (fun _ _ _ h => h) (Or.inl ⟨by rfl, ?_⟩) (by assumption) ?_
      rotate_left
      focus (intro w hSw; (try dsimp only at hSw); go_simp <;> with_reducible rfl)
      try simp only [Act.put, List.setIfInBounds_toArray, List.set_cons_zero, List.set_cons_succ]
      refine wpAnyH_done (by kernel_rfl) ?_ _
      clear hHeld
      have hth3 : y3.there s (3 + n * 18) 18 := fun j hj => ⟨by rw [ArrAt.cell H3.out.1 (by omega)]; rfl, ArrAt.frozen H3.out.1 _⟩
      go_wp2_with (refine wpList_store_mid rfl 109 (.tmp 57) (.tmp 54) rfl s (3 + n * 18) #[.bool true, .int .i64 f, .int .u32 0, .int .u32 0, .int .u32 0, .int .u32 0, .int .u32 0, .int .u32 0, .int .u32 0, .int .u32 0, .int .u32 0, .int .u32 0, .int .u32 0, .int .u32 0, .int .u32 0, .int .u32 0, .int .u32 0, .int .u32 0] (by rfl) (by rfl) (by exact hth3) (by exact info_table) (by simp [Value.oneCell']) ?_)
      try simp only [Act.put]
      generalize hy4 : World.setCells y3 _ _ _ = y4
      have H4 : Hid (ShU y4 s r p dir uv (setTab T n ⟨true, f, fun _ => 0⟩) ∧ RamAt y4 r fb g (List.range nf) (splice L (64 * f) (List.replicate 64 0)) ∧ Keep [s, g] y y4) := Lib.hid (by
        have e : y4 = y3.setCells s (3 + n * 18) (tabL ⟨true, f, fun _ => 0⟩) := by rw [← hy4]; rfl
        have hk : Keep [s] y3 y4 := by rw [e]; exact keepSets (.inl (by simp)) _ _ _ (Keep.refl _ _)
        refine ⟨by rw [e]; exact H3.out.1.table hn _, ?_, (H3.out.2.2.weaken (by simp)).trans (hk.weaken (by simp))⟩
        have := H3.out.2.1
        rw [HZ.out] at this
        exact this.keep hk (by simp; omega) (by simp; omega) (by simp; omega))
      clear hy4 hth3 d3 d1
      obtain ⟨q0, q1, q2, q3⟩ := H4.out.1.heads
      have o1 : bits .or .u32 (64 * (f : Int)) 1 = 64 * (f : Int) + 1 := by
        have := or_bits (f := f) (a := 0) (b := 1) (by omega) (by decide) (by decide)
        simpa using this
      have o2 : bits .or .u32 (64 * (f : Int) + 1) 2 = 64 * (f : Int) + 3 := by
        have := or_bits (f := f) (a := 1) (b := 2) (by omega) (by decide) (by decide)
        simpa using this
      have o3 : bits .or .u32 (64 * (f : Int) + 3) 4 = 64 * (f : Int) + 7 := by
        have := or_bits (f := f) (a := 3) (b := 4) (by omega) (by decide) (by decide)
        simpa using this
      have m1 : IntKind.u32.wrap (4 * (n : Int)) = 4 * (n : Int) := IntWalk.u32_in _ (by omega)
      have m2 : IntKind.u32.wrap (64 * (dir : Int) + 4 * (n : Int)) = ((64 * dir + 4 * n : Nat) : Int) := by rw [IntWalk.u32_in _ (by omega)]; omega
      refine wp_region_held_drew (S := fun x => x.cell? ⟨s, 0, none⟩ = some (.pointer (some ⟨r, 0, none⟩)) ∧ x.cell? ⟨s, 2, none⟩ = some (.int .i64 dir)) (by kernel_rfl) ⟨q0, q2⟩ (fun hHeld => ?_)
      skip
      refine wpAnyH_take (i := 0) (oi := { dst := some 58, op := Op.move (Operand.tmp 0), type := 27, pos := "shadow.go:78", after := #[], guard := none }) (v := ?_) rfl (by kernel_rfl) (by kernel_rfl) (by kernel_rfl) (fun _ _ _ h => h) (Or.inl ⟨by rfl, ?_⟩) (by assumption) ?_
      rotate_left
      focus (intro w hSw; (try dsimp only at hSw); go_simp <;> with_reducible rfl)
      try simp only [Act.put, List.setIfInBounds_toArray, List.set_cons_zero, List.set_cons_succ]
      refine wpAnyH_take (i := 1) (oi := { dst := some 59, op := Op.nilCheck (Operand.tmp 58), type := 0, pos := "shadow.go:78", after := #[{ on := 0, ground := Ground.data }], guard := none }) (v := ?_) rfl (by kernel_rfl) (by kernel_rfl) (by kernel_rfl) (fun _ _ _ h => h) (Or.inl ⟨by rfl, ?_⟩) (by assumption) ?_
      rotate_left
      focus (intro w hSw; (try dsimp only at hSw); go_simp <;> with_reducible rfl)
      try simp only [Act.put, List.setIfInBounds_toArray, List.set_cons_zero, List.set_cons_succ]
      refine wpAnyH_take (i := 2) (oi := { dst := some 60, op := Op.fieldAddr 112 (Operand.tmp 59) 0, type := 0, pos := "shadow.go:78", after := #[{ on := 1, ground := Ground.data }], guard := none }) (v := ?_) rfl (by kernel_rfl) (by kernel_rfl) (by kernel_rfl) (fun _ _ _ h => h) (Or.inl ⟨by rfl, ?_⟩) (by assumption) ?_
      rotate_left
      focus (intro w hSw; (try dsimp only at hSw); go_simp <;> with_reducible rfl)
      try simp only [Act.put, List.setIfInBounds_toArray, List.set_cons_zero, List.set_cons_succ]
      refine wpAnyH_take (i := 3) (oi := { dst := some 61, op := Op.load 26 (Operand.tmp 60), type := 26, pos := "shadow.go:78", after := #[{ on := 2, ground := Ground.data }], guard := none }) (v := ?_) rfl (by kernel_rfl) (by kernel_rfl) (by kernel_rfl) (fun _ _ _ h => h) (Or.inl ⟨by rfl, ?_⟩) (by assumption) ?_
      rotate_left
      focus (intro w hSw; (try dsimp only at hSw); go_simp <;> with_reducible rfl)
      try simp only [Act.put, List.setIfInBounds_toArray, List.set_cons_zero, List.set_cons_succ]
      refine wpAnyH_take (i := 4) (oi := { dst := some 62, op := Op.move (Operand.tmp 0), type := 27, pos := "shadow.go:78", after := #[], guard := none }) (v := ?_) rfl (by kernel_rfl) (by kernel_rfl) (by kernel_rfl) (fun _ _ _ h => h) (Or.inl ⟨by rfl, ?_⟩) (by assumption) ?_
      rotate_left
      focus (intro w hSw; (try dsimp only at hSw); go_simp <;> with_reducible rfl)
      try simp only [Act.put, List.setIfInBounds_toArray, List.set_cons_zero, List.set_cons_succ]
      refine wpAnyH_take (i := 6) (oi := { dst := some 64, op := Op.move (Operand.tmp 1), type := 22, pos := "shadow.go:78", after := #[], guard := none }) (v := ?_) rfl (by kernel_rfl) (by kernel_rfl) (by kernel_rfl) (fun _ _ _ h => h) (Or.inl ⟨by rfl, ?_⟩) (by assumption) ?_
      rotate_left
      focus (intro w hSw; (try dsimp only at hSw); go_simp <;> with_reducible rfl)
      try simp only [Act.put, List.setIfInBounds_toArray, List.set_cons_zero, List.set_cons_succ]
      refine wpAnyH_take (i := 7) (oi := { dst := some 65, op := Op.binOp BinOp.mul 22 (Operand.const (Value.int IntKind.u32 4)) (Operand.tmp 64) 22, type := 22, pos := "shadow.go:78", after := #[{ on := 6, ground := Ground.data }], guard := none }) (v := ?_) rfl (by kernel_rfl) (by kernel_rfl) (by kernel_rfl) (fun _ _ _ h => h) (Or.inl ⟨by rfl, ?_⟩) (by assumption) ?_
      rotate_left
      focus (intro w hSw; (try dsimp only at hSw); go_simp <;> with_reducible rfl)
      try simp only [Act.put, List.setIfInBounds_toArray, List.set_cons_zero, List.set_cons_succ]
      refine wpAnyH_take (i := 9) (oi := { dst := some 67, op := Op.move (Operand.tmp 7), type := 22, pos := "shadow.go:78", after := #[], guard := none }) (v := ?_) rfl (by kernel_rfl) (by kernel_rfl) (by kernel_rfl) (fun _ _ _ h => h) (Or.inl ⟨by rfl, ?_⟩) (by assumption) ?_
      rotate_left
      focus (intro w hSw; (try dsimp only at hSw); go_simp <;> with_reducible rfl)
      try simp only [Act.put, List.setIfInBounds_toArray, List.set_cons_zero, List.set_cons_succ]
      refine wpAnyH_take (i := 10) (oi := { dst := some 68, op := Op.binOp BinOp.or 22 (Operand.tmp 67) (Operand.const (Value.int IntKind.u32 1)) 22, type := 22, pos := "shadow.go:78", after := #[{ on := 9, ground := Ground.data }], guard := none }) (v := ?_) rfl (by kernel_rfl) (by kernel_rfl) (by kernel_rfl) (fun _ _ _ h => h) (Or.inl ⟨by rfl, ?_⟩) (by assumption) ?_
      rotate_left
      focus (intro w hSw; (try dsimp only at hSw); go_simp <;> with_reducible rfl)
      try simp only [Act.put, List.setIfInBounds_toArray, List.set_cons_zero, List.set_cons_succ]
      refine wpAnyH_take (i := 11) (oi := { dst := some 69, op := Op.binOp BinOp.or 22 (Operand.tmp 68) (Operand.const (Value.int IntKind.u32 2)) 22, type := 22, pos := "shadow.go:78", after := #[{ on := 10, ground := Ground.data }], guard := none }) (v := ?_) rfl (by kernel_rfl) (by kernel_rfl) (by kernel_rfl) (fun _ _ _ h => h) (Or.inl ⟨by rfl, ?_⟩) (by assumption) ?_
      rotate_left
      focus (intro w hSw; (try dsimp only at hSw); go_simp <;> with_reducible rfl)
      try simp only [Act.put, List.setIfInBounds_toArray, List.set_cons_zero, List.set_cons_succ]
      refine wpAnyH_take (i := 12) (oi := { dst := some 70, op := Op.binOp BinOp.or 22 (Operand.tmp 69) (Operand.const (Value.int IntKind.u32 4)) 22, type := 22, pos := "shadow.go:78", after := #[{ on := 11, ground := Ground.data }], guard := none }) (v := ?_) rfl (by kernel_rfl) (by kernel_rfl) (by kernel_rfl) (fun _ _ _ h => h) (Or.inl ⟨by rfl, ?_⟩) (by assumption) ?_
      rotate_left
      focus (intro w hSw; (try dsimp only at hSw); go_simp <;> with_reducible rfl)
      try simp only [Act.put, List.setIfInBounds_toArray, List.set_cons_zero, List.set_cons_succ]
      refine wpAnyH_ready (rs := [5]) (by kernel_rfl) (by simp) ?_
      refine AllReadyH.cons (o := { dst := some 63, op := Op.call { callee := Callee.value (Operand.func 16), args := #[Operand.tmp 62], argTypes := #[27] }, type := 22, pos := "shadow.go:78", after := #[{ on := 4, ground := Ground.data }], guard := none }) rfl (fun K hK => ?_) AllReadyH.nil
      go_simp
      have hroot := sroot_at (dir := dir) hHeld.1 hHeld.2 (by omega)
      rw [show ((64 * dir : Nat) : Int) = 64 * (dir : Int) by omega] at hroot
      refine hroot.mono ?_
      rintro e y5 ⟨rfl, rfl⟩
      go_wp2_with fail
      refine shut_grow (fun x => x.cell? ⟨s, 0, none⟩ = some (.pointer (some ⟨r, 0, none⟩)) ∧ x.cell? ⟨s, 2, none⟩ = some (.int .i64 dir)) hK (fun _ h => h) hHeld (fun hHeld => ?_)
      clear hK K
      refine wpAnyH_take (i := 8) (oi := { dst := some 66, op := Op.binOp BinOp.add 22 (Operand.tmp 63) (Operand.tmp 65) 22, type := 22, pos := "shadow.go:78", after := #[{ on := 5, ground := Ground.data }, { on := 7, ground := Ground.data }], guard := none }) (v := ?_) rfl (by kernel_rfl) (by kernel_rfl) (by kernel_rfl) (fun _ _ _ h => h) (Or.inl ⟨by rfl, ?_⟩) (by assumption) ?_
      rotate_left
      focus (intro w hSw; (try dsimp only at hSw); go_simp <;> with_reducible rfl)
      try simp only [Act.put, List.setIfInBounds_toArray, List.set_cons_zero, List.set_cons_succ]
      refine wpAnyH_ready (rs := [13]) (by kernel_rfl) (by simp) ?_
      refine AllReadyH.cons (o := { dst := some 71, op := Op.call { callee := Callee.value (Operand.func 82), args := #[Operand.tmp 61, Operand.tmp 66, Operand.tmp 70], argTypes := #[26, 22, 22] }, type := 4, pos := "shadow.go:78", after := #[{ on := 3, ground := Ground.data }, { on := 8, ground := Ground.data }, { on := 12, ground := Ground.data }, { on := 5, ground := Ground.chain }], guard := none }) rfl (fun K hK => ?_) AllReadyH.nil
      go_simp
      have hSW := setword_c (H4.out.2.1.keep0 (Keep.refl [] y4).drew) (by rw [length_splice' _ _ _ (by rw [HS.out.len]; simp; omega), HS.out.len]) hnf (64 * dir + 4 * n) (64 * f + 7) ⟨by omega, by omega⟩ (by omega)
      have x1 : ((64 * dir + 4 * n : Nat) : Int) = 64 * (dir : Int) + 4 * (n : Int) := by omega
      have x2 : ((64 * f + 7 : Nat) : Int) = 64 * (f : Int) + 7 := by omega
      rw [x1, x2] at hSW
      refine hSW.mono ?_
      rintro e y6 ⟨rfl, hR6, hk6⟩
      have e0 := hk6.cell hHeld.1 (by simp; omega)
      have e2 := hk6.cell hHeld.2 (by simp; omega)
      have hk46 : Keep [g] y4 y6 := (Keep.refl [g] y4).drew.trans hk6
      have HF : Hid (UTable s r fb g p pm nf dir P0 most uv T L lent c n w (.returned (.bool true)) y6) := Lib.hid (by
        have hky : Keep [s, g] y y6 := H4.out.2.2.trans (hk46.weaken (by simp))
        refine ⟨(H1.out.2.1.weaken (by simp)).trans (hky.weaken (by simp)), .inr (.inl ⟨HTH.out, rfl, f, H1.out.2.2.2.1, H1.out.2.2.2.2, H1.out.2.2.1, ⟨H4.out.1.keep hk46 (by simp; omega), hR6, ?_, ⟨tk + 1, sh, H1.out.1.keep hky (by simp; omega) (by simp; omega), by have := HP.out; omega⟩, HS.out.nfb, HS.out.hd, HS.out.hp, HS.out.ne⟩⟩)⟩
        rw [length_splice' _ _ _ (by rw [length_splice' _ _ _ (by rw [HS.out.len]; simp; omega), HS.out.len, le4_len]; omega), length_splice' _ _ _ (by rw [HS.out.len]; simp; omega), HS.out.len])
      clear hR6 hk6 hk46 hSW
      go_wp2_with fail
      refine shut_grow (fun x => x = y6) hK (fun _ h => by rw [h]; exact ⟨e0, e2⟩) rfl (fun hHeld => ?_)
      clear hK K
      refine wpAnyH_done (by kernel_rfl) ?_ _
      go_wp2_with fail
      go_ret
      exact HF.out
    · have HF : Hid (UTable s r fb g p pm nf dir P0 most uv T L lent c n w (.returned (.bool false)) y) := Lib.hid (by
        have hne := HS.out.ne
        exact ⟨hkp.weaken (by simp), .inr (.inr ⟨HTH.out, rfl, fun j hj => hall j (by omega), ⟨HS.out.sh.keep hkp (by simp; omega), HS.out.ram.keep hkp (by simp; omega) (by simp; omega) (by simp; omega), HS.out.len, ⟨tk, sh + 1, hpool, by have := HP.out; omega⟩, HS.out.nfb, HS.out.hd, HS.out.hp, HS.out.ne⟩⟩)⟩)
      clear hall hpool hkp
      go_wp2_with fail
      go_ret
      exact HF.out
  · have HF : Hid (UTable s r fb g p pm nf dir P0 most uv T L lent c n w (.returned (.bool true)) w) := Lib.hid ⟨Keep.refl _ _, .inl ⟨hth, rfl, h.later⟩⟩
    rw [hth] at ct
    clear h hth
    go_enter Try.func47, Try.ntmps47
    go_wp2_with fail
    go_ret
    exact HF.out
end Go.Proofs.Ytpinoejckagjbaa
