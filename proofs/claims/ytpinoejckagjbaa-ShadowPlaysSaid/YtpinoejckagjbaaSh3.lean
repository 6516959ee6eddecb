/- The small calls of a Shadow. -/
import Derived.Test.YtpinoejckagjbaaSh2
import Derived.Test.YtpinoejckagjbaaHeld
import Derived.Test.YtpinoejckagjbaaRamP3
import Derived.Outline
namespace Go.Proofs.Ytpinoejckagjbaa
open Go.RowKit Go.Mum
set_option linter.unusedVariables false
set_option linter.unusedSimpArgs false
set_option maxRecDepth 100000

theorem keepSet {l : List Nat} {w x : World} (h : Keep l w x) {b : Nat} (hb : b ∈ l) (i : Nat) (v : Value) : Keep l w (x.setCell ⟨b, i, none⟩ v) := h.setCell (.inl hb) v

theorem setword_c {w : World} {r fb g n : Nat} {L : List Int} (h : RamAt w r fb g (List.range n) L) (hl : L.length = 64 * n) (hn : n ≤ 512) (p z : Nat) (hp : p % 4 = 0 ∧ p + 4 ≤ 64 * n) (hz : z < 4294967296) :
    Calls Try.prog 82 #[.pointer (some ⟨r, 0, none⟩), .int .u32 p, .int .u32 z] w (fun e w' => e = .returned (.bool true) ∧ RamAt w' r fb g (List.range n) (splice L p (le4 z)) ∧ Keep [g] w w') := by
  refine (rsetword_any h p (by omega) z hz).mono ?_
  rintro e w' ⟨rfl, h2, h3⟩
  have hy : layB n p (le4 z).length 4 = true := layB_yes (by rw [le4_len]; exact hp)
  rw [List.length_range] at h2 ⊢
  rw [hy] at h2 ⊢
  rw [if_pos rfl, putAt_range n _ _ p (by rw [le4_len]; omega) hl] at h2
  exact ⟨rfl, h2, h3⟩

theorem fill_c {w : World} {r fb g n : Nat} {L : List Int} (h : RamAt w r fb g (List.range n) L) (hl : L.length = 64 * n) (hn : n ≤ 512) (p : Nat) {src : Option Addr} {c : Nat} {M : List Int} (hM : Row w src c M) (hs : ∀ b, src = some b → b.block ≠ g) (hp : p + M.length ≤ 64 * n) :
    Calls Try.prog 44 #[.pointer (some ⟨r, 0, none⟩), .int .u32 p, .slice src M.length c] w (fun e w' => e = .returned (.bool true) ∧ RamAt w' r fb g (List.range n) (splice L p M) ∧ Keep [g] w w') := by
  refine (rfill_all h p (by omega) hM (.inr hs) (by omega)).mono ?_
  rintro e w' ⟨rfl, h2, h3⟩
  have hy : layB n p M.length 1 = true := layB_yes (by omega)
  rw [List.length_range] at h2 ⊢
  rw [hy] at h2 ⊢
  rw [if_pos rfl, putAt_range n _ _ p hp hl] at h2
  exact ⟨rfl, h2, h3⟩

theorem snone_at {w : World} {s : Nat} {r : Option Addr} (h : w.cell? ⟨s, 0, none⟩ = some (.pointer r)) :
    Calls Try.prog 45 #[.pointer (some ⟨s, 0, none⟩)] w fun e w' => e = .returned (.bool (r == none)) ∧ w = w' := by
  cases r
  all_goals
    go_enter Try.func45, Try.ntmps45
    go_wp2_with fail
    go_ret
    exact ⟨rfl, rfl⟩

theorem snone_nil (w : World) :
    Calls Try.prog 45 #[.pointer none] w fun e w' => e = .returned (.bool true) ∧ w = w' := by
  go_enter Try.func45, Try.ntmps45
  go_wp2_with fail
  go_ret
  exact ⟨rfl, rfl⟩

theorem sroot_at {w : World} {s r : Nat} {dir : Nat} (h0 : w.cell? ⟨s, 0, none⟩ = some (.pointer (some ⟨r, 0, none⟩))) (h2 : w.cell? ⟨s, 2, none⟩ = some (.int .i64 dir)) (hd : dir ≤ 512) :
    Calls Try.prog 16 #[.pointer (some ⟨s, 0, none⟩)] w fun e w' => e = .returned (.int .u32 ((64 * dir : Nat) : Int)) ∧ w = w' := by
  have C := Lib.hid (snone_at h0)
  have e1 : IntKind.i64.wrap ((dir : Int) * 64) = (dir : Int) * 64 := IntWalk.i64_in _ (by omega)
  have e2 : IntKind.u32.wrap ((dir : Int) * 64) = (dir : Int) * 64 := IntWalk.u32_in _ (by omega)
  go_enter Try.func16, Try.ntmps16
  go_wp2_with fail
  refine C.out.mono ?_
  rintro e w' ⟨rfl, rfl⟩
  go_wp2_with fail
  go_ret
  exact ⟨by rw [show ((64 * dir : Nat) : Int) = (dir : Int) * 64 by omega]; rfl, rfl⟩

theorem sroot_nil (w : World) :
    Calls Try.prog 16 #[.pointer none] w fun e w' => e = .returned (.int .u32 0) ∧ w = w' := by
  go_enter Try.func16, Try.ntmps16
  go_wp2_with fail
  refine (snone_nil _).mono ?_
  rintro e w' ⟨rfl, rfl⟩
  go_wp2_with fail
  go_ret
  exact ⟨rfl, rfl⟩

theorem sframes_at {w : World} {v : Value} {n : Nat} (h : Sz w v n) :
    Calls Try.prog 46 #[v] w fun e w' => e = .returned (.int .i64 n) ∧ w = w' := by
  have hn := h.le
  have C := Lib.hid (rsize_any h)
  have e1 : (64 * (n : Int)) / 64 = (n : Int) := by omega
  have e2 : (64 * (n : Int)).tdiv 64 = (n : Int) := by rw [Int.tdiv_eq_ediv_of_nonneg (by omega)]; omega
  have e3 : IntKind.i64.wrap (64 * (n : Int)) = 64 * (n : Int) := IntWalk.i64_in _ (by omega)
  go_enter Try.func46, Try.ntmps46
  go_wp2_with fail
  refine C.out.mono ?_
  rintro e w' ⟨rfl, rfl⟩
  go_wp2_with fail
  go_ret
  exact ⟨rfl, rfl⟩

set_option maxHeartbeats 2000000 in
theorem slay_at {w : World} {s r fb g p : Nat} {T : Nat → Tab} {L : List Int} {most : Nat} (h : ShAt w s r p 8 T) (hR : RamAt w r fb g (List.range 40) L) (hI : ShInv most T L) (hs : s ≠ r ∧ s ≠ fb ∧ s ≠ g) (va e : Nat) (hv : va < 32768) (he : GoodE e) (ht : (T (va / 1024)).th = true) :
    Calls Try.prog 48 #[.pointer (some ⟨s, 0, none⟩), .int .u32 va, .int .u32 e] w fun en w' => ∃ v, en = .returned v ∧ ShAt w' s r p 8 (setTab T (va / 1024) (setEn (T (va / 1024)) (va / 64 % 16) e)) ∧ RamAt w' r fb g (List.range 40) (splice L (64 * (T (va / 1024)).fr + 4 * (va / 64 % 16)) (le4 e)) ∧ Keep [s, g] w w' := by
  obtain ⟨n, hn⟩ : ∃ n, n = va / 1024 := ⟨_, rfl⟩
  obtain ⟨k, hk⟩ : ∃ k, k = va / 64 % 16 := ⟨_, rfl⟩
  obtain ⟨fr, hfr⟩ : ∃ fr, fr = (T n).fr := ⟨_, rfl⟩
  rw [← hn] at ht ⊢
  rw [← hk, ← hfr]
  have n1 : (va : Int) / 1024 = (n : Int) := by omega
  have e15 : bits .and .u32 ((va : Int) / 64) 15 = (k : Int) := by
    have := mask_u32 (va / 64) 4 (by decide) 15 rfl (by omega)
    rw [show (((va / 64 : Nat)) : Int) = (va : Int) / 64 by omega] at this
    rw [this, hk]
  have hn32 : n < 32 := by omega
  have hk16 : k < 16 := by omega
  have hni : (n : Int) < 32 := by omega
  have hki : (k : Int) < 16 := by omega
  clear hn hk
  have hf := hI.frm n hn32 ht
  have hel : e < 4294967296 := by
    rcases he with rfl | ⟨f, b, h1, h2, _, rfl⟩
    · omega
    · omega
  obtain ⟨c0, c1, c2, c3⟩ := h.heads
  have cn := h.fr hn32
  have ck := h.en hn32 hk16
  have z0 := h.frozen (3 + n * 18 + 2 + k)
  go_enter Try.func48, Try.ntmps48
  go_wp2_with fail
  have hS := h.lay (e := e) hn32 hk16
  have hk := keepSet (Keep.refl [s, g] w) (b := s) (by simp) (3 + n * 18 + 2 + k) (.int .u32 e)
  have hR1 := hR.keep (keepSet (Keep.refl [s] w) (b := s) (by simp) (3 + n * 18 + 2 + k) (.int .u32 e)) (by simp; omega) (by simp; omega) (by simp; omega)
  generalize hy : World.setCell w _ _ = y at hS hk hR1 ⊢
  have HY := Lib.hid (And.intro hS (And.intro hk hR1))
  obtain ⟨d0, d1, d2, d3⟩ := hS.heads
  have dn := hS.fr hn32
  rw [setTab_same] at dn
  change y.cell? ⟨s, 3 + n * 18 + 1, none⟩ = some (.int .i64 ((T n).fr : Nat)) at dn
  rw [← hfr] at dn hf
  have HFR := Lib.hid hfr
  clear hfr
  have hm := hI.mst
  have a1 : IntKind.i64.wrap ((fr : Int) * 64) = (fr : Int) * 64 := IntWalk.i64_in _ (by omega)
  have a2 : IntKind.u32.wrap ((fr : Int) * 64) = (fr : Int) * 64 := IntWalk.u32_in _ (by omega)
  have a3 : IntKind.u32.wrap (4 * (k : Int)) = 4 * (k : Int) := IntWalk.u32_in _ (by omega)
  have a4 : IntKind.u32.wrap ((fr : Int) * 64 + 4 * (k : Int)) = ((64 * fr + 4 * k : Nat) : Int) := by rw [IntWalk.u32_in _ (by omega)]; omega
  clear hy hS hk hR1 cn ck z0 c0 c1 c2 c3 h hR d1 d2 d3
  refine wp_region_held_drew (S := fun x => x.cell? ⟨s, 0, none⟩ = some (.pointer (some ⟨r, 0, none⟩)) ∧ x.cell? ⟨s, 3 + n * 18 + 1, none⟩ = some (.int .i64 fr)) (by kernel_rfl) ⟨d0, dn⟩ (fun hHeld => ?_)
  skip
  refine wpAnyH_take (i := 0) (oi := { dst := some 22, op := Op.move (Operand.tmp 0), type := 27, pos := "shadow.go:86", after := #[], guard := none }) (v := ?_) rfl (by kernel_rfl) (by kernel_rfl) (by kernel_rfl) (fun _ _ _ h => h) (Or.inl ⟨by rfl, ?_⟩) (by assumption) ?_
  rotate_left
  focus (intro w hSw; (try dsimp only at hSw); go_simp <;> with_reducible rfl)
  try simp only [Act.put, List.setIfInBounds_toArray, List.set_cons_zero, List.set_cons_succ]
  refine wpAnyH_take (i := 1) (oi := { dst := some 23, op := Op.nilCheck (Operand.tmp 22), type := 0, pos := "shadow.go:86", after := #[{ on := 0, ground := Ground.data }], guard := none }) (v := ?_) rfl (by kernel_rfl) (by kernel_rfl) (by kernel_rfl) (fun _ _ _ h => h) (Or.inl ⟨by rfl, ?_⟩) (by assumption) ?_
  rotate_left
  focus (intro w hSw; (try dsimp only at hSw); go_simp <;> with_reducible rfl)
  try simp only [Act.put, List.setIfInBounds_toArray, List.set_cons_zero, List.set_cons_succ]
  refine wpAnyH_take (i := 2) (oi := { dst := some 24, op := Op.fieldAddr 112 (Operand.tmp 23) 0, type := 0, pos := "shadow.go:86", after := #[{ on := 1, ground := Ground.data }], guard := none }) (v := ?_) rfl (by kernel_rfl) (by kernel_rfl) (by kernel_rfl) (fun _ _ _ h => h) (Or.inl ⟨by rfl, ?_⟩) (by assumption) ?_
  rotate_left
  focus (intro w hSw; (try dsimp only at hSw); go_simp <;> with_reducible rfl)
  try simp only [Act.put, List.setIfInBounds_toArray, List.set_cons_zero, List.set_cons_succ]
  refine wpAnyH_take (i := 3) (oi := { dst := some 25, op := Op.load 26 (Operand.tmp 24), type := 26, pos := "shadow.go:86", after := #[{ on := 2, ground := Ground.data }], guard := none }) (v := ?_) rfl (by kernel_rfl) (by kernel_rfl) (by kernel_rfl) (fun _ _ _ h => h) (Or.inl ⟨by rfl, ?_⟩) (by assumption) ?_
  rotate_left
  focus (intro w hSw; (try dsimp only at hSw); go_simp <;> with_reducible rfl)
  try simp only [Act.put, List.setIfInBounds_toArray, List.set_cons_zero, List.set_cons_succ]
  refine wpAnyH_take (i := 4) (oi := { dst := some 26, op := Op.move (Operand.tmp 0), type := 27, pos := "shadow.go:86", after := #[], guard := none }) (v := ?_) rfl (by kernel_rfl) (by kernel_rfl) (by kernel_rfl) (fun _ _ _ h => h) (Or.inl ⟨by rfl, ?_⟩) (by assumption) ?_
  rotate_left
  focus (intro w hSw; (try dsimp only at hSw); go_simp <;> with_reducible rfl)
  try simp only [Act.put, List.setIfInBounds_toArray, List.set_cons_zero, List.set_cons_succ]
  refine wpAnyH_take (i := 5) (oi := { dst := some 27, op := Op.move (Operand.tmp 6), type := 22, pos := "shadow.go:86", after := #[], guard := none }) (v := ?_) rfl (by kernel_rfl) (by kernel_rfl) (by kernel_rfl) (fun _ _ _ h => h) (Or.inl ⟨by rfl, ?_⟩) (by assumption) ?_
  rotate_left
  focus (intro w hSw; (try dsimp only at hSw); go_simp <;> with_reducible rfl)
  try simp only [Act.put, List.setIfInBounds_toArray, List.set_cons_zero, List.set_cons_succ]
  refine wpAnyH_take (i := 6) (oi := { dst := some 28, op := Op.nilCheck (Operand.tmp 26), type := 0, pos := "shadow.go:86", after := #[{ on := 4, ground := Ground.data }], guard := none }) (v := ?_) rfl (by kernel_rfl) (by kernel_rfl) (by kernel_rfl) (fun _ _ _ h => h) (Or.inl ⟨by rfl, ?_⟩) (by assumption) ?_
  rotate_left
  focus (intro w hSw; (try dsimp only at hSw); go_simp <;> with_reducible rfl)
  try simp only [Act.put, List.setIfInBounds_toArray, List.set_cons_zero, List.set_cons_succ]
  refine wpAnyH_take (i := 7) (oi := { dst := some 29, op := Op.fieldAddr 112 (Operand.tmp 28) 3, type := 0, pos := "shadow.go:86", after := #[{ on := 6, ground := Ground.data }], guard := none }) (v := ?_) rfl (by kernel_rfl) (by kernel_rfl) (by kernel_rfl) (fun _ _ _ h => h) (Or.inl ⟨by rfl, ?_⟩) (by assumption) ?_
  rotate_left
  focus (intro w hSw; (try dsimp only at hSw); go_simp <;> with_reducible rfl)
  try simp only [Act.put, List.setIfInBounds_toArray, List.set_cons_zero, List.set_cons_succ]
  refine wpAnyH_take (i := 8) (oi := { dst := some 30, op := Op.indexAddr 110 (Operand.tmp 29) (Operand.tmp 27), type := 0, pos := "shadow.go:86", after := #[{ on := 7, ground := Ground.data }, { on := 5, ground := Ground.data }], guard := none }) (v := ?_) rfl (by kernel_rfl) (by kernel_rfl) (by kernel_rfl) (fun _ _ _ h => h) (Or.inl ⟨by rfl, ?_⟩) (by assumption) ?_
  rotate_left
  focus (intro w hSw; (try dsimp only at hSw); go_simp <;> with_reducible rfl)
  try simp only [Act.put, List.setIfInBounds_toArray, List.set_cons_zero, List.set_cons_succ]
  refine wpAnyH_take (i := 9) (oi := { dst := some 31, op := Op.fieldAddr 109 (Operand.tmp 30) 1, type := 0, pos := "shadow.go:86", after := #[{ on := 8, ground := Ground.data }], guard := none }) (v := ?_) rfl (by kernel_rfl) (by kernel_rfl) (by kernel_rfl) (fun _ _ _ h => h) (Or.inl ⟨by rfl, ?_⟩) (by assumption) ?_
  rotate_left
  focus (intro w hSw; (try dsimp only at hSw); go_simp <;> with_reducible rfl)
  try simp only [Act.put, List.setIfInBounds_toArray, List.set_cons_zero, List.set_cons_succ]
  refine wpAnyH_take (i := 10) (oi := { dst := some 32, op := Op.load 3 (Operand.tmp 31), type := 3, pos := "shadow.go:86", after := #[{ on := 9, ground := Ground.data }], guard := none }) (v := ?_) rfl (by kernel_rfl) (by kernel_rfl) (by kernel_rfl) (fun _ _ _ h => h) (Or.inl ⟨by rfl, ?_⟩) (by assumption) ?_
  rotate_left
  focus (intro w hSw; (try dsimp only at hSw); go_simp <;> with_reducible rfl)
  try simp only [Act.put, List.setIfInBounds_toArray, List.set_cons_zero, List.set_cons_succ]
  refine wpAnyH_take (i := 11) (oi := { dst := some 33, op := Op.binOp BinOp.mul 3 (Operand.tmp 32) (Operand.const (Value.int IntKind.i64 64)) 3, type := 3, pos := "shadow.go:86", after := #[{ on := 10, ground := Ground.data }], guard := none }) (v := ?_) rfl (by kernel_rfl) (by kernel_rfl) (by kernel_rfl) (fun _ _ _ h => h) (Or.inl ⟨by rfl, ?_⟩) (by assumption) ?_
  rotate_left
  focus (intro w hSw; (try dsimp only at hSw); go_simp <;> with_reducible rfl)
  try simp only [Act.put, List.setIfInBounds_toArray, List.set_cons_zero, List.set_cons_succ]
  refine wpAnyH_take (i := 12) (oi := { dst := some 34, op := Op.convert 3 22 (Operand.tmp 33), type := 22, pos := "shadow.go:86", after := #[{ on := 11, ground := Ground.data }], guard := none }) (v := ?_) rfl (by kernel_rfl) (by kernel_rfl) (by kernel_rfl) (fun _ _ _ h => h) (Or.inl ⟨by rfl, ?_⟩) (by assumption) ?_
  rotate_left
  focus (intro w hSw; (try dsimp only at hSw); go_simp <;> with_reducible rfl)
  try simp only [Act.put, List.setIfInBounds_toArray, List.set_cons_zero, List.set_cons_succ]
  refine wpAnyH_take (i := 13) (oi := { dst := some 35, op := Op.move (Operand.tmp 7), type := 22, pos := "shadow.go:86", after := #[], guard := none }) (v := ?_) rfl (by kernel_rfl) (by kernel_rfl) (by kernel_rfl) (fun _ _ _ h => h) (Or.inl ⟨by rfl, ?_⟩) (by assumption) ?_
  rotate_left
  focus (intro w hSw; (try dsimp only at hSw); go_simp <;> with_reducible rfl)
  try simp only [Act.put, List.setIfInBounds_toArray, List.set_cons_zero, List.set_cons_succ]
  refine wpAnyH_take (i := 14) (oi := { dst := some 36, op := Op.binOp BinOp.mul 22 (Operand.const (Value.int IntKind.u32 4)) (Operand.tmp 35) 22, type := 22, pos := "shadow.go:86", after := #[{ on := 13, ground := Ground.data }], guard := none }) (v := ?_) rfl (by kernel_rfl) (by kernel_rfl) (by kernel_rfl) (fun _ _ _ h => h) (Or.inl ⟨by rfl, ?_⟩) (by assumption) ?_
  rotate_left
  focus (intro w hSw; (try dsimp only at hSw); go_simp <;> with_reducible rfl)
  try simp only [Act.put, List.setIfInBounds_toArray, List.set_cons_zero, List.set_cons_succ]
  refine wpAnyH_take (i := 15) (oi := { dst := some 37, op := Op.binOp BinOp.add 22 (Operand.tmp 34) (Operand.tmp 36) 22, type := 22, pos := "shadow.go:86", after := #[{ on := 12, ground := Ground.data }, { on := 14, ground := Ground.data }], guard := none }) (v := ?_) rfl (by kernel_rfl) (by kernel_rfl) (by kernel_rfl) (fun _ _ _ h => h) (Or.inl ⟨by rfl, ?_⟩) (by assumption) ?_
  rotate_left
  focus (intro w hSw; (try dsimp only at hSw); go_simp <;> with_reducible rfl)
  try simp only [Act.put, List.setIfInBounds_toArray, List.set_cons_zero, List.set_cons_succ]
  refine wpAnyH_take (i := 16) (oi := { dst := some 38, op := Op.move (Operand.tmp 2), type := 22, pos := "shadow.go:86", after := #[], guard := none }) (v := ?_) rfl (by kernel_rfl) (by kernel_rfl) (by kernel_rfl) (fun _ _ _ h => h) (Or.inl ⟨by rfl, ?_⟩) (by assumption) ?_
  rotate_left
  focus (intro w hSw; (try dsimp only at hSw); go_simp <;> with_reducible rfl)
  try simp only [Act.put, List.setIfInBounds_toArray, List.set_cons_zero, List.set_cons_succ]
  refine wpAnyH_ready (rs := [17]) (by kernel_rfl) (by simp) ?_
  refine AllReadyH.cons (o := { dst := some 39, op := Op.call { callee := Callee.value (Operand.func 82), args := #[Operand.tmp 25, Operand.tmp 37, Operand.tmp 38], argTypes := #[26, 22, 22] }, type := 4, pos := "shadow.go:86", after := #[{ on := 3, ground := Ground.data }, { on := 15, ground := Ground.data }, { on := 16, ground := Ground.data }], guard := none }) rfl (fun K hK => ?_) AllReadyH.nil
  go_simp
  refine (setword_c (HY.out.2.2.keep0 (Keep.refl [] y).drew) (by rw [hI.len]) (by omega) (64 * fr + 4 * k) e ⟨by omega, by omega⟩ hel).mono ?_
  rintro en y2 ⟨rfl, hR2, hk2⟩
  have hk2' : Keep [g] y y2 := (Keep.refl [g] y).drew.trans hk2
  have HF : Hid (ShAt y2 s r p 8 (setTab T n (setEn (T n) k e)) ∧ RamAt y2 r fb g (List.range 40) (splice L (64 * fr + 4 * k) (le4 e)) ∧ Keep [s, g] w y2) := Lib.hid ⟨HY.out.1.keep hk2' (by simp; omega), hR2, HY.out.2.1.trans (hk2'.weaken (by simp))⟩
  have e0 := hk2.cell hHeld.1 (by simp; omega)
  have en' := hk2.cell hHeld.2 (by simp; omega)
  clear hR2 hk2 hk2'
  go_wp2_with fail
  refine shut_grow (fun x => x = y2) hK (fun _ h => by rw [h]; exact ⟨e0, en'⟩) rfl (fun hHeld => ?_)
  clear hK K
  refine wpAnyH_done (by kernel_rfl) ?_ _
  go_wp2_with fail
  go_end0
  exact ⟨⟨_, rfl⟩, HF.out⟩
end Go.Proofs.Ytpinoejckagjbaa
