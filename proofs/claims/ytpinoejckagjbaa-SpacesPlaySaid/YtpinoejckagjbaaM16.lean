/- Contracts of the functions that the law reaches, walked, and the plain laws on them (several texts in one). -/
import Derived.Outline
import Derived.Test.YtpinoejckagjbaaM15

/- A directory begins anew, its upper half laid. -/
namespace Go.Proofs.Ytpinoejckagjbaa
open Go.RowKit Go.Mum
set_option linter.unusedVariables false
set_option linter.unusedSimpArgs false
set_option maxRecDepth 100000

/-- Words laid one behind the other. -/
def layUp (L : List Int) (p : Nat) : List Nat → List Int
  | [] => L
  | e :: es => layUp (splice L p (le4 e)) (p + 4) es

theorem layUp_snoc : ∀ (us : List Nat) (L : List Int) (p e : Nat), layUp L p (us ++ [e]) = splice (layUp L p us) (p + 4 * us.length) (le4 e)
  | [], L, p, e => by simp [layUp]
  | u :: us, L, p, e => by
    show layUp (splice L p (le4 u)) (p + 4) (us ++ [e]) = _
    rw [layUp_snoc us]
    show _ = splice (layUp (splice L p (le4 u)) (p + 4) us) (p + 4 * (us.length + 1)) (le4 e)
    rw [show p + 4 * (us.length + 1) = p + 4 + 4 * us.length by omega]

theorem layUp_len : ∀ (us : List Nat) {L : List Int} {p : Nat} (h : p + 4 * us.length ≤ L.length), (layUp L p us).length = L.length
  | [], L, p, h => rfl
  | u :: us, L, p, h => by
    simp only [List.length_cons] at h
    show (layUp (splice L p (le4 u)) (p + 4) us).length = _
    have hs : (splice L p (le4 u)).length = L.length := length_splice' _ _ _ (by rw [le4_len]; omega)
    rw [layUp_len us (by rw [hs]; omega), hs]

/-- The words of an upper half, in a row that lies apart. -/
structure UpR (x : World) (ua : Option Addr) (us : List Nat) (nb : List Nat) : Prop where
  le : us.length ≤ 16
  lt : ∀ e ∈ us, e < 4294967296
  row : us = [] ∨ ∃ b o, ua = some ⟨b, o, none⟩ ∧ b ∉ nb ∧ ∀ k (hk : k < us.length), x.cell? ⟨b, o + k, none⟩ = some (.int .u32 (us[k] : Nat))

theorem UpR.keep {x y : World} {ua : Option Addr} {us nb l : List Nat} (h : UpR x ua us nb) (hk : Keep l x y) (hl : ∀ z ∈ l, z ∈ nb) : UpR y ua us nb := by
  refine ⟨h.le, h.lt, ?_⟩
  rcases h.row with h | ⟨b, o, h1, h2, h3⟩
  · exact .inl h
  · exact .inr ⟨b, o, h1, h2, fun k hk' => hk.cell (h3 k hk') (fun q => h2 (hl _ q))⟩

theorem UpR.cell {x y : World} {ua : Option Addr} {us nb l : List Nat} (h : UpR x ua us nb) (hk : Keep l x y) (hl : ∀ z ∈ l, z ∈ nb) {k : Nat} (hlt : k < us.length) : ∃ b o, ua = some ⟨b, o, none⟩ ∧ y.cell? ⟨b, o + k, none⟩ = some (.int .u32 (us[k] : Nat)) := by
  rcases (h.keep hk hl).row with h | ⟨b, o, h1, _, h3⟩
  · rw [h] at hlt; simp at hlt
  · exact ⟨b, o, h1, h3 k hlt⟩

set_option maxHeartbeats 4000000 in
theorem ubegin_at {w : World} {s r fb g p n uc : Nat} {dir : Nat} {ua : Option Addr} {us : List Nat} {T : Nat → Tab} {L : List Int} (h : ShU w s r p dir (.slice ua us.length uc) T) (hU : UpR w ua us [s, g]) (hR : RamAt w r fb g (List.range n) L) (hl : L.length = 64 * n) (hn : n ≤ 512) (hd : dir + 2 ≤ n) (hne : s ≠ r ∧ s ≠ fb ∧ s ≠ g) :
    Calls Try.prog 56 #[.pointer (some ⟨s, 0, none⟩)] w fun e w' => (∃ v, e = .returned v) ∧ ShU w' s r p dir (.slice ua us.length uc) (fun _ => tab0) ∧ RamAt w' r fb g (List.range n) (layUp (splice L (64 * dir) (List.replicate 128 0)) (64 * dir + 64) us) ∧ Keep [s, g] w w' := by
  have hth : w.there s 3 576 := fun j hj => ⟨by rw [ArrAt.cell h (by omega)]; rfl, ArrAt.frozen h _⟩
  have HS := Lib.hid (And.intro h hR)
  have HU := Lib.hid hU
  clear h hR hU
  go_enter Try.func56, Try.ntmps56
  go_wp2_with (first
    | (refine wpList_build rfl 110 #[] rfl (.agg (tabsL (fun _ => tab0)).toArray) (by exact build_tabs _) ?_)
    | (refine wpList_store_mid rfl 110 (.tmp 7) (.tmp 5) rfl s 3 (tabsL (fun _ => tab0)).toArray (by rfl) (by rfl) (by rw [List.size_toArray, tabsL_len]; exact hth) (by rw [List.size_toArray, tabsL_len]; exact info_tabs) tabs_one ?_))
  try simp only [Act.put]
  generalize hy1 : World.setCells w _ _ _ = y1
  have H1 : Hid (ShU y1 s r p dir (.slice ua us.length uc) (fun _ => tab0) ∧ RamAt y1 r fb g (List.range n) L ∧ Keep [s] w y1) := Lib.hid (by
    have e : y1 = w.setCells s 3 (tabsL (fun _ => tab0)) := by rw [← hy1]
    have hk : Keep [s] w y1 := by rw [e]; exact keepSets (.inl (by simp)) _ _ _ (Keep.refl _ _)
    exact ⟨by rw [e]; exact HS.out.1.tables _, HS.out.2.keep hk (by simp; omega) (by simp; omega) (by simp; omega), hk⟩)
  clear hy1 hth
  obtain ⟨q0, q1, q2, q3⟩ := H1.out.1.heads
  have hmk := make_u8 128 (by omega) 128 rfl
  obtain ⟨Zs, hZs⟩ : ∃ Z, Z = List.replicate 128 (0 : Int) := ⟨_, rfl⟩
  rw [← hZs] at hmk
  have HZ := Lib.hid hZs
  have HZl : Zs.length = 128 := by rw [hZs]; simp
  clear hZs
  have hcast : ((64 * dir : Nat) : Int) = 64 * (dir : Int) := by omega
  refine wp_region_held_drew (S := fun x => x.cell? ⟨s, 0, none⟩ = some (.pointer (some ⟨r, 0, none⟩)) ∧ x.cell? ⟨s, 2, none⟩ = some (.int .i64 dir)) (by kernel_rfl) ⟨q0, q2⟩ (fun hHeld => ?_)
  skip
  refine wpAnyH_take (i := 0) (oi := { dst := some 8, op := Op.move (Operand.tmp 0), type := 27, pos := "shadow.go:47", after := #[], guard := none }) (v := ?_) rfl (by kernel_rfl) (by kernel_rfl) (by kernel_rfl) (fun _ _ _ h => h) (Or.inl ⟨by rfl, ?_⟩) (by assumption) ?_
  rotate_left
  focus (intro w hSw; (try dsimp only at hSw); go_simp <;> with_reducible rfl)
  try simp only [Act.put, List.setIfInBounds_toArray, List.set_cons_zero, List.set_cons_succ]
  refine wpAnyH_take (i := 1) (oi := { dst := some 9, op := Op.nilCheck (Operand.tmp 8), type := 0, pos := "shadow.go:47", after := #[{ on := 0, ground := Ground.data }], guard := none }) (v := ?_) rfl (by kernel_rfl) (by kernel_rfl) (by kernel_rfl) (fun _ _ _ h => h) (Or.inl ⟨by rfl, ?_⟩) (by assumption) ?_
  rotate_left
  focus (intro w hSw; (try dsimp only at hSw); go_simp <;> with_reducible rfl)
  try simp only [Act.put, List.setIfInBounds_toArray, List.set_cons_zero, List.set_cons_succ]
  refine wpAnyH_take (i := 2) (oi := { dst := some 10, op := Op.fieldAddr 112 (Operand.tmp 9) 0, type := 0, pos := "shadow.go:47", after := #[{ on := 1, ground := Ground.data }], guard := none }) (v := ?_) rfl (by kernel_rfl) (by kernel_rfl) (by kernel_rfl) (fun _ _ _ h => h) (Or.inl ⟨by rfl, ?_⟩) (by assumption) ?_
  rotate_left
  focus (intro w hSw; (try dsimp only at hSw); go_simp <;> with_reducible rfl)
  try simp only [Act.put, List.setIfInBounds_toArray, List.set_cons_zero, List.set_cons_succ]
  refine wpAnyH_take (i := 3) (oi := { dst := some 11, op := Op.load 26 (Operand.tmp 10), type := 26, pos := "shadow.go:47", after := #[{ on := 2, ground := Ground.data }], guard := none }) (v := ?_) rfl (by kernel_rfl) (by kernel_rfl) (by kernel_rfl) (fun _ _ _ h => h) (Or.inl ⟨by rfl, ?_⟩) (by assumption) ?_
  rotate_left
  focus (intro w hSw; (try dsimp only at hSw); go_simp <;> with_reducible rfl)
  try simp only [Act.put, List.setIfInBounds_toArray, List.set_cons_zero, List.set_cons_succ]
  refine wpAnyH_take (i := 4) (oi := { dst := some 12, op := Op.move (Operand.tmp 0), type := 27, pos := "shadow.go:47", after := #[], guard := none }) (v := ?_) rfl (by kernel_rfl) (by kernel_rfl) (by kernel_rfl) (fun _ _ _ h => h) (Or.inl ⟨by rfl, ?_⟩) (by assumption) ?_
  rotate_left
  focus (intro w hSw; (try dsimp only at hSw); go_simp <;> with_reducible rfl)
  try simp only [Act.put, List.setIfInBounds_toArray, List.set_cons_zero, List.set_cons_succ]
  refine wpAnyH_ready (rs := [5, 6]) (by kernel_rfl) (by simp) ?_
  refine AllReadyH.cons (o := { dst := some 13, op := Op.call { callee := Callee.value (Operand.func 16), args := #[Operand.tmp 12], argTypes := #[27] }, type := 22, pos := "shadow.go:47", after := #[{ on := 4, ground := Ground.data }], guard := none }) rfl (fun K hK => ?_) (AllReadyH.cons (o := { dst := some 14, op := Op.makeSlice 48 (Operand.const (Value.int IntKind.i64 128)) (Operand.const (Value.int IntKind.i64 128)), type := 48, pos := "shadow.go:47", after := #[], guard := none }) rfl (fun K hK => ?_) AllReadyH.nil)
  all_goals go_simp
  · skip
    refine (sroot_at (dir := dir) hHeld.1 hHeld.2 (by omega)).mono ?_
    rintro e y5 ⟨rfl, rfl⟩
    go_wp2_with fail
    refine shut_grow (fun x => x.cell? ⟨s, 0, none⟩ = some (.pointer (some ⟨r, 0, none⟩)) ∧ x.cell? ⟨s, 2, none⟩ = some (.int .i64 dir)) hK (fun _ h => h) hHeld (fun hHeld => ?_)
    clear hK K
    refine wpAnyH_ready (rs := [6]) (by kernel_rfl) (by simp) ?_
    refine AllReadyH.cons (o := { dst := some 14, op := Op.makeSlice 48 (Operand.const (Value.int IntKind.i64 128)) (Operand.const (Value.int IntKind.i64 128)), type := 48, pos := "shadow.go:47", after := #[], guard := none }) rfl (fun K hK => ?_) AllReadyH.nil
    go_simp
    obtain ⟨mk, hmk2⟩ : ∃ b, b = y1.heap.size := ⟨_, rfl⟩
    rw [← hmk2]
    generalize hy2 : World.drew (World.alloc y1 _) = y2
    have H2 : Hid (ShU y2 s r p dir (.slice ua us.length uc) (fun _ => tab0) ∧ RamAt y2 r fb g (List.range n) L ∧ Row y2 (some ⟨mk, 0, none⟩) Zs.length Zs ∧ Keep [s] w y2 ∧ mk = y1.heap.size) := Lib.hid (by
      have hk : Keep [] y1 y2 := by subst hy2; exact ((Keep.refl [] y1).alloc _).drew
      have h1 : y2.heap[mk]? = some (.cells (u8s Zs).toArray 5 (0, 0)) := by subst hy2; exact heap_alloc_at _ hmk2
      exact ⟨H1.out.1.keep hk (by simp), H1.out.2.1.keep0 hk, RefAt.row ⟨.inr ⟨_, rfl, h1⟩, (by intro x hx; rw [HZ.out] at hx; rw [List.eq_of_mem_replicate hx]; omega), by rw [HZ.out]; simp⟩, H1.out.2.2.trans (hk.weaken (by simp)), hmk2⟩)
    have d1 := H2.out.1.heads
    clear hy2 hmk2
    refine shut_grow (fun x => x.cell? ⟨s, 0, none⟩ = some (.pointer (some ⟨r, 0, none⟩)) ∧ x.cell? ⟨s, 2, none⟩ = some (.int .i64 dir)) hK (fun _ h => h) ⟨d1.1, d1.2.2.1⟩ (fun hHeld => ?_)
    clear hK K
    refine wpAnyH_ready (rs := [7]) (by kernel_rfl) (by simp) ?_
    refine AllReadyH.cons (o := { dst := some 15, op := Op.call { callee := Callee.value (Operand.func 44), args := #[Operand.tmp 11, Operand.tmp 13, Operand.tmp 14], argTypes := #[26, 22, 48] }, type := 4, pos := "shadow.go:47", after := #[{ on := 3, ground := Ground.data }, { on := 5, ground := Ground.data }, { on := 6, ground := Ground.data }, { on := 5, ground := Ground.chain }], guard := none }) rfl (fun K hK => ?_) AllReadyH.nil
    go_simp
    have hF := fill_c H2.out.2.1 hl hn (64 * dir) H2.out.2.2.1 (by intro b hb; cases hb; have := lt_of_heap H1.out.2.1.data; have := H2.out.2.2.2.2; simp; omega) (by omega)
    rw [HZl, hcast] at hF
    refine hF.mono ?_
    rintro e y3 ⟨rfl, hR3, hk3⟩
    have HF : Hid (ShU y3 s r p dir (.slice ua us.length uc) (fun _ => tab0) ∧ RamAt y3 r fb g (List.range n) (splice L (64 * dir) (List.replicate 128 0)) ∧ Keep [s, g] w y3) := Lib.hid (by
      rw [HZ.out] at hR3
      exact ⟨H2.out.1.keep hk3 (by simp; omega), hR3, (H2.out.2.2.2.1.weaken (by simp)).trans (hk3.weaken (by simp))⟩)
    obtain ⟨q0, q1, q2, q3⟩ := HF.out.1.heads
    clear hR3 hk3 hF
    go_wp2_with fail
    refine shut_grow (fun x => x = y3) hK (fun _ h => by rw [h]; exact ⟨q0, q2⟩) rfl (fun hHeld => ?_)
    clear hK K
    refine wpAnyH_done (by kernel_rfl) ?_ _
    clear hHeld
    go_wp2_with fail
    have hMl : (splice L (64 * dir) (List.replicate 128 (0 : Int))).length = 64 * n := by rw [length_splice' _ _ _ (by simp; omega), hl]
    clear q0 q1 q2 q3 H1 HS HZ hmk
    go_loopw [2, 3, 21] (fun av bv kv wr => ∃ (k : Nat) (a b : Value), av = a ∧ bv = b ∧ kv = .int .i64 k ∧ k ≤ us.length ∧ Hid (ShU wr s r p dir (.slice ua us.length uc) (fun _ => tab0) ∧ RamAt wr r fb g (List.range n) (layUp (splice L (64 * dir) (List.replicate 128 0)) (64 * dir + 64) (us.take k)) ∧ Keep [s, g] w wr)) (fun _ _ kv _ => us.length - (intOf kv).toNat)
    case atStart => exact ⟨0, _, _, rfl, rfl, rfl, by omega, HF⟩
    case round =>
      clear HF
      obtain ⟨k, av, bv, rfl, rfl, rfl, hk1, HR⟩ := hrel
      rename World => wo
      have hU16 := HU.out.le
      by_cases hk2 : k < us.length
      · obtain ⟨bu, ou, rfl, hcu⟩ := HU.out.cell HR.out.2.2 (by simp) hk2
        have hel := HU.out.lt us[k] (List.getElem_mem hk2)
        have HT : Hid (us.take (k + 1) = us.take k ++ [us[k]]) := Lib.hid (by rw [List.take_add_one, List.getElem?_eq_getElem hk2]; rfl)
        generalize us[k] = ek at hcu hel HT
        have hi : (k : Int) < (us.length : Int) := by omega
        have hi0 : (0 : Int) ≤ (k : Int) := by omega
        obtain ⟨q0, q1, q2, q3⟩ := HR.out.1.heads
        obtain ⟨kk, hkk⟩ : ∃ z, z = 16 + k := ⟨_, rfl⟩
        obtain ⟨pp, hpp⟩ : ∃ z, z = 64 * dir + 4 * kk := ⟨_, rfl⟩
        have e1 : IntKind.i64.wrap (kk : Int) = (kk : Int) := IntWalk.i64_in _ (by omega)
        have e1' : (16 : Int) + (k : Int) = (kk : Int) := by omega
        have e2 : IntKind.u32.wrap (kk : Int) = (kk : Int) := IntWalk.u32_in _ (by omega)
        have e3 : IntKind.u32.wrap (4 * (kk : Int)) = 4 * (kk : Int) := IntWalk.u32_in _ (by omega)
        have e4 : IntKind.u32.wrap (64 * (dir : Int) + 4 * (kk : Int)) = (pp : Int) := by rw [IntWalk.u32_in _ (by omega)]; omega
        have HPP := Lib.hid (And.intro hkk hpp)
        have CW := Lib.hid (fun (u : World) (hu : Keep [] wo u) => setword_c (HR.out.2.1.keep0 hu) (by rw [layUp_len _ (by rw [hMl, List.length_take]; omega), hMl]) hn pp ek ⟨by omega, by omega⟩ hel)
        clear hkk hpp hk1
        go_wp2_with fail
        refine wp_region_held_drew (S := fun x => x.cell? ⟨s, 0, none⟩ = some (.pointer (some ⟨r, 0, none⟩)) ∧ x.cell? ⟨s, 2, none⟩ = some (.int .i64 dir)) (by kernel_rfl) ⟨q0, q2⟩ (fun hHeld => ?_)
        skip
        refine wpAnyH_take (i := 0) (oi := { dst := some 26, op := Op.move (Operand.tmp 0), type := 27, pos := "shadow.go:49", after := #[], guard := none }) (v := ?_) rfl (by kernel_rfl) (by kernel_rfl) (by kernel_rfl) (fun _ _ _ h => h) (Or.inl ⟨by rfl, ?_⟩) (by assumption) ?_
        rotate_left
        focus (intro w hSw; (try dsimp only at hSw); go_simp <;> with_reducible rfl)
        try simp only [Act.put, List.setIfInBounds_toArray, List.set_cons_zero, List.set_cons_succ]
        refine wpAnyH_take (i := 1) (oi := { dst := some 27, op := Op.nilCheck (Operand.tmp 26), type := 0, pos := "shadow.go:49", after := #[{ on := 0, ground := Ground.data }], guard := none }) (v := ?_) rfl (by kernel_rfl) (by kernel_rfl) (by kernel_rfl) (fun _ _ _ h => h) (Or.inl ⟨by rfl, ?_⟩) (by assumption) ?_
        rotate_left
        focus (intro w hSw; (try dsimp only at hSw); go_simp <;> with_reducible rfl)
        try simp only [Act.put, List.setIfInBounds_toArray, List.set_cons_zero, List.set_cons_succ]
        refine wpAnyH_take (i := 2) (oi := { dst := some 28, op := Op.fieldAddr 112 (Operand.tmp 27) 0, type := 0, pos := "shadow.go:49", after := #[{ on := 1, ground := Ground.data }], guard := none }) (v := ?_) rfl (by kernel_rfl) (by kernel_rfl) (by kernel_rfl) (fun _ _ _ h => h) (Or.inl ⟨by rfl, ?_⟩) (by assumption) ?_
        rotate_left
        focus (intro w hSw; (try dsimp only at hSw); go_simp <;> with_reducible rfl)
        try simp only [Act.put, List.setIfInBounds_toArray, List.set_cons_zero, List.set_cons_succ]
        refine wpAnyH_take (i := 3) (oi := { dst := some 29, op := Op.load 26 (Operand.tmp 28), type := 26, pos := "shadow.go:49", after := #[{ on := 2, ground := Ground.data }], guard := none }) (v := ?_) rfl (by kernel_rfl) (by kernel_rfl) (by kernel_rfl) (fun _ _ _ h => h) (Or.inl ⟨by rfl, ?_⟩) (by assumption) ?_
        rotate_left
        focus (intro w hSw; (try dsimp only at hSw); go_simp <;> with_reducible rfl)
        try simp only [Act.put, List.setIfInBounds_toArray, List.set_cons_zero, List.set_cons_succ]
        refine wpAnyH_take (i := 4) (oi := { dst := some 30, op := Op.move (Operand.tmp 0), type := 27, pos := "shadow.go:49", after := #[], guard := none }) (v := ?_) rfl (by kernel_rfl) (by kernel_rfl) (by kernel_rfl) (fun _ _ _ h => h) (Or.inl ⟨by rfl, ?_⟩) (by assumption) ?_
        rotate_left
        focus (intro w hSw; (try dsimp only at hSw); go_simp <;> with_reducible rfl)
        try simp only [Act.put, List.setIfInBounds_toArray, List.set_cons_zero, List.set_cons_succ]
        refine wpAnyH_take (i := 6) (oi := { dst := some 32, op := Op.move (Operand.tmp 2), type := 3, pos := "shadow.go:49", after := #[], guard := none }) (v := ?_) rfl (by kernel_rfl) (by kernel_rfl) (by kernel_rfl) (fun _ _ _ h => h) (Or.inl ⟨by rfl, ?_⟩) (by assumption) ?_
        rotate_left
        focus (intro w hSw; (try dsimp only at hSw); go_simp <;> with_reducible rfl)
        try simp only [Act.put, List.setIfInBounds_toArray, List.set_cons_zero, List.set_cons_succ]
        refine wpAnyH_take (i := 7) (oi := { dst := some 33, op := Op.binOp BinOp.add 3 (Operand.const (Value.int IntKind.i64 16)) (Operand.tmp 32) 3, type := 3, pos := "shadow.go:49", after := #[{ on := 6, ground := Ground.data }], guard := none }) (v := ?_) rfl (by kernel_rfl) (by kernel_rfl) (by kernel_rfl) (fun _ _ _ h => h) (Or.inl ⟨by rfl, ?_⟩) (by assumption) ?_
        rotate_left
        focus (intro w hSw; (try dsimp only at hSw); go_simp <;> with_reducible rfl)
        try simp only [Act.put, List.setIfInBounds_toArray, List.set_cons_zero, List.set_cons_succ]
        refine wpAnyH_take (i := 8) (oi := { dst := some 34, op := Op.convert 3 22 (Operand.tmp 33), type := 22, pos := "shadow.go:49", after := #[{ on := 7, ground := Ground.data }], guard := none }) (v := ?_) rfl (by kernel_rfl) (by kernel_rfl) (by kernel_rfl) (fun _ _ _ h => h) (Or.inl ⟨by rfl, ?_⟩) (by assumption) ?_
        rotate_left
        focus (intro w hSw; (try dsimp only at hSw); go_simp <;> with_reducible rfl)
        try simp only [Act.put, List.setIfInBounds_toArray, List.set_cons_zero, List.set_cons_succ]
        refine wpAnyH_take (i := 9) (oi := { dst := some 35, op := Op.binOp BinOp.mul 22 (Operand.const (Value.int IntKind.u32 4)) (Operand.tmp 34) 22, type := 22, pos := "shadow.go:49", after := #[{ on := 8, ground := Ground.data }], guard := none }) (v := ?_) rfl (by kernel_rfl) (by kernel_rfl) (by kernel_rfl) (fun _ _ _ h => h) (Or.inl ⟨by rfl, ?_⟩) (by assumption) ?_
        rotate_left
        focus (intro w hSw; (try dsimp only at hSw); go_simp <;> with_reducible rfl)
        try simp only [Act.put, List.setIfInBounds_toArray, List.set_cons_zero, List.set_cons_succ]
        refine wpAnyH_take (i := 11) (oi := { dst := some 37, op := Op.move (Operand.tmp 3), type := 22, pos := "shadow.go:49", after := #[], guard := none }) (v := ?_) rfl (by kernel_rfl) (by kernel_rfl) (by kernel_rfl) (fun _ _ _ h => h) (Or.inl ⟨by rfl, ?_⟩) (by assumption) ?_
        rotate_left
        focus (intro w hSw; (try dsimp only at hSw); go_simp <;> with_reducible rfl)
        try simp only [Act.put, List.setIfInBounds_toArray, List.set_cons_zero, List.set_cons_succ]
        refine wpAnyH_ready (rs := [5]) (by kernel_rfl) (by simp) ?_
        refine AllReadyH.cons (o := { dst := some 31, op := Op.call { callee := Callee.value (Operand.func 16), args := #[Operand.tmp 30], argTypes := #[27] }, type := 22, pos := "shadow.go:49", after := #[{ on := 4, ground := Ground.data }], guard := none }) rfl (fun K hK => ?_) AllReadyH.nil
        go_simp
        have hroot := sroot_at (dir := dir) hHeld.1 hHeld.2 (by omega)
        rw [hcast] at hroot
        refine hroot.mono ?_
        rintro e u1 ⟨rfl, rfl⟩
        go_wp2_with fail
        refine shut_grow (fun x => x.cell? ⟨s, 0, none⟩ = some (.pointer (some ⟨r, 0, none⟩)) ∧ x.cell? ⟨s, 2, none⟩ = some (.int .i64 dir)) hK (fun _ h => h) hHeld (fun hHeld => ?_)
        clear hK K hroot
        refine wpAnyH_take (i := 10) (oi := { dst := some 36, op := Op.binOp BinOp.add 22 (Operand.tmp 31) (Operand.tmp 35) 22, type := 22, pos := "shadow.go:49", after := #[{ on := 5, ground := Ground.data }, { on := 9, ground := Ground.data }], guard := none }) (v := ?_) rfl (by kernel_rfl) (by kernel_rfl) (by kernel_rfl) (fun _ _ _ h => h) (Or.inl ⟨by rfl, ?_⟩) (by assumption) ?_
        rotate_left
        focus (intro w hSw; (try dsimp only at hSw); go_simp <;> with_reducible rfl)
        try simp only [Act.put, List.setIfInBounds_toArray, List.set_cons_zero, List.set_cons_succ]
        refine wpAnyH_ready (rs := [12]) (by kernel_rfl) (by simp) ?_
        refine AllReadyH.cons (o := { dst := some 38, op := Op.call { callee := Callee.value (Operand.func 82), args := #[Operand.tmp 29, Operand.tmp 36, Operand.tmp 37], argTypes := #[26, 22, 22] }, type := 4, pos := "shadow.go:49", after := #[{ on := 3, ground := Ground.data }, { on := 10, ground := Ground.data }, { on := 11, ground := Ground.data }, { on := 5, ground := Ground.chain }], guard := none }) rfl (fun K hK => ?_) AllReadyH.nil
        go_simp
        refine (CW.out _ (Keep.refl [] wo).drew).mono ?_
        rintro e u2 ⟨rfl, hR2, hk2⟩
        have HN : Hid (ShU u2 s r p dir (.slice (some ⟨bu, ou, none⟩) us.length uc) (fun _ => tab0) ∧ RamAt u2 r fb g (List.range n) (layUp (splice L (64 * dir) (List.replicate 128 0)) (64 * dir + 64) (us.take (k + 1))) ∧ Keep [s, g] w u2) := Lib.hid (by
          have hkk : Keep [g] wo u2 := ((Keep.refl [] wo).drew.weaken (by simp)).trans hk2
          refine ⟨HR.out.1.keep hkk (by simp; omega), ?_, HR.out.2.2.trans (hkk.weaken (by simp))⟩
          rw [HT.out, layUp_snoc, List.length_take, Nat.min_eq_left (by omega), show 64 * dir + 64 + 4 * k = pp by have := HPP.out; omega]
          exact hR2)
        clear hR2 hk2
        go_wp2_with fail
        obtain ⟨p0, p1, p2, p3⟩ := HN.out.1.heads
        refine shut_grow (fun x => x = u2) hK (fun _ h => by rw [h]; exact ⟨p0, p2⟩) rfl (fun hHeld => ?_)
        clear hK K
        skip
        refine wpAnyH_done (by kernel_rfl) ?_ _
        clear hHeld
        go_wp2_with fail
        go_roundw
        case rel => exact ⟨k + 1, _, _, rfl, rfl, by go_num, by omega, HN⟩
        case measure => simp [intOf]; omega
      · obtain rfl : k = us.length := by omega
        have hi : ¬ ((us.length : Int) < (us.length : Int)) := by omega
        have HD := HR.out
        rw [List.take_of_length_le (Nat.le_refl _)] at HD
        have HD := Lib.hid HD
        go_wp2_with fail
        go_end0
        exact ⟨⟨_, rfl⟩, HD.out⟩
  · skip
    obtain ⟨mk, hmk2⟩ : ∃ b, b = y1.heap.size := ⟨_, rfl⟩
    rw [← hmk2]
    generalize hy2 : World.drew (World.alloc y1 _) = y2
    have H2 : Hid (ShU y2 s r p dir (.slice ua us.length uc) (fun _ => tab0) ∧ RamAt y2 r fb g (List.range n) L ∧ Row y2 (some ⟨mk, 0, none⟩) Zs.length Zs ∧ Keep [s] w y2 ∧ mk = y1.heap.size) := Lib.hid (by
      have hk : Keep [] y1 y2 := by subst hy2; exact ((Keep.refl [] y1).alloc _).drew
      have h1 : y2.heap[mk]? = some (.cells (u8s Zs).toArray 5 (0, 0)) := by subst hy2; exact heap_alloc_at _ hmk2
      exact ⟨H1.out.1.keep hk (by simp), H1.out.2.1.keep0 hk, RefAt.row ⟨.inr ⟨_, rfl, h1⟩, (by intro x hx; rw [HZ.out] at hx; rw [List.eq_of_mem_replicate hx]; omega), by rw [HZ.out]; simp⟩, H1.out.2.2.trans (hk.weaken (by simp)), hmk2⟩)
    have d1 := H2.out.1.heads
    clear hy2 hmk2
    refine shut_grow (fun x => x.cell? ⟨s, 0, none⟩ = some (.pointer (some ⟨r, 0, none⟩)) ∧ x.cell? ⟨s, 2, none⟩ = some (.int .i64 dir)) hK (fun _ h => h) ⟨d1.1, d1.2.2.1⟩ (fun hHeld => ?_)
    clear hK K
    refine wpAnyH_ready (rs := [5]) (by kernel_rfl) (by simp) ?_
    refine AllReadyH.cons (o := { dst := some 13, op := Op.call { callee := Callee.value (Operand.func 16), args := #[Operand.tmp 12], argTypes := #[27] }, type := 22, pos := "shadow.go:47", after := #[{ on := 4, ground := Ground.data }], guard := none }) rfl (fun K hK => ?_) AllReadyH.nil
    go_simp
    refine (sroot_at (dir := dir) hHeld.1 hHeld.2 (by omega)).mono ?_
    rintro e y5 ⟨rfl, rfl⟩
    go_wp2_with fail
    refine shut_grow (fun x => x.cell? ⟨s, 0, none⟩ = some (.pointer (some ⟨r, 0, none⟩)) ∧ x.cell? ⟨s, 2, none⟩ = some (.int .i64 dir)) hK (fun _ h => h) hHeld (fun hHeld => ?_)
    clear hK K
    refine wpAnyH_ready (rs := [7]) (by kernel_rfl) (by simp) ?_
    refine AllReadyH.cons (o := { dst := some 15, op := Op.call { callee := Callee.value (Operand.func 44), args := #[Operand.tmp 11, Operand.tmp 13, Operand.tmp 14], argTypes := #[26, 22, 48] }, type := 4, pos := "shadow.go:47", after := #[{ on := 3, ground := Ground.data }, { on := 5, ground := Ground.data }, { on := 6, ground := Ground.data }, { on := 5, ground := Ground.chain }], guard := none }) rfl (fun K hK => ?_) AllReadyH.nil
    go_simp
    have hF := fill_c H2.out.2.1 hl hn (64 * dir) H2.out.2.2.1 (by intro b hb; cases hb; have := lt_of_heap H1.out.2.1.data; have := H2.out.2.2.2.2; simp; omega) (by omega)
    rw [HZl, hcast] at hF
    refine hF.mono ?_
    rintro e y3 ⟨rfl, hR3, hk3⟩
    have HF : Hid (ShU y3 s r p dir (.slice ua us.length uc) (fun _ => tab0) ∧ RamAt y3 r fb g (List.range n) (splice L (64 * dir) (List.replicate 128 0)) ∧ Keep [s, g] w y3) := Lib.hid (by
      rw [HZ.out] at hR3
      exact ⟨H2.out.1.keep hk3 (by simp; omega), hR3, (H2.out.2.2.2.1.weaken (by simp)).trans (hk3.weaken (by simp))⟩)
    obtain ⟨q0, q1, q2, q3⟩ := HF.out.1.heads
    clear hR3 hk3 hF
    go_wp2_with fail
    refine shut_grow (fun x => x = y3) hK (fun _ h => by rw [h]; exact ⟨q0, q2⟩) rfl (fun hHeld => ?_)
    clear hK K
    refine wpAnyH_done (by kernel_rfl) ?_ _
    clear hHeld
    go_wp2_with fail
    have hMl : (splice L (64 * dir) (List.replicate 128 (0 : Int))).length = 64 * n := by rw [length_splice' _ _ _ (by simp; omega), hl]
    clear q0 q1 q2 q3 H1 HS HZ hmk
    go_loopw [2, 3, 21] (fun av bv kv wr => ∃ (k : Nat) (a b : Value), av = a ∧ bv = b ∧ kv = .int .i64 k ∧ k ≤ us.length ∧ Hid (ShU wr s r p dir (.slice ua us.length uc) (fun _ => tab0) ∧ RamAt wr r fb g (List.range n) (layUp (splice L (64 * dir) (List.replicate 128 0)) (64 * dir + 64) (us.take k)) ∧ Keep [s, g] w wr)) (fun _ _ kv _ => us.length - (intOf kv).toNat)
    case atStart => exact ⟨0, _, _, rfl, rfl, rfl, by omega, HF⟩
    case round =>
      clear HF
      obtain ⟨k, av, bv, rfl, rfl, rfl, hk1, HR⟩ := hrel
      rename World => wo
      have hU16 := HU.out.le
      by_cases hk2 : k < us.length
      · obtain ⟨bu, ou, rfl, hcu⟩ := HU.out.cell HR.out.2.2 (by simp) hk2
        have hel := HU.out.lt us[k] (List.getElem_mem hk2)
        have HT : Hid (us.take (k + 1) = us.take k ++ [us[k]]) := Lib.hid (by rw [List.take_add_one, List.getElem?_eq_getElem hk2]; rfl)
        generalize us[k] = ek at hcu hel HT
        have hi : (k : Int) < (us.length : Int) := by omega
        have hi0 : (0 : Int) ≤ (k : Int) := by omega
        obtain ⟨q0, q1, q2, q3⟩ := HR.out.1.heads
        obtain ⟨kk, hkk⟩ : ∃ z, z = 16 + k := ⟨_, rfl⟩
        obtain ⟨pp, hpp⟩ : ∃ z, z = 64 * dir + 4 * kk := ⟨_, rfl⟩
        have e1 : IntKind.i64.wrap (kk : Int) = (kk : Int) := IntWalk.i64_in _ (by omega)
        have e1' : (16 : Int) + (k : Int) = (kk : Int) := by omega
        have e2 : IntKind.u32.wrap (kk : Int) = (kk : Int) := IntWalk.u32_in _ (by omega)
        have e3 : IntKind.u32.wrap (4 * (kk : Int)) = 4 * (kk : Int) := IntWalk.u32_in _ (by omega)
        have e4 : IntKind.u32.wrap (64 * (dir : Int) + 4 * (kk : Int)) = (pp : Int) := by rw [IntWalk.u32_in _ (by omega)]; omega
        have HPP := Lib.hid (And.intro hkk hpp)
        have CW := Lib.hid (fun (u : World) (hu : Keep [] wo u) => setword_c (HR.out.2.1.keep0 hu) (by rw [layUp_len _ (by rw [hMl, List.length_take]; omega), hMl]) hn pp ek ⟨by omega, by omega⟩ hel)
        clear hkk hpp hk1
        go_wp2_with fail
        refine wp_region_held_drew (S := fun x => x.cell? ⟨s, 0, none⟩ = some (.pointer (some ⟨r, 0, none⟩)) ∧ x.cell? ⟨s, 2, none⟩ = some (.int .i64 dir)) (by kernel_rfl) ⟨q0, q2⟩ (fun hHeld => ?_)
        skip
        refine wpAnyH_take (i := 0) (oi := { dst := some 26, op := Op.move (Operand.tmp 0), type := 27, pos := "shadow.go:49", after := #[], guard := none }) (v := ?_) rfl (by kernel_rfl) (by kernel_rfl) (by kernel_rfl) (fun _ _ _ h => h) (Or.inl ⟨by rfl, ?_⟩) (by assumption) ?_
        rotate_left
        focus (intro w hSw; (try dsimp only at hSw); go_simp <;> with_reducible rfl)
        try simp only [Act.put, List.setIfInBounds_toArray, List.set_cons_zero, List.set_cons_succ]
        refine wpAnyH_take (i := 1) (oi := { dst := some 27, op := Op.nilCheck (Operand.tmp 26), type := 0, pos := "shadow.go:49", after := #[{ on := 0, ground := Ground.data }], guard := none }) (v := ?_) rfl (by kernel_rfl) (by kernel_rfl) (by kernel_rfl) (fun _ _ _ h => h) (Or.inl ⟨by rfl, ?_⟩) (by assumption) ?_
        rotate_left
        focus (intro w hSw; (try dsimp only at hSw); go_simp <;> with_reducible rfl)
        try simp only [Act.put, List.setIfInBounds_toArray, List.set_cons_zero, List.set_cons_succ]
        refine wpAnyH_take (i := 2) (oi := { dst := some 28, op := Op.fieldAddr 112 (Operand.tmp 27) 0, type := 0, pos := "shadow.go:49", after := #[{ on := 1, ground := Ground.data }], guard := none }) (v := ?_) rfl (by kernel_rfl) (by kernel_rfl) (by kernel_rfl) (fun _ _ _ h => h) (Or.inl ⟨by rfl, ?_⟩) (by assumption) ?_
        rotate_left
        focus (intro w hSw; (try dsimp only at hSw); go_simp <;> with_reducible rfl)
        try simp only [Act.put, List.setIfInBounds_toArray, List.set_cons_zero, List.set_cons_succ]
        refine wpAnyH_take (i := 3) (oi := { dst := some 29, op := Op.load 26 (Operand.tmp 28), type := 26, pos := "shadow.go:49", after := #[{ on := 2, ground := Ground.data }], guard := none }) (v := ?_) rfl (by kernel_rfl) (by kernel_rfl) (by kernel_rfl) (fun _ _ _ h => h) (Or.inl ⟨by rfl, ?_⟩) (by assumption) ?_
        rotate_left
        focus (intro w hSw; (try dsimp only at hSw); go_simp <;> with_reducible rfl)
        try simp only [Act.put, List.setIfInBounds_toArray, List.set_cons_zero, List.set_cons_succ]
        refine wpAnyH_take (i := 4) (oi := { dst := some 30, op := Op.move (Operand.tmp 0), type := 27, pos := "shadow.go:49", after := #[], guard := none }) (v := ?_) rfl (by kernel_rfl) (by kernel_rfl) (by kernel_rfl) (fun _ _ _ h => h) (Or.inl ⟨by rfl, ?_⟩) (by assumption) ?_
        rotate_left
        focus (intro w hSw; (try dsimp only at hSw); go_simp <;> with_reducible rfl)
        try simp only [Act.put, List.setIfInBounds_toArray, List.set_cons_zero, List.set_cons_succ]
        refine wpAnyH_take (i := 6) (oi := { dst := some 32, op := Op.move (Operand.tmp 2), type := 3, pos := "shadow.go:49", after := #[], guard := none }) (v := ?_) rfl (by kernel_rfl) (by kernel_rfl) (by kernel_rfl) (fun _ _ _ h => h) (Or.inl ⟨by rfl, ?_⟩) (by assumption) ?_
        rotate_left
        focus (intro w hSw; (try dsimp only at hSw); go_simp <;> with_reducible rfl)
        try simp only [Act.put, List.setIfInBounds_toArray, List.set_cons_zero, List.set_cons_succ]
        refine wpAnyH_take (i := 7) (oi := { dst := some 33, op := Op.binOp BinOp.add 3 (Operand.const (Value.int IntKind.i64 16)) (Operand.tmp 32) 3, type := 3, pos := "shadow.go:49", after := #[{ on := 6, ground := Ground.data }], guard := none }) (v := ?_) rfl (by kernel_rfl) (by kernel_rfl) (by kernel_rfl) (fun _ _ _ h => h) (Or.inl ⟨by rfl, ?_⟩) (by assumption) ?_
        rotate_left
        focus (intro w hSw; (try dsimp only at hSw); go_simp <;> with_reducible rfl)
        try simp only [Act.put, List.setIfInBounds_toArray, List.set_cons_zero, List.set_cons_succ]
        refine wpAnyH_take (i := 8) (oi := { dst := some 34, op := Op.convert 3 22 (Operand.tmp 33), type := 22, pos := "shadow.go:49", after := #[{ on := 7, ground := Ground.data }], guard := none }) (v := ?_) rfl (by kernel_rfl) (by kernel_rfl) (by kernel_rfl) (fun _ _ _ h => h) (Or.inl ⟨by rfl, ?_⟩) (by assumption) ?_
        rotate_left
        focus (intro w hSw; (try dsimp only at hSw); go_simp <;> with_reducible rfl)
        try simp only [Act.put, List.setIfInBounds_toArray, List.set_cons_zero, List.set_cons_succ]
        refine wpAnyH_take (i := 9) (oi := { dst := some 35, op := Op.binOp BinOp.mul 22 (Operand.const (Value.int IntKind.u32 4)) (Operand.tmp 34) 22, type := 22, pos := "shadow.go:49", after := #[{ on := 8, ground := Ground.data }], guard := none }) (v := ?_) rfl (by kernel_rfl) (by kernel_rfl) (by kernel_rfl) (fun _ _ _ h => h) (Or.inl ⟨by rfl, ?_⟩) (by assumption) ?_
        rotate_left
        focus (intro w hSw; (try dsimp only at hSw); go_simp <;> with_reducible rfl)
        try simp only [Act.put, List.setIfInBounds_toArray, List.set_cons_zero, List.set_cons_succ]
        refine wpAnyH_take (i := 11) (oi := { dst := some 37, op := Op.move (Operand.tmp 3), type := 22, pos := "shadow.go:49", after := #[], guard := none }) (v := ?_) rfl (by kernel_rfl) (by kernel_rfl) (by kernel_rfl) (fun _ _ _ h => h) (Or.inl ⟨by rfl, ?_⟩) (by assumption) ?_
        rotate_left
        focus (intro w hSw; (try dsimp only at hSw); go_simp <;> with_reducible rfl)
        try simp only [Act.put, List.setIfInBounds_toArray, List.set_cons_zero, List.set_cons_succ]
        refine wpAnyH_ready (rs := [5]) (by kernel_rfl) (by simp) ?_
        refine AllReadyH.cons (o := { dst := some 31, op := Op.call { callee := Callee.value (Operand.func 16), args := #[Operand.tmp 30], argTypes := #[27] }, type := 22, pos := "shadow.go:49", after := #[{ on := 4, ground := Ground.data }], guard := none }) rfl (fun K hK => ?_) AllReadyH.nil
        go_simp
        have hroot := sroot_at (dir := dir) hHeld.1 hHeld.2 (by omega)
        rw [hcast] at hroot
        refine hroot.mono ?_
        rintro e u1 ⟨rfl, rfl⟩
        go_wp2_with fail
        refine shut_grow (fun x => x.cell? ⟨s, 0, none⟩ = some (.pointer (some ⟨r, 0, none⟩)) ∧ x.cell? ⟨s, 2, none⟩ = some (.int .i64 dir)) hK (fun _ h => h) hHeld (fun hHeld => ?_)
        clear hK K hroot
        refine wpAnyH_take (i := 10) (oi := { dst := some 36, op := Op.binOp BinOp.add 22 (Operand.tmp 31) (Operand.tmp 35) 22, type := 22, pos := "shadow.go:49", after := #[{ on := 5, ground := Ground.data }, { on := 9, ground := Ground.data }], guard := none }) (v := ?_) rfl (by kernel_rfl) (by kernel_rfl) (by kernel_rfl) (fun _ _ _ h => h) (Or.inl ⟨by rfl, ?_⟩) (by assumption) ?_
        rotate_left
        focus (intro w hSw; (try dsimp only at hSw); go_simp <;> with_reducible rfl)
        try simp only [Act.put, List.setIfInBounds_toArray, List.set_cons_zero, List.set_cons_succ]
        refine wpAnyH_ready (rs := [12]) (by kernel_rfl) (by simp) ?_
        refine AllReadyH.cons (o := { dst := some 38, op := Op.call { callee := Callee.value (Operand.func 82), args := #[Operand.tmp 29, Operand.tmp 36, Operand.tmp 37], argTypes := #[26, 22, 22] }, type := 4, pos := "shadow.go:49", after := #[{ on := 3, ground := Ground.data }, { on := 10, ground := Ground.data }, { on := 11, ground := Ground.data }, { on := 5, ground := Ground.chain }], guard := none }) rfl (fun K hK => ?_) AllReadyH.nil
        go_simp
        refine (CW.out _ (Keep.refl [] wo).drew).mono ?_
        rintro e u2 ⟨rfl, hR2, hk2⟩
        have HN : Hid (ShU u2 s r p dir (.slice (some ⟨bu, ou, none⟩) us.length uc) (fun _ => tab0) ∧ RamAt u2 r fb g (List.range n) (layUp (splice L (64 * dir) (List.replicate 128 0)) (64 * dir + 64) (us.take (k + 1))) ∧ Keep [s, g] w u2) := Lib.hid (by
          have hkk : Keep [g] wo u2 := ((Keep.refl [] wo).drew.weaken (by simp)).trans hk2
          refine ⟨HR.out.1.keep hkk (by simp; omega), ?_, HR.out.2.2.trans (hkk.weaken (by simp))⟩
          rw [HT.out, layUp_snoc, List.length_take, Nat.min_eq_left (by omega), show 64 * dir + 64 + 4 * k = pp by have := HPP.out; omega]
          exact hR2)
        clear hR2 hk2
        go_wp2_with fail
        obtain ⟨p0, p1, p2, p3⟩ := HN.out.1.heads
        refine shut_grow (fun x => x = u2) hK (fun _ h => by rw [h]; exact ⟨p0, p2⟩) rfl (fun hHeld => ?_)
        clear hK K
        skip
        refine wpAnyH_done (by kernel_rfl) ?_ _
        clear hHeld
        go_wp2_with fail
        go_roundw
        case rel => exact ⟨k + 1, _, _, rfl, rfl, by go_num, by omega, HN⟩
        case measure => simp [intOf]; omega
      · obtain rfl : k = us.length := by omega
        have hi : ¬ ((us.length : Int) < (us.length : Int)) := by omega
        have HD := HR.out
        rw [List.take_of_length_le (Nat.le_refl _)] at HD
        have HD := Lib.hid HD
        go_wp2_with fail
        go_end0
        exact ⟨⟨_, rfl⟩, HD.out⟩
end Go.Proofs.Ytpinoejckagjbaa
