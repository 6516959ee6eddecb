/- Contracts of the functions that the law reaches, walked, and the plain laws on them (several texts in one). -/
import Derived.Outline
import Derived.Test.YtpinoejckagjbaaM20
import Derived.Test.YtpinoejckagjbaaM21
import Derived.Test.YtpinoejckagjbaaM12

/- One step on both shadows. -/
namespace Go.Proofs.Ytpinoejckagjbaa
open Go.RowKit Go.Mum
set_option linter.unusedVariables false
set_option linter.unusedSimpArgs false
set_option maxRecDepth 100000

/-- How the tables go through a put. -/
def PutR (most : Nat) (T : Nat → Tab) (va : Nat) (frame : Int) (bb : Nat) (b : Bool) (T' : Nat → Tab) : Prop :=
  ((32 ≤ va / 1024 ∨ frame < 0 ∨ 40 ≤ frame) ∧ b = false ∧ T' = T) ∨
  (va / 1024 < 32 ∧ 0 ≤ frame ∧ frame < 40 ∧ b = true ∧ ∃ T1, Lent T T1 (va / 1024) ∧ T' = setTab T1 (va / 1024) (setEn (T1 (va / 1024)) (va / 64 % 16) (entryOf frame.toNat bb))) ∨
  (va / 1024 < 32 ∧ 0 ≤ frame ∧ frame < 40 ∧ (T (va / 1024)).th = false ∧ Full most T ∧ b = false ∧ T' = T)

/-- How the document's lists go through a put. -/
def RPutR (most : Nat) (ps : List Pg) (ts : List Nat) (va : Nat) (frame : Int) (bb : Nat) (b : Bool) (ps' : List Pg) (ts' : List Nat) : Prop :=
  ((32768 ≤ va ∨ frame < 0 ∨ 40 ≤ frame) ∧ b = false ∧ ps' = ps ∧ ts' = ts) ∨
  (va < 32768 ∧ 0 ≤ frame ∧ frame < 40 ∧ va / 1024 ∉ ts ∧ most ≤ ts.length ∧ b = false ∧ ps' = ps ∧ ts' = ts) ∨
  (va < 32768 ∧ 0 ≤ frame ∧ frame < 40 ∧ (va / 1024 ∈ ts ∨ ts.length < most) ∧ b = true ∧ ps' = insP (va - va % 64, frame.toNat, bb % 16 / 2 * 2 + 1) (ps.filter (fun q => decide (q.1 ≠ va - va % 64))) ∧ ts' = if va / 1024 ∈ ts then ts else ts ++ [va / 1024])

/-- How the tables go through a drop. -/
def DropR (T : Nat → Tab) (va : Nat) (T' : Nat → Tab) : Prop :=
  (¬ (va / 1024 < 32 ∧ (T (va / 1024)).th = true) ∧ T' = T) ∨ (va / 1024 < 32 ∧ (T (va / 1024)).th = true ∧ T' = setTab T (va / 1024) (setEn (T (va / 1024)) (va / 64 % 16) 0))

/-- Both shadows in one memory. -/
structure Two (x : World) (B s r fb g p pm wb most : Nat) (T : Nat → Tab) (L : List Int) (ps : List Pg) (ts : List Nat) (c : Nat) : Prop where
  sat : SAt x s r fb g p pm most T L c
  rs : ∃ pv tv, RS x wb most ps ts pv tv
  lt : (B ≤ s ∧ B ≤ g ∧ B ≤ p ∧ B ≤ pm) ∧ (s < wb ∧ r < wb ∧ fb < wb ∧ g < wb ∧ p < wb ∧ pm < wb)
  psl : ps.length ≤ c
  tsl : ts.length ≤ c

theorem Two.keep0 {x y : World} {B s r fb g p pm wb most : Nat} {T : Nat → Tab} {L : List Int} {ps : List Pg} {ts : List Nat} {c : Nat} (h : Two x B s r fb g p pm wb most T L ps ts c) (hk : Keep [] x y) : Two y B s r fb g p pm wb most T L ps ts c := by
  obtain ⟨pv, tv, hr⟩ := h.rs
  exact ⟨h.sat.keep0 hk, ⟨pv, tv, hr.keep hk (by simp)⟩, h.lt, h.psl, h.tsl⟩

theorem Two.left {x y : World} {B s r fb g p pm wb most : Nat} {T T' : Nat → Tab} {L L' : List Int} {ps : List Pg} {ts : List Nat} {c c' : Nat} (h : Two x B s r fb g p pm wb most T L ps ts c) {l : List Nat} (hk : Keep l x y) (hl : ∀ k ∈ l, k < wb) (hS : SAt y s r fb g p pm most T' L' c') (hc : c ≤ c') : Two y B s r fb g p pm wb most T' L' ps ts c' := by
  obtain ⟨pv, tv, hr⟩ := h.rs
  exact ⟨hS, ⟨pv, tv, hr.keep hk hl⟩, h.lt, Nat.le_trans h.psl hc, Nat.le_trans h.tsl hc⟩

theorem Two.right {x y : World} {B s r fb g p pm wb most : Nat} {T : Nat → Tab} {L : List Int} {ps ps' : List Pg} {ts ts' : List Nat} {c : Nat} (h : Two x B s r fb g p pm wb most T L ps ts c) (hk : KeepUp wb x y) {pv tv : Value} (hr : RS y wb most ps' ts' pv tv) (hp : ps'.length ≤ c) (ht : ts'.length ≤ c) : Two y B s r fb g p pm wb most T L ps' ts' c := by
  obtain ⟨l, hl, hk⟩ := hk
  have hlt := h.lt.2
  refine ⟨h.sat.keep hk ⟨?_, ?_, ?_, ?_, ?_, ?_⟩, ⟨pv, tv, hr⟩, h.lt, hp, ht⟩
  all_goals (intro q; have := hl _ q; omega)

theorem Two.later {x : World} {B s r fb g p pm wb most : Nat} {T : Nat → Tab} {L : List Int} {ps : List Pg} {ts : List Nat} {c : Nat} (h : Two x B s r fb g p pm wb most T L ps ts c) : Two x B s r fb g p pm wb most T L ps ts (c + 1) :=
  ⟨h.sat.later, h.rs, h.lt, Nat.le_succ_of_le h.psl, Nat.le_succ_of_le h.tsl⟩

/-- What one step leaves. -/
def StepR (most : Nat) (kd : Int) (va : Nat) (frame : Int) (bb : Nat) (T : Nat → Tab) (ps : List Pg) (ts : List Nat) (q : Bool) (T' : Nat → Tab) (ps' : List Pg) (ts' : List Nat) : Prop :=
  (kd = 0 ∧ ∃ b1 b2, PutR most T va frame bb b1 T' ∧ RPutR most ps ts va frame bb b2 ps' ts' ∧ q = (b1 == b2)) ∨
  (kd = 1 ∧ q = true ∧ DropR T va T' ∧ ps' = ps.filter (fun q => decide (q.1 ≠ va - va % 64)) ∧ ts' = ts) ∨
  (kd = 2 ∧ q = true ∧ T' = (fun _ => tab0) ∧ ps' = [] ∧ ts' = []) ∨
  (kd ≠ 0 ∧ kd ≠ 1 ∧ kd ≠ 2 ∧ q = true ∧ T' = T ∧ ps' = ps ∧ ts' = ts)

def DoPost (B s r fb g p pm wb most : Nat) (T : Nat → Tab) (ps : List Pg) (ts : List Nat) (c : Nat) (kd : Int) (va : Nat) (frame : Int) (bb : Nat) (x : World) (e : Ending) (y : World) : Prop :=
  ∃ q T' L' ps' ts', e = .returned (.bool q) ∧ StepR most kd (nearF va) frame bb T ps ts q T' ps' ts' ∧ Two y B s r fb g p pm wb most T' L' ps' ts' (c + 1) ∧ KeepUp B x y

theorem rput_len {most : Nat} {ps ps' : List Pg} {ts ts' : List Nat} {va : Nat} {frame : Int} {bb : Nat} {b : Bool} (h : RPutR most ps ts va frame bb b ps' ts') : ps'.length ≤ ps.length + 1 ∧ ts'.length ≤ ts.length + 1 := by
  rcases h with ⟨_, _, rfl, rfl⟩ | ⟨_, _, _, _, _, _, rfl, rfl⟩ | ⟨_, _, _, _, _, rfl, rfl⟩
  · omega
  · omega
  · refine ⟨?_, ?_⟩
    · rw [insP_length]
      have := List.length_filter_le (fun q : Pg => decide (q.1 ≠ va - va % 64)) ps
      omega
    · split <;> simp

set_option maxHeartbeats 8000000 in
theorem sdo_at {x : World} {B s r fb g p pm wb most : Nat} {T : Nat → Tab} {L : List Int} {ps : List Pg} {ts : List Nat} {c : Nat} (h : Two x B s r fb g p pm wb most T L ps ts c) (hc : c ≤ 800) (hB : B ≤ x.heap.size) (kd frame : Int) (va bb : Nat) (hv : va < 4294967296) (hb : bb < 4294967296) (hf1 : -9223372036854775808 ≤ frame) (hf2 : frame ≤ 9223372036854775807) (hk1 : -9223372036854775808 ≤ kd) (hk2 : kd ≤ 9223372036854775807) :
    Calls Try.prog 18 #[.pointer (some ⟨s, 0, none⟩), .pointer (some ⟨wb, 0, none⟩), .agg #[.int .i64 kd, .int .u32 va, .int .i64 frame, .int .u32 bb]] x (DoPost B s r fb g p pm wb most T ps ts c kd va frame bb x) := by
  have HT := Lib.hid h
  clear h
  obtain ⟨sz, hsz⟩ : ∃ sz, sz = x.heap.size := ⟨_, rfl⟩
  go_enter Try.func18, Try.ntmps18
  go_wp2_with fail
  rw [← hsz]
  generalize hy : World.alloc x _ = y0
  have H0 : Hid (Two y0 B s r fb g p pm wb most T L ps ts c ∧ Keep [] x y0 ∧ y0.heap[sz]? = some (.cells #[.int .i64 kd, .int .u32 va, .int .i64 frame, .int .u32 bb] 24 (0, 0)) ∧ sz = x.heap.size) := Lib.hid (by
    have hk : Keep [] x y0 := by subst hy; exact (Keep.refl _ _).alloc _
    exact ⟨HT.out.keep0 hk, hk, by subst hy hsz; exact heap_alloc_same x _, hsz⟩)
  clear hy hsz
  have c0 : y0.cell? ⟨sz, 0, none⟩ = some (.int .i64 kd) := cell_of H0.out.2.2.1 0 rfl
  have c2 : y0.cell? ⟨sz, 2, none⟩ = some (.int .i64 frame) := cell_of H0.out.2.2.1 2 rfl
  have c3 : y0.cell? ⟨sz, 3, none⟩ = some (.int .u32 bb) := cell_of H0.out.2.2.1 3 rfl
  refine (near_at va hv _).mono ?_
  rintro e y ⟨rfl, rfl⟩
  have hnl := nearF_lt hv
  generalize hno : nearF va = no at hnl
  have HNO := Lib.hid hno
  clear hno
  have hlt := H0.out.1.lt
  have hszw : wb < sz := by
    obtain ⟨pv, tv, hr⟩ := HT.out.rs
    have := lt_of_heap hr.blk
    have := H0.out.2.2.2
    omega
  have HUP : Hid (∀ l z, Keep l y0 z → (∀ k ∈ l, B ≤ k) → KeepUp B x z) := Lib.hid (fun l z hk hl => (Keep.upTo H0.out.2.1 (by simp)).trans (Keep.upTo hk hl))
  have HUW : Hid (∀ z z2, KeepUp B x z → KeepUp wb z z2 → KeepUp B x z2) := Lib.hid (fun z z2 h1 h2 => by
    obtain ⟨l, hl, hk⟩ := h2
    exact h1.trans (Keep.upTo hk (fun k q => by have := hl k q; omega)))
  have hps : ps.length ≤ 800 := Nat.le_trans H0.out.1.psl hc
  have hts : ts.length ≤ 800 := Nat.le_trans H0.out.1.tsl hc
  have hmo := H0.out.1.sat.inv.mst
  obtain ⟨pv, tv, hr0⟩ := HT.out.rs
  have HR0 : Hid (RS y0 wb most ps ts pv tv) := Lib.hid (hr0.keep H0.out.2.1 (by simp))
  have HTV : Hid (∀ k, (k = wb ∨ tv.ownBlock = some k) → wb ≤ k ∧ k < sz) := Lib.hid (fun k hk => by
    have := H0.out.2.2.2
    rcases hk with rfl | hk
    · omega
    · have := own_block hr0.trow hk
      omega)
  clear hr0
  rcases (by omega : kd = 0 ∨ kd = 1 ∨ kd = 2 ∨ (kd ≠ 0 ∧ kd ≠ 1 ∧ kd ≠ 2)) with rfl | rfl | rfl | ⟨k0, k1, k2⟩
  · go_wp2_with fail
    refine wp_region_held_drew (S := fun x => x.cell? ⟨sz, 2, none⟩ = some (.int .i64 frame) ∧ x.cell? ⟨sz, 3, none⟩ = some (.int .u32 bb)) (by kernel_rfl) ⟨c2, c3⟩ (fun hHeld => ?_)
    skip
    refine wpAnyH_take (i := 0) (oi := { dst := some 15, op := Op.move (Operand.tmp 0), type := 27, pos := "law.go:69", after := #[], guard := none }) (v := ?_) rfl (by kernel_rfl) (by kernel_rfl) (by kernel_rfl) (fun _ _ _ h => h) (Or.inl ⟨by rfl, ?_⟩) (by assumption) ?_
    rotate_left
    focus (intro w hSw; (try dsimp only at hSw); go_simp <;> with_reducible rfl)
    try simp only [Act.put, List.setIfInBounds_toArray, List.set_cons_zero, List.set_cons_succ]
    refine wpAnyH_take (i := 1) (oi := { dst := some 16, op := Op.move (Operand.tmp 7), type := 22, pos := "law.go:69", after := #[], guard := none }) (v := ?_) rfl (by kernel_rfl) (by kernel_rfl) (by kernel_rfl) (fun _ _ _ h => h) (Or.inl ⟨by rfl, ?_⟩) (by assumption) ?_
    rotate_left
    focus (intro w hSw; (try dsimp only at hSw); go_simp <;> with_reducible rfl)
    try simp only [Act.put, List.setIfInBounds_toArray, List.set_cons_zero, List.set_cons_succ]
    refine wpAnyH_take (i := 2) (oi := { dst := some 17, op := Op.fieldAddr 24 (Operand.tmp 5) 2, type := 0, pos := "law.go:69", after := #[], guard := none }) (v := ?_) rfl (by kernel_rfl) (by kernel_rfl) (by kernel_rfl) (fun _ _ _ h => h) (Or.inl ⟨by rfl, ?_⟩) (by assumption) ?_
    rotate_left
    focus (intro w hSw; (try dsimp only at hSw); go_simp <;> with_reducible rfl)
    try simp only [Act.put, List.setIfInBounds_toArray, List.set_cons_zero, List.set_cons_succ]
    refine wpAnyH_take (i := 3) (oi := { dst := some 18, op := Op.load 3 (Operand.tmp 17), type := 3, pos := "law.go:69", after := #[{ on := 2, ground := Ground.data }], guard := none }) (v := ?_) rfl (by kernel_rfl) (by kernel_rfl) (by kernel_rfl) (fun _ _ _ h => h) (Or.inl ⟨by rfl, ?_⟩) (by assumption) ?_
    rotate_left
    focus (intro w hSw; (try dsimp only at hSw); go_simp <;> with_reducible rfl)
    try simp only [Act.put, List.setIfInBounds_toArray, List.set_cons_zero, List.set_cons_succ]
    refine wpAnyH_take (i := 4) (oi := { dst := some 19, op := Op.fieldAddr 24 (Operand.tmp 5) 3, type := 0, pos := "law.go:69", after := #[], guard := none }) (v := ?_) rfl (by kernel_rfl) (by kernel_rfl) (by kernel_rfl) (fun _ _ _ h => h) (Or.inl ⟨by rfl, ?_⟩) (by assumption) ?_
    rotate_left
    focus (intro w hSw; (try dsimp only at hSw); go_simp <;> with_reducible rfl)
    try simp only [Act.put, List.setIfInBounds_toArray, List.set_cons_zero, List.set_cons_succ]
    refine wpAnyH_take (i := 5) (oi := { dst := some 20, op := Op.load 22 (Operand.tmp 19), type := 22, pos := "law.go:69", after := #[{ on := 4, ground := Ground.data }], guard := none }) (v := ?_) rfl (by kernel_rfl) (by kernel_rfl) (by kernel_rfl) (fun _ _ _ h => h) (Or.inl ⟨by rfl, ?_⟩) (by assumption) ?_
    rotate_left
    focus (intro w hSw; (try dsimp only at hSw); go_simp <;> with_reducible rfl)
    try simp only [Act.put, List.setIfInBounds_toArray, List.set_cons_zero, List.set_cons_succ]
    refine wpAnyH_take (i := 7) (oi := { dst := some 22, op := Op.move (Operand.tmp 1), type := 42, pos := "law.go:69", after := #[], guard := none }) (v := ?_) rfl (by kernel_rfl) (by kernel_rfl) (by kernel_rfl) (fun _ _ _ h => h) (Or.inl ⟨by rfl, ?_⟩) (by assumption) ?_
    rotate_left
    focus (intro w hSw; (try dsimp only at hSw); go_simp <;> with_reducible rfl)
    try simp only [Act.put, List.setIfInBounds_toArray, List.set_cons_zero, List.set_cons_succ]
    refine wpAnyH_take (i := 8) (oi := { dst := some 23, op := Op.move (Operand.tmp 7), type := 22, pos := "law.go:69", after := #[], guard := none }) (v := ?_) rfl (by kernel_rfl) (by kernel_rfl) (by kernel_rfl) (fun _ _ _ h => h) (Or.inl ⟨by rfl, ?_⟩) (by assumption) ?_
    rotate_left
    focus (intro w hSw; (try dsimp only at hSw); go_simp <;> with_reducible rfl)
    try simp only [Act.put, List.setIfInBounds_toArray, List.set_cons_zero, List.set_cons_succ]
    refine wpAnyH_take (i := 9) (oi := { dst := some 24, op := Op.fieldAddr 24 (Operand.tmp 5) 2, type := 0, pos := "law.go:69", after := #[], guard := none }) (v := ?_) rfl (by kernel_rfl) (by kernel_rfl) (by kernel_rfl) (fun _ _ _ h => h) (Or.inl ⟨by rfl, ?_⟩) (by assumption) ?_
    rotate_left
    focus (intro w hSw; (try dsimp only at hSw); go_simp <;> with_reducible rfl)
    try simp only [Act.put, List.setIfInBounds_toArray, List.set_cons_zero, List.set_cons_succ]
    refine wpAnyH_take (i := 10) (oi := { dst := some 25, op := Op.load 3 (Operand.tmp 24), type := 3, pos := "law.go:69", after := #[{ on := 9, ground := Ground.data }], guard := none }) (v := ?_) rfl (by kernel_rfl) (by kernel_rfl) (by kernel_rfl) (fun _ _ _ h => h) (Or.inl ⟨by rfl, ?_⟩) (by assumption) ?_
    rotate_left
    focus (intro w hSw; (try dsimp only at hSw); go_simp <;> with_reducible rfl)
    try simp only [Act.put, List.setIfInBounds_toArray, List.set_cons_zero, List.set_cons_succ]
    refine wpAnyH_take (i := 11) (oi := { dst := some 26, op := Op.fieldAddr 24 (Operand.tmp 5) 3, type := 0, pos := "law.go:69", after := #[], guard := none }) (v := ?_) rfl (by kernel_rfl) (by kernel_rfl) (by kernel_rfl) (fun _ _ _ h => h) (Or.inl ⟨by rfl, ?_⟩) (by assumption) ?_
    rotate_left
    focus (intro w hSw; (try dsimp only at hSw); go_simp <;> with_reducible rfl)
    try simp only [Act.put, List.setIfInBounds_toArray, List.set_cons_zero, List.set_cons_succ]
    refine wpAnyH_take (i := 12) (oi := { dst := some 27, op := Op.load 22 (Operand.tmp 26), type := 22, pos := "law.go:69", after := #[{ on := 11, ground := Ground.data }], guard := none }) (v := ?_) rfl (by kernel_rfl) (by kernel_rfl) (by kernel_rfl) (fun _ _ _ h => h) (Or.inl ⟨by rfl, ?_⟩) (by assumption) ?_
    rotate_left
    focus (intro w hSw; (try dsimp only at hSw); go_simp <;> with_reducible rfl)
    try simp only [Act.put, List.setIfInBounds_toArray, List.set_cons_zero, List.set_cons_succ]
    refine wpAnyH_ready (rs := [6]) (by kernel_rfl) (by simp) ?_
    refine AllReadyH.cons (o := { dst := some 21, op := Op.call { callee := Callee.value (Operand.func 13), args := #[Operand.tmp 15, Operand.tmp 16, Operand.tmp 18, Operand.tmp 20], argTypes := #[27, 22, 3, 22] }, type := 4, pos := "law.go:69", after := #[{ on := 0, ground := Ground.data }, { on := 1, ground := Ground.data }, { on := 3, ground := Ground.data }, { on := 5, ground := Ground.data }], guard := none }) rfl (fun K hK => ?_) AllReadyH.nil
    go_simp
    refine (sput_at (H0.out.1.sat.keep0 (Keep.refl [] y0).drew) (by omega) no frame bb hnl hf1 hf2 hb).mono ?_
    rintro e z ⟨hk, hP⟩
    have hkz : Keep [s, g, p, pm] y0 z := (Keep.refl [s, g, p, pm] y0).drew.trans hk
    have hP2 : ∃ b1 T1 L1, e = .returned (.bool b1) ∧ Hid (PutR most T no frame bb b1 T1 ∧ Two z B s r fb g p pm wb most T1 L1 ps ts (c + 1)) := by
      have two : ∀ {T1 L1}, SAt z s r fb g p pm most T1 L1 (c + 1) → Two z B s r fb g p pm wb most T1 L1 ps ts (c + 1) := fun hS => H0.out.1.left hkz (by simp; omega) hS (by omega)
      rcases hP with ⟨h1, rfl, hS⟩ | ⟨h1, h2, h3, rfl, T1, L1, hl, hS⟩ | ⟨h1, h2, h3, h4, h5, rfl, hS⟩
      · exact ⟨_, _, _, rfl, Lib.hid ⟨.inl ⟨h1, rfl, rfl⟩, two hS⟩⟩
      · exact ⟨_, _, _, rfl, Lib.hid ⟨.inr (.inl ⟨h1, h2, h3, rfl, T1, hl, rfl⟩), two hS⟩⟩
      · exact ⟨_, _, _, rfl, Lib.hid ⟨.inr (.inr ⟨h1, h2, h3, h4, h5, rfl, rfl⟩), two hS⟩⟩
    obtain ⟨b1, T1, L1, rfl, HP1⟩ := hP2
    have x2 := hk.cell hHeld.1 (by simp; omega)
    have x3 := hk.cell hHeld.2 (by simp; omega)
    have HKZ := Lib.hid hkz
    clear hk hP hkz
    go_wp2_with fail
    refine shut_grow (fun x => x.cell? ⟨sz, 2, none⟩ = some (.int .i64 frame) ∧ x.cell? ⟨sz, 3, none⟩ = some (.int .u32 bb)) hK (fun _ h => h) ⟨x2, x3⟩ (fun hHeld => ?_)
    clear hK K
    skip
    refine wpAnyH_ready (rs := [13]) (by kernel_rfl) (by simp) ?_
    refine AllReadyH.cons (o := { dst := some 28, op := Op.call { callee := Callee.value (Operand.func 52), args := #[Operand.tmp 22, Operand.tmp 23, Operand.tmp 25, Operand.tmp 27], argTypes := #[42, 22, 3, 22] }, type := 4, pos := "law.go:69", after := #[{ on := 7, ground := Ground.data }, { on := 8, ground := Ground.data }, { on := 10, ground := Ground.data }, { on := 12, ground := Ground.data }, { on := 6, ground := Ground.chain }], guard := none }) rfl (fun K hK => ?_) AllReadyH.nil
    go_simp
    have hr : RS _ wb most ps ts pv tv := HR0.out.keep HKZ.out (by simp; omega)
    refine (rsput_at hr (by omega) (by omega) (by omega) no frame bb hnl hf1 hf2 hb).mono ?_
    rintro e z2 ⟨hkt, hP⟩
    have y2 := hkt.cell hHeld.1 (by intro q; have := HTV.out _ q; omega)
    have y3 := hkt.cell hHeld.2 (by intro q; have := HTV.out _ q; omega)
    have hku : KeepUp wb z z2 := hkt.mono (fun k q => (HTV.out k q).1)
    have hP2 : ∃ b2 ps' ts', e = .returned (.bool b2) ∧ Hid (RPutR most ps ts no frame bb b2 ps' ts' ∧ Two z2 B s r fb g p pm wb most T1 L1 ps' ts' (c + 1)) := by
      rcases hP with ⟨h1, rfl, pv, tv, hr⟩ | ⟨h1, h2, h3, h4, h5, rfl, pv, tv, hr⟩ | ⟨h1, h2, h3, h4, rfl, pv, tv, hr⟩
      · exact ⟨_, _, _, rfl, Lib.hid ⟨.inl ⟨h1, rfl, rfl, rfl⟩, HP1.out.2.right hku hr (by have := H0.out.1.psl; omega) (by have := H0.out.1.tsl; omega)⟩⟩
      · exact ⟨_, _, _, rfl, Lib.hid ⟨.inr (.inl ⟨h1, h2, h3, h4, h5, rfl, rfl, rfl⟩), HP1.out.2.right hku hr (by have := H0.out.1.psl; omega) (by have := H0.out.1.tsl; omega)⟩⟩
      · have hR : RPutR most ps ts no frame bb true _ _ := .inr (.inr ⟨h1, h2, h3, h4, rfl, rfl, rfl⟩)
        have hlen := rput_len hR
        exact ⟨_, _, _, rfl, Lib.hid ⟨hR, HP1.out.2.right hku hr (by have := H0.out.1.psl; omega) (by have := H0.out.1.tsl; omega)⟩⟩
    obtain ⟨b2, ps', ts', rfl, HP2⟩ := hP2
    have HKU := Lib.hid (HUW.out z z2 (HUP.out _ _ HKZ.out (by simp; omega)) hku)
    clear hkt hP hku
    go_wp2_with fail
    refine shut_grow (fun x => x.cell? ⟨sz, 2, none⟩ = some (.int .i64 frame) ∧ x.cell? ⟨sz, 3, none⟩ = some (.int .u32 bb)) hK (fun _ h => h) ⟨y2, y3⟩ (fun hHeld => ?_)
    clear hK K
    refine wpAnyH_take (i := 14) (oi := { dst := some 29, op := Op.binOp BinOp.eql 4 (Operand.tmp 21) (Operand.tmp 28) 4, type := 4, pos := "law.go:69", after := #[{ on := 6, ground := Ground.data }, { on := 13, ground := Ground.data }], guard := none }) (v := ?_) rfl (by kernel_rfl) (by kernel_rfl) (by kernel_rfl) (fun _ _ _ h => h) (Or.inl ⟨by rfl, ?_⟩) (by assumption) ?_
    rotate_left
    focus (intro w hSw; (try dsimp only at hSw); go_simp <;> with_reducible rfl)
    try simp only [Act.put, List.setIfInBounds_toArray, List.set_cons_zero, List.set_cons_succ]
    refine wpAnyH_take (i := 15) (oi := { dst := some 6, op := Op.assign (Operand.tmp 29), type := 4, pos := "law.go:69", after := #[{ on := 14, ground := Ground.data }, { on := 13, ground := Ground.chain }, { on := 0, ground := Ground.phase }, { on := 1, ground := Ground.phase }, { on := 2, ground := Ground.phase }, { on := 3, ground := Ground.phase }, { on := 4, ground := Ground.phase }, { on := 5, ground := Ground.phase }, { on := 6, ground := Ground.phase }, { on := 7, ground := Ground.phase }, { on := 8, ground := Ground.phase }, { on := 9, ground := Ground.phase }, { on := 10, ground := Ground.phase }, { on := 11, ground := Ground.phase }, { on := 12, ground := Ground.phase }, { on := 13, ground := Ground.phase }, { on := 14, ground := Ground.phase }], guard := none }) (v := ?_) rfl (by kernel_rfl) (by kernel_rfl) (by kernel_rfl) (fun _ _ _ h => h) (Or.inl ⟨by rfl, ?_⟩) (by assumption) ?_
    rotate_left
    focus (intro w hSw; (try dsimp only at hSw); go_simp <;> with_reducible rfl)
    try simp only [Act.put, List.setIfInBounds_toArray, List.set_cons_zero, List.set_cons_succ]
    refine wpAnyH_done (by kernel_rfl) ?_ _
    go_wp2_with fail
    go_ret
    refine ⟨(b1 == b2), T1, L1, ps', ts', rfl, .inl ⟨rfl, b1, b2, ?_, ?_, rfl⟩, HP2.out.2, HKU.out⟩
    · rw [HNO.out]; exact HP1.out.1
    · rw [HNO.out]; exact HP2.out.1
  · go_wp2_with fail
    refine (sdrop_at H0.out.1.sat no hnl).mono ?_
    rintro e z ⟨⟨v, rfl⟩, hk, hP⟩
    have hkz : Keep [s, g] y0 z := hk
    have hP2 : ∃ T1 L1, Hid (DropR T no T1 ∧ Two z B s r fb g p pm wb most T1 L1 ps ts (c + 1)) := by
      rcases hP with ⟨h1, hS⟩ | ⟨h1, h2, L1, hS⟩
      · exact ⟨_, _, Lib.hid ⟨.inl ⟨h1, rfl⟩, H0.out.1.left hkz (by simp; omega) hS.later (by omega)⟩⟩
      · exact ⟨_, _, Lib.hid ⟨.inr ⟨h1, h2, rfl⟩, H0.out.1.left hkz (by simp; omega) hS.later (by omega)⟩⟩
    obtain ⟨T1, L1, HP1⟩ := hP2
    have HKZ := Lib.hid hkz
    clear hk hP hkz
    go_wp2_with fail
    have hr : RS _ wb most ps ts pv tv := HR0.out.keep HKZ.out (by simp; omega)
    refine (rsdrop_at hr (by omega) no hnl).mono ?_
    rintro e z2 ⟨⟨v2, rfl⟩, pv', hr2, hk2⟩
    have hku : KeepUp wb z z2 := Keep.upTo hk2 (by simp)
    have HT2 : Hid (Two z2 B s r fb g p pm wb most T1 L1 (ps.filter (fun q => decide (q.1 ≠ no - no % 64))) ts (c + 1)) := Lib.hid (HP1.out.2.right hku hr2 (by
      have := List.length_filter_le (fun q : Pg => decide (q.1 ≠ no - no % 64)) ps
      have := H0.out.1.psl
      omega) (by have := H0.out.1.tsl; omega))
    have HKU := Lib.hid (HUW.out z z2 (HUP.out _ _ HKZ.out (by simp; omega)) hku)
    clear hr2 hk2 hku hr
    go_wp2_with fail
    go_ret
    refine ⟨true, T1, L1, _, _, rfl, .inr (.inl ⟨rfl, rfl, ?_, rfl, rfl⟩), ?_, HKU.out⟩
    · rw [HNO.out]; exact HP1.out.1
    · rw [HNO.out]; exact HT2.out
  · go_wp2_with fail
    refine (sclear_at H0.out.1.sat).mono ?_
    rintro e z ⟨⟨v, rfl⟩, hP⟩
    have hP2 : ∃ L1, Hid (Two z B s r fb g p pm wb most (fun _ => tab0) L1 ps ts (c + 1) ∧ Keep [s, g, p, pm] y0 z) := by
      obtain ⟨hk, L1, hS⟩ := hP.out
      exact ⟨_, Lib.hid ⟨H0.out.1.left hk (by simp; omega) hS.later (by omega), hk⟩⟩
    obtain ⟨L1, HP1⟩ := hP2
    clear hP
    go_wp2_with fail
    have hr : RS _ wb most ps ts pv tv := HR0.out.keep HP1.out.2 (by simp; omega)
    refine (rsclear_at hr).mono ?_
    rintro e z2 ⟨⟨v2, rfl⟩, hr2, hku⟩
    have HT2 : Hid (Two z2 B s r fb g p pm wb most (fun _ => tab0) L1 [] [] (c + 1)) := Lib.hid (HP1.out.1.right hku hr2 (by simp) (by simp))
    have HKU := Lib.hid (HUW.out z z2 (HUP.out _ _ HP1.out.2 (by simp; omega)) hku)
    clear hr2 hku hr
    go_wp2_with fail
    go_ret
    exact ⟨true, _, L1, _, _, rfl, .inr (.inr (.inl ⟨rfl, rfl, rfl, rfl, rfl⟩)), HT2.out, HKU.out⟩
  · have e0 : (kd == 0) = false := by rw [beq_eq_false_iff_ne]; exact k0
    have e1 : (kd == 1) = false := by rw [beq_eq_false_iff_ne]; exact k1
    have e2 : (kd == 2) = false := by rw [beq_eq_false_iff_ne]; exact k2
    go_wp2_with fail
    go_ret
    exact ⟨true, _, _, _, _, rfl, .inr (.inr (.inr ⟨k0, k1, k2, rfl, rfl, rfl, rfl⟩)), H0.out.1.later, Keep.upTo H0.out.2.1 (by simp)⟩
end Go.Proofs.Ytpinoejckagjbaa
