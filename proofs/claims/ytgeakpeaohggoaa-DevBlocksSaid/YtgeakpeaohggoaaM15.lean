/- Contracts of the functions that the law reaches, walked, and the plain laws on them (several texts in one). -/
import Derived.StillTailTactics
import Derived.Laws.Cover3
import Derived.Test.YtgeakpeaohggoaaM11
import Derived.Test.YtgeakpeaohggoaaM14
import Derived.Test.YtgeakpeaohggoaaM09

/- Devices: the disk's command is done with a memory. -/
namespace Go.Proofs.Ytgeakpeaohggoaa
open Go.RowKit Go.Mum
set_option linter.unusedVariables false
set_option linter.unusedSimpArgs false
set_option maxRecDepth 100000

/-- Devices and a memory that lie apart. -/
structure DM (w : World) (b : Nat) (F : List Nat) (s : DS) (r fb g n : Nat) (L : List Int) : Prop where
  dv : DvAt w b F s
  mem : RamAt w r fb g (List.range n) L
  len : L.length = 64 * n
  ap : r ∉ F ∧ fb ∉ F ∧ g ∉ F

theorem DM.keep0 {w x : World} {b : Nat} {F : List Nat} {s : DS} {r fb g n : Nat} {L : List Int} (h : DM w b F s r fb g n L) (hk : Keep [] w x) : DM x b F s r fb g n L :=
  ⟨h.dv.keep0 hk, h.mem.keep0 hk, h.len, h.ap⟩

/-- A call that turns devices alone. -/
theorem DM.to {w x : World} {b : Nat} {F : List Nat} {s s' : DS} {r fb g n : Nat} {L : List Int} (h : DM w b F s r fb g n L) (hd : DvTo b F s' w x) : ∃ F', DM x b F' s' r fb g n L ∧ Keep F w x ∧ ∀ k ∈ F', k ∈ F ∨ w.heap.size ≤ k := by
  obtain ⟨F', hd', hk, hf⟩ := hd
  have hlt := h.mem.lt
  refine ⟨F', ⟨hd', h.mem.keep hk h.ap.1 h.ap.2.1 h.ap.2.2, h.len, ?_, ?_, ?_⟩, hk, hf⟩
  · exact fun hm => (hf _ hm).elim h.ap.1 (fun h => by omega)
  · exact fun hm => (hf _ hm).elim h.ap.2.1 (fun h => by omega)
  · exact fun hm => (hf _ hm).elim h.ap.2.2 (fun h => by omega)

/-- The block that is read, the frame that is written. -/
def blkOf (s : DS) : List Int := (s.disk.drop (64 * s.fr)).take 64

theorem blkOf_length {s : DS} (ok : s.Ok) (h : s.fr < s.disk.length / 64) : (blkOf s).length = 64 := by
  unfold blkOf; rw [List.length_take, List.length_drop]; have := ok.disk.2.2; omega

theorem put_range {n to : Nat} {L M : List Int} (hl : L.length = 64 * n) (hM : M.length = 64) (h1 : to % 64 = 0) (h2 : to < 64 * n) : putAt (List.range n) L to M = splice L to M := by
  rw [putAt_frame _ _ _ _ (by omega) (by rw [pl_range h2]; omega), pl_range h2]

/-- A row of a disk, as bytes. -/
theorem disk_row {w : World} {bg off c : Nat} {s : DS} (ok : s.Ok) (h : Buf w 113 64 (.slice (some ⟨bg, off, none⟩) (s.disk.length / 64) c) (s.disk.length / 64) (u8s s.disk)) (hf : s.fr < s.disk.length / 64) : Row w (some ⟨bg, off + s.fr * 64, none⟩) 64 (blkOf s) := by
  have hl := blkOf_length ok hf
  obtain ⟨g', off', c', e, _, hc⟩ := h.cells (by omega)
  cases e
  refine ⟨fun x hx => ok.disk.1 x (List.mem_of_mem_drop (List.mem_of_mem_take hx)), ⟨by omega, by unfold maxLen; omega⟩, .inr (.inr ⟨_, _, rfl, fun i hi => ?_⟩)⟩
  rw [hl] at hi
  rw [Nat.add_assoc]
  refine hc _ _ ?_
  have hlt : s.fr * 64 + i < s.disk.length := by have := ok.disk.2.2; omega
  simp only [u8s, List.getElem?_map, List.getElem?_eq_getElem hlt, Option.map_some, Option.some.injEq, Value.int.injEq, true_and]
  have : (blkOf s)[i]? = some s.disk[s.fr * 64 + i] := by
    unfold blkOf
    rw [List.getElem?_take_of_lt hi, List.getElem?_drop, show 64 * s.fr + i = s.fr * 64 + i by omega, List.getElem?_eq_getElem hlt]
  rw [List.getD, this]; rfl

/-- Behind the command's own cells. -/
theorem done_mid {w : World} {b : Nat} {F : List Nat} {s : DS} {r fb g n : Nat} {L : List Int} (h : DM w b F s r fb g n L) (o : Obj) (nq : Nat) :
    DM (((w.alloc o).drewN nq).setCell ⟨b, 6, none⟩ (.int .u32 0)) b F { s with st := 0 } r fb g n L ∧ Keep F w (((w.alloc o).drewN nq).setCell ⟨b, 6, none⟩ (.int .u32 0)) ∧
      ∀ i, i ≠ 6 → ∀ v, w.cell? ⟨b, i, none⟩ = some v → (((w.alloc o).drewN nq).setCell ⟨b, 6, none⟩ (.int .u32 0)).cell? ⟨b, i, none⟩ = some v := by
  have k0 : Keep [] w ((w.alloc o).drewN nq) := ((Keep.refl _ _).alloc _).drewN nq
  have h0 := h.keep0 k0
  obtain ⟨ok, q, bl, sc, ou, hi, hF⟩ := h0.dv
  have hb := h.dv.mem
  have kb : Keep [b] ((w.alloc o).drewN nq) (((w.alloc o).drewN nq).setCell ⟨b, 6, none⟩ (.int .u32 0)) := (Keep.refl _ _).setCell (.inl (by simp)) _
  have ok' : ({ s with st := 0 } : DS).Ok := ⟨ok.bits, ok.mask, ok.queue, ok.disk, ok.bk, ok.ad, Nat.zero_le _, ok.kd, ok.fr, ok.to, ok.script, ok.out⟩
  have ne : ∀ k, k ∉ F → k ∉ [b] := fun k hk hm => by simp at hm; subst hm; exact hk hb
  refine ⟨⟨⟨ok', q, bl, sc, ou, hi.turn kb (heap_set_same hi.cs 6 _) rfl rfl rfl rfl, hF⟩, h0.mem.keep kb (ne _ h.ap.1) (ne _ h.ap.2.1) (ne _ h.ap.2.2), h.len, h.ap⟩, (k0.weaken (fun k hk => by cases hk)).trans (kb.weaken (fun k hk _ => by simp at hk; subst hk; exact hb)), fun i hi6 v hv => ?_⟩
  rw [World.cell?_setCell_other _ _ _ _ (by simp; try exact hi6)]
  exact k0.cell hv (by simp)

set_option maxHeartbeats 4000000 in
theorem done_one {w : World} {b : Nat} {F : List Nat} {s : DS} {r fb g n : Nat} {L : List Int} (h : DM w b F s r fb g n L) (hg : goodN s n) (hkd : s.kd = 1) :
    Calls Try.prog 41 #[.pointer (some ⟨b, 3, none⟩), .pointer (some ⟨r, 0, none⟩)] w fun e w' => e = .returned (.tuple #[.int .i64 ((s.to : Int) / 64), .bool true]) ∧
      DM w' b F { s with st := 0 } r fb g n (splice L s.to (blkOf s)) ∧ Keep (g :: F) w w' := by
  have H := Lib.hid h
  obtain ⟨⟨ok, q, bl, sc, ou, hi, hF⟩, hmem, hlen, hap⟩ := h
  obtain ⟨ba, bc, rfl, hb1, hb2⟩ := hi.hbl.shape
  obtain ⟨hg1, hg2, hg3⟩ := hg
  obtain ⟨g', off', c', ea, _, hcell⟩ := hi.hbl.cells (by omega)
  injection ea with ea _ ec
  subst ea ec
  have hrow := disk_row ok hi.hbl hg1
  have hbl0 := hi.hbl
  have hgF : g' ∈ F := by
    obtain ⟨_, a', c2, e1, h2, h3, h4⟩ := hbl0
    injection e1 with e1 _ e3
    subst e3
    rw [hF]
    have : bc ≠ 0 := (by omega)
    simp [blk, this]
  have hgg : g' ≠ g := fun e => hap.2.2 (e ▸ hgF)
  have hgb : g' ≠ b := fun e => hi.nodup.get (i := 2) (j := 0) (by simp) (by simp) (by omega) g' (by have : bc ≠ 0 := (by omega); simp [blk, this]) (by simp [e])
  obtain ⟨nb, hnbe⟩ : ∃ nb, nb = s.disk.length / 64 := ⟨_, rfl⟩
  have hnb : nb ≤ 32 := by have := ok.disk.2.1; omega
  have e3 : w.cell? ⟨b, 3, none⟩ = some (.slice (some ⟨g', off', none⟩) nb bc) := by rw [hnbe]; exact cell_of hi.cs 3 rfl
  have e6 : w.cell? ⟨b, 6, none⟩ = some (.int .u32 s.st) := cell_of hi.cs 6 rfl
  have e7 : w.cell? ⟨b, 7, none⟩ = some (.int .u32 (1 : Nat)) := by rw [← hkd]; exact cell_of hi.cs 7 rfl
  have e8 : w.cell? ⟨b, 8, none⟩ = some (.int .u32 s.fr) := cell_of hi.cs 8 rfl
  have e9 : w.cell? ⟨b, 9, none⟩ = some (.int .u32 s.to) := cell_of hi.cs 9 rfl
  have fz := frozen_of hi.cs
  have l2 : IntKind.u32.wrap (nb : Int) = (nb : Int) := by rw [IntKind.wrap_u32]; omega
  have hto := ok.to
  have hbig : 64 * n < 4294967296 := by have := hmem.size; simp at this; omega
  have m2 : IntKind.u32.wrap ((s.to : Int).tmod 64) = 0 := by rw [Int.tmod_eq_emod_of_nonneg (by omega), IntKind.wrap_u32]; omega
  have td : (s.to : Int).tmod 64 = (s.to : Int) % 64 := Int.tmod_eq_emod_of_nonneg (by omega)
  have T2 : ((s.to : Int) % 64 != 0) = false := by simp; omega
  have T2' : ((s.to : Int) % 64 == 0) = true := by simp; omega
  have td2 : (s.to : Int).tdiv 64 = ((s.to / 64 : Nat) : Int) := by rw [Int.tdiv_eq_ediv_of_nonneg (by omega)]; omega
  have m3 : IntKind.u32.wrap ((s.to : Int).tdiv 64) = ((s.to / 64 : Nat) : Int) := by rw [Int.tdiv_eq_ediv_of_nonneg (by omega), IntKind.wrap_u32]; omega
  have m4 : IntKind.i64.wrap ((s.to / 64 : Nat) : Int) = ((s.to / 64 : Nat) : Int) := by rw [IntKind.wrap_i64]; omega
  have T1 : decide ((nb : Int) ≤ (s.fr : Int)) = false := decide_eq_false (by omega)
  have T1' : ¬ nb ≤ s.fr := by omega
  have T3 : decide (64 * (n : Int) ≤ (s.to : Int)) = false := decide_eq_false (by omega)
  have T3' : ¬ 64 * n ≤ s.to := by omega
  have hfrn : s.fr < nb := by omega
  have Z := Lib.hid (fun x (hk : Keep [] w x) => rsize_any (hmem.keep0 hk).sz)
  have Z1 := fun o k => Z.out _ (((Keep.refl [] w).alloc o).drewN k)
  have ho : ∀ o : Obj, (w.alloc o).cell? ⟨b, 3, none⟩ = some (.slice (some ⟨g', off', none⟩) nb bc) := fun o => ((Keep.refl [] w).alloc o).cell e3 (by simp)
  have ho6 : ∀ o : Obj, (w.alloc o).cell? ⟨b, 6, none⟩ = some (.int .u32 s.st) := fun o => ((Keep.refl [] w).alloc o).cell e6 (by simp)
  have hfz : ∀ (o : Obj) (i : Nat), (w.alloc o).frozen? ⟨b, i, none⟩ = false := fun o i => frozen_of (heap_alloc_other o hi.cs) i
  have HI := Lib.hid (And.intro ok (And.intro hi hrow))
  have HX := Lib.hid (And.intro hF (And.intro hnbe (And.intro hgg hgb)))
  clear hi ok hrow hbl0 hcell hmem hF hnbe
  go_enter Try.func41, Try.ntmps41
  go_wp2
  go_quiet ((go_at_call 54; exact quiet_same (by simpa using Z1 _ _)))
  go_wp2
  have HY := Lib.hid (done_mid H.out (.cells #[.int .u32 1, .int .u32 s.fr, .int .u32 s.to] 70) nq)
  have oB : ∃ o, o = w.heap.size := ⟨_, rfl⟩
  obtain ⟨ob, hob⟩ := oB
  have hO : (((w.alloc (.cells #[.int .u32 1, .int .u32 s.fr, .int .u32 s.to] 70)).drewN nq).setCell ⟨b, 6, none⟩ (.int .u32 0)).heap[ob]? = some (.cells #[.int .u32 1, .int .u32 s.fr, .int .u32 s.to] 70 (0, 0)) := by
    have hlt := lt_of_heap HI.out.2.1.cs
    rw [heap_set_other (by omega)]
    exact heap_alloc_at _ hob
  rw [← hob]
  have HOB := Lib.hid hob
  clear hob
  generalize ((w.alloc (.cells #[.int .u32 1, .int .u32 s.fr, .int .u32 s.to] 70)).drewN nq).setCell ⟨b, 6, none⟩ (.int .u32 0) = y at HY hO ⊢
  clear e3 e6 e7 e8 e9 fz ho ho6 hfz Z Z1
  have o0 : y.drew.cell? ⟨ob, 0, none⟩ = some (.int .u32 (1 : Nat)) := cell_of hO 0 rfl
  have o1 : y.drew.cell? ⟨ob, 1, none⟩ = some (.int .u32 s.fr) := cell_of hO 1 rfl
  have o2 : y.drew.cell? ⟨ob, 2, none⟩ = some (.int .u32 s.to) := cell_of hO 2 rfl
  have p1 : y.cell? ⟨ob, 1, none⟩ = some (.int .u32 s.fr) := o1
  have p2 : y.cell? ⟨ob, 2, none⟩ = some (.int .u32 s.to) := o2
  have hb3y : y.drew.cell? ⟨b, 3, none⟩ = some (.slice (some ⟨g', off', none⟩) nb bc) := HY.out.2.2 3 (by omega) _ (by rw [HX.out.2.1]; exact cell_of HI.out.2.1.cs 3 rfl)
  have hb3 : y.cell? ⟨b, 3, none⟩ = some (.slice (some ⟨g', off', none⟩) nb bc) := hb3y
  refine wp_region_held_drew (S := fun z => z.cell? ⟨ob, 1, none⟩ = some (.int .u32 s.fr) ∧ z.cell? ⟨ob, 2, none⟩ = some (.int .u32 s.to) ∧ z.cell? ⟨b, 3, none⟩ = some (.slice (some ⟨g', off', none⟩) nb bc)) (by kernel_rfl) ⟨o1, o2, hb3y⟩ (fun hHeld => ?_)
  have hky : Keep [] y y.drew := (Keep.refl [] _).drew
  generalize World.drew y = y2 at hHeld hky ⊢
  skip
  refine wpAnyH_take (i := 0) (oi := { dst := some 47, op := Op.move (Operand.tmp 7), type := 3, pos := "disk.go:68", after := #[], guard := none }) (v := ?_) rfl (by kernel_rfl) (by kernel_rfl) (by kernel_rfl) (fun _ _ _ h => h) (Or.inl ⟨by rfl, ?_⟩) (by assumption) ?_
  rotate_left
  focus (intro w hSw; (try dsimp only at hSw); go_simp <;> with_reducible rfl)
  try simp only [Act.put, List.setIfInBounds_toArray, List.set_cons_zero, List.set_cons_succ]
  refine wpAnyH_take (i := 1) (oi := { dst := some 48, op := Op.move (Operand.tmp 1), type := 53, pos := "disk.go:68", after := #[], guard := none }) (v := ?_) rfl (by kernel_rfl) (by kernel_rfl) (by kernel_rfl) (fun _ _ _ h => h) (Or.inl ⟨by rfl, ?_⟩) (by assumption) ?_
  rotate_left
  focus (intro w hSw; (try dsimp only at hSw); go_simp <;> with_reducible rfl)
  try simp only [Act.put, List.setIfInBounds_toArray, List.set_cons_zero, List.set_cons_succ]
  refine wpAnyH_take (i := 2) (oi := { dst := some 49, op := Op.fieldAddr 70 (Operand.tmp 6) 2, type := 0, pos := "disk.go:68", after := #[], guard := none }) (v := ?_) rfl (by kernel_rfl) (by kernel_rfl) (by kernel_rfl) (fun _ _ _ h => h) (Or.inl ⟨by rfl, ?_⟩) (by assumption) ?_
  rotate_left
  focus (intro w hSw; (try dsimp only at hSw); go_simp <;> with_reducible rfl)
  try simp only [Act.put, List.setIfInBounds_toArray, List.set_cons_zero, List.set_cons_succ]
  refine wpAnyH_take (i := 3) (oi := { dst := some 50, op := Op.load 33 (Operand.tmp 49), type := 33, pos := "disk.go:68", after := #[{ on := 2, ground := Ground.data }], guard := none }) (v := ?_) rfl (by kernel_rfl) (by kernel_rfl) (by kernel_rfl) (fun _ _ _ h => h) (Or.inl ⟨by rfl, ?_⟩) (by assumption) ?_
  rotate_left
  focus (intro w hSw; (try dsimp only at hSw); go_simp <;> with_reducible rfl)
  try simp only [Act.put, List.setIfInBounds_toArray, List.set_cons_zero, List.set_cons_succ]
  refine wpAnyH_take (i := 4) (oi := { dst := some 51, op := Op.move (Operand.tmp 0), type := 118, pos := "disk.go:68", after := #[], guard := none }) (v := ?_) rfl (by kernel_rfl) (by kernel_rfl) (by kernel_rfl) (fun _ _ _ h => h) (Or.inl ⟨by rfl, ?_⟩) (by assumption) ?_
  rotate_left
  focus (intro w hSw; (try dsimp only at hSw); go_simp <;> with_reducible rfl)
  try simp only [Act.put, List.setIfInBounds_toArray, List.set_cons_zero, List.set_cons_succ]
  refine wpAnyH_take (i := 5) (oi := { dst := some 52, op := Op.nilCheck (Operand.tmp 51), type := 0, pos := "disk.go:68", after := #[{ on := 4, ground := Ground.data }], guard := none }) (v := ?_) rfl (by kernel_rfl) (by kernel_rfl) (by kernel_rfl) (fun _ _ _ h => h) (Or.inl ⟨by rfl, ?_⟩) (by assumption) ?_
  rotate_left
  focus (intro w hSw; (try dsimp only at hSw); go_simp <;> with_reducible rfl)
  try simp only [Act.put, List.setIfInBounds_toArray, List.set_cons_zero, List.set_cons_succ]
  refine wpAnyH_take (i := 6) (oi := { dst := some 53, op := Op.fieldAddr 72 (Operand.tmp 52) 0, type := 0, pos := "disk.go:68", after := #[{ on := 5, ground := Ground.data }], guard := none }) (v := ?_) rfl (by kernel_rfl) (by kernel_rfl) (by kernel_rfl) (fun _ _ _ h => h) (Or.inl ⟨by rfl, ?_⟩) (by assumption) ?_
  rotate_left
  focus (intro w hSw; (try dsimp only at hSw); go_simp <;> with_reducible rfl)
  try simp only [Act.put, List.setIfInBounds_toArray, List.set_cons_zero, List.set_cons_succ]
  refine wpAnyH_take (i := 7) (oi := { dst := some 54, op := Op.load 68 (Operand.tmp 53), type := 68, pos := "disk.go:68", after := #[{ on := 6, ground := Ground.data }], guard := none }) (v := ?_) rfl (by kernel_rfl) (by kernel_rfl) (by kernel_rfl) (fun _ _ _ h => h) (Or.inl ⟨by rfl, ?_⟩) (by assumption) ?_
  rotate_left
  focus (intro w hSw; (try dsimp only at hSw); go_simp <;> with_reducible rfl)
  try simp only [Act.put, List.setIfInBounds_toArray, List.set_cons_zero, List.set_cons_succ]
  refine wpAnyH_take (i := 8) (oi := { dst := some 55, op := Op.fieldAddr 70 (Operand.tmp 6) 1, type := 0, pos := "disk.go:68", after := #[], guard := none }) (v := ?_) rfl (by kernel_rfl) (by kernel_rfl) (by kernel_rfl) (fun _ _ _ h => h) (Or.inl ⟨by rfl, ?_⟩) (by assumption) ?_
  rotate_left
  focus (intro w hSw; (try dsimp only at hSw); go_simp <;> with_reducible rfl)
  try simp only [Act.put, List.setIfInBounds_toArray, List.set_cons_zero, List.set_cons_succ]
  refine wpAnyH_take (i := 9) (oi := { dst := some 56, op := Op.load 33 (Operand.tmp 55), type := 33, pos := "disk.go:68", after := #[{ on := 8, ground := Ground.data }], guard := none }) (v := ?_) rfl (by kernel_rfl) (by kernel_rfl) (by kernel_rfl) (fun _ _ _ h => h) (Or.inl ⟨by rfl, ?_⟩) (by assumption) ?_
  rotate_left
  focus (intro w hSw; (try dsimp only at hSw); go_simp <;> with_reducible rfl)
  try simp only [Act.put, List.setIfInBounds_toArray, List.set_cons_zero, List.set_cons_succ]
  refine wpAnyH_take (i := 10) (oi := { dst := some 57, op := Op.indexAddr 68 (Operand.tmp 54) (Operand.tmp 56), type := 0, pos := "disk.go:68", after := #[{ on := 7, ground := Ground.data }, { on := 9, ground := Ground.data }], guard := none }) (v := ?_) rfl (by kernel_rfl) (by kernel_rfl) (by kernel_rfl) (fun _ _ _ h => h) (Or.inl ⟨by rfl, ?_⟩) (by assumption) ?_
  rotate_left
  focus (intro w hSw; (try dsimp only at hSw); go_simp <;> with_reducible rfl)
  try simp only [Act.put, List.setIfInBounds_toArray, List.set_cons_zero, List.set_cons_succ]
  refine wpAnyH_take (i := 11) (oi := { dst := some 58, op := Op.slice 113 (Operand.tmp 57) none none none, type := 22, pos := "disk.go:68", after := #[{ on := 10, ground := Ground.data }], guard := none }) (v := ?_) rfl (by kernel_rfl) (by kernel_rfl) (by kernel_rfl) (fun _ _ _ h => h) (Or.inl ⟨by rfl, ?_⟩) (by assumption) ?_
  rotate_left
  focus (intro w hSw; (try dsimp only at hSw); go_simp <;> with_reducible rfl)
  try simp only [Act.put, List.setIfInBounds_toArray, List.set_cons_zero, List.set_cons_succ]
  refine wpAnyH_ready (rs := [12]) (by kernel_rfl) (by simp) ?_
  refine AllReadyH.cons (o := { dst := some 59, op := Op.call { callee := Callee.value (Operand.func 66), args := #[Operand.tmp 48, Operand.tmp 50, Operand.tmp 58], argTypes := #[53, 33, 22] }, type := 4, pos := "disk.go:68", after := #[{ on := 1, ground := Ground.data }, { on := 3, ground := Ground.data }, { on := 11, ground := Ground.data }], guard := none }) rfl (fun K hK => ?_) AllReadyH.nil
  go_simp
  have hD2 := HY.out.1.keep0 hky
  have hl64 := blkOf_length HI.out.1 hg1
  have hrow2 : Row y2 (some ⟨g', off' + s.fr * 64, none⟩) 64 (blkOf s) := by
    have hi2 := HY.out.1.dv.ok
    have hdv := hD2.dv
    obtain ⟨ok2, q2, bl2, sc2, ou2, hi2, hF2⟩ := hdv
    have hc3 : y2.cell? ⟨b, 3, none⟩ = some bl2 := cell_of hi2.cs 3 rfl
    rw [hHeld.2.2] at hc3
    cases hc3
    exact disk_row HI.out.1 (by have h5 := hi2.hbl; rw [HX.out.2.1] at h5; exact h5) hg1
  have hFl := rfill_any hD2.mem s.to hto hrow2 (by simp; exact fun h => HX.out.2.2.1 h) (by rw [hl64]; omega)
  have hyes : layB (List.range n).length s.to (blkOf s).length 1 = true := layB_yes (by rw [hl64, List.length_range]; omega)
  rw [hl64] at hFl
  refine hFl.mono ?_
  rintro e z ⟨rfl, hz, hkz⟩
  rw [hyes, if_pos rfl, put_range hlen hl64 hg2 hg3] at hz
  rw [hyes]
  have hog : ob ≠ g := by have := HOB.out; have := H.out.mem.lt.2.2; omega
  have hbg : b ≠ g := fun e => H.out.ap.2.2 (e ▸ H.out.dv.mem)
  have hHeld1 : z.cell? ⟨ob, 1, none⟩ = some (.int .u32 s.fr) ∧ z.cell? ⟨ob, 2, none⟩ = some (.int .u32 s.to) ∧ z.cell? ⟨b, 3, none⟩ = some (.slice (some ⟨g', off', none⟩) nb bc) :=
    ⟨hkz.cell hHeld.1 (by simpa using hog), hkz.cell hHeld.2.1 (by simpa using hog), hkz.cell hHeld.2.2 (by simpa using hbg)⟩
  have HF : Hid (DM z b F { s with st := 0 } r fb g n (splice L s.to (blkOf s)) ∧ Keep (g :: F) w z) := Lib.hid (by
    refine ⟨⟨hD2.dv.keep hkz (fun k hk hm => by simp at hm; subst hm; exact H.out.ap.2.2 hk), hz, by rw [splice_len _ _ _ (by rw [hl64]; omega)]; exact hlen, H.out.ap⟩, ?_⟩
    exact ((HY.out.2.1.weaken (fun k hk _ => by simp [hk])).trans (hky.weaken (fun k hk => by cases hk))).trans (hkz.weaken (fun k hk _ => by simp at hk; simp [hk])))
  clear hz hkz hyes hFl hrow2 hD2 hky o0 o1 o2 p1 p2 hb3y hb3 hHeld
  go_wp2_with fail
  refine shut_grow _ hK (fun _ h => h) hHeld1 (fun hHeld => ?_)
  clear hK K hHeld1
  refine wpAnyH_take (i := 13) (oi := { dst := some 4, op := Op.assign (Operand.tmp 47), type := 3, pos := "disk.go:68", after := #[{ on := 0, ground := Ground.data }, { on := 12, ground := Ground.chain }, { on := 0, ground := Ground.phase }, { on := 1, ground := Ground.textOnly Departure.lateStores }, { on := 2, ground := Ground.textOnly Departure.lateStores }, { on := 3, ground := Ground.textOnly Departure.lateStores }, { on := 4, ground := Ground.textOnly Departure.lateStores }, { on := 5, ground := Ground.textOnly Departure.lateStores }, { on := 6, ground := Ground.textOnly Departure.lateStores }, { on := 7, ground := Ground.textOnly Departure.lateStores }, { on := 8, ground := Ground.textOnly Departure.lateStores }, { on := 9, ground := Ground.textOnly Departure.lateStores }, { on := 10, ground := Ground.textOnly Departure.lateStores }, { on := 11, ground := Ground.textOnly Departure.lateStoresUnsure }, { on := 12, ground := Ground.textOnly Departure.lateStoresUnsure }], guard := none }) (v := ?_) rfl (by kernel_rfl) (by kernel_rfl) (by kernel_rfl) (fun _ _ _ h => h) (Or.inl ⟨by rfl, ?_⟩) (by assumption) ?_
  rotate_left
  focus (intro w hSw; (try dsimp only at hSw); go_simp <;> with_reducible rfl)
  try simp only [Act.put, List.setIfInBounds_toArray, List.set_cons_zero, List.set_cons_succ]
  refine wpAnyH_take (i := 14) (oi := { dst := some 5, op := Op.assign (Operand.tmp 59), type := 4, pos := "disk.go:68", after := #[{ on := 12, ground := Ground.data }, { on := 13, ground := Ground.chain }, { on := 0, ground := Ground.phase }, { on := 1, ground := Ground.phase }, { on := 2, ground := Ground.phase }, { on := 3, ground := Ground.phase }, { on := 4, ground := Ground.phase }, { on := 5, ground := Ground.phase }, { on := 6, ground := Ground.phase }, { on := 7, ground := Ground.phase }, { on := 8, ground := Ground.phase }, { on := 9, ground := Ground.phase }, { on := 10, ground := Ground.phase }, { on := 11, ground := Ground.phase }, { on := 12, ground := Ground.phase }, { on := 13, ground := Ground.phase }], guard := none }) (v := ?_) rfl (by kernel_rfl) (by kernel_rfl) (by kernel_rfl) (fun _ _ _ h => h) (Or.inl ⟨by rfl, ?_⟩) (by assumption) ?_
  rotate_left
  focus (intro w hSw; (try dsimp only at hSw); go_simp <;> with_reducible rfl)
  try simp only [Act.put, List.setIfInBounds_toArray, List.set_cons_zero, List.set_cons_succ]
  refine wpAnyH_done (by kernel_rfl) ?_ _
  clear hHeld
  go_wp2_with fail
  go_ret2
  exact ⟨rfl, HF.out⟩

theorem splice_get {α : Type} {L M : List α} {p : Nat} (h : p + M.length ≤ L.length) (j : Nat) : (splice L p M)[j]? = if j < p then L[j]? else if j < p + M.length then M[j - p]? else L[j]? := by
  unfold splice
  have hp : (L.take p).length = p := by rw [List.length_take]; omega
  by_cases h1 : j < p
  · rw [if_pos h1, List.getElem?_append_left (by omega), List.getElem?_take_of_lt h1]
  · rw [if_neg h1, List.getElem?_append_right (by omega), hp]
    by_cases h2 : j < p + M.length
    · rw [if_pos h2, List.getElem?_append_left (by omega)]
    · rw [if_neg h2, List.getElem?_append_right (by omega), List.getElem?_drop]
      congr 1; omega

/-- A part of a slice is stored. -/
theorem _root_.Go.Mum.Buf.put {w : World} {e : TypeId} {sz g off n c k : Nat} {xs ys : List Value} (h : Buf w e sz (.slice (some ⟨g, off, none⟩) n c) n xs) (hk : k + ys.length ≤ xs.length) (h0 : 0 < n) :
    w.there g (off + k) ys.length ∧ Buf (w.setCells g (off + k) ys) e sz (.slice (some ⟨g, off, none⟩) n c) n (splice xs k ys) := by
  obtain ⟨hl, a', c', e1, h1, h2, h3⟩ := h
  injection e1 with e1 _ e3
  subst e1 e3
  rcases h3 with h3 | ⟨g', off', cur, e4, hg, h4, h5⟩
  · omega
  · injection e4 with e4
    injection e4 with e4 e5
    subst e4 e5
    have hnc : n * sz ≤ c * sz := Nat.mul_le_mul_right _ h1
    obtain ⟨cs', q1, q2, q3, q4, q5⟩ := heap_setCells_same ys (off + k) w cur hg (by omega)
    refine ⟨fun j hj => ⟨?_, frozen_of hg _⟩, by rw [length_splice _ _ _ hk]; exact hl, _, c, rfl, h1, h2, .inr ⟨g, off, cs', rfl, q1, by omega, fun j u hu => ?_⟩⟩
    · rw [cell_of hg (off + k + j) (v := cur[off + k + j]'(by omega)) (by simp [show off + k + j < cur.size by omega])]; rfl
    · rw [splice_get hk] at hu
      by_cases j1 : j < k
      · rw [if_pos j1] at hu
        rw [q3 _ (by omega)]; exact h5 j u hu
      · rw [if_neg j1] at hu
        by_cases j2 : j < k + ys.length
        · rw [if_pos j2] at hu
          have := q4 _ u hu
          rwa [show off + k + (j - k) = off + j by omega] at this
        · rw [if_neg j2] at hu
          rw [q5 _ (by omega)]; exact h5 j u hu

/-- A block of a disk is stored. -/
theorem disk_put {z : World} {b : Nat} {F : List Nat} {s : DS} {r fb g n : Nat} {L M : List Int} {g' off' nb bc : Nat} (ok : s.Ok) (h : DM z b F { s with st := 0 } r fb g n L) (hc : z.cell? ⟨b, 3, none⟩ = some (.slice (some ⟨g', off', none⟩) nb bc)) (hnb : nb = s.disk.length / 64) (hf : s.fr < s.disk.length / 64) (hM : M.length = 64) (hMb : IsBytes M) :
    z.there g' (off' + s.fr * 64) 64 ∧ DM (z.setCells g' (off' + s.fr * 64) (u8s M)) b F { s with st := 0, disk := splice s.disk (64 * s.fr) M } r fb g n L := by
  obtain ⟨⟨ok0, q, bl, sc, ou, hi, hF⟩, hmem, hlen, hap⟩ := h
  have hc3 : z.cell? ⟨b, 3, none⟩ = some bl := cell_of hi.cs 3 rfl
  rw [hc] at hc3
  cases hc3
  subst hnb
  have hd := ok.disk.2.2
  have hp := Buf.put hi.hbl (k := s.fr * 64) (ys := u8s M) (by rw [u8s_length, u8s_length]; show s.fr * 64 + M.length ≤ s.disk.length; omega) (by show 0 < s.disk.length / 64; omega)
  have hbc : bc ≠ 0 := by
    obtain ⟨_, a', c2, e1, h2, _⟩ := hi.hbl
    injection e1 with _ _ e3
    subst e3
    have : s.disk.length / 64 ≤ bc := h2
    omega
  have hblk : blk (.slice (some ⟨g', off', none⟩) (s.disk.length / 64) bc) = [g'] := by simp [blk, hbc]
  have hgF : g' ∈ F := by rw [hF, hblk]; simp
  have kz : Keep [g'] z (z.setCells g' (off' + s.fr * 64) (u8s M)) := keep_setCells (by simp) _ _ _ (Keep.refl _ _)
  have hsl : (splice s.disk (64 * s.fr) M).length = s.disk.length := length_splice _ _ _ (by rw [hM]; omega)
  have nd := hi.nodup
  rw [hblk] at nd
  have n1 := fun (i : Nat) (hi : i < 5) (hne : i ≠ 2) k hk (hm : k ∈ [g']) => nd.get (i := i) (j := 2) hi (by simp) hne k hk hm
  have ne : ∀ k, k ∉ F → k ∉ [g'] := fun k hk hm => by simp at hm; subst hm; exact hk hgF
  refine ⟨by have := hp.1; rwa [u8s_length, hM] at this, ⟨⟨⟨ok.bits, ok.mask, ok.queue, ⟨?_, by show (splice s.disk (64 * s.fr) M).length ≤ 2048 ∧ _; rw [hsl]; exact ok.disk.2⟩, ok.bk, ok.ad, Nat.zero_le _, ok.kd, ok.fr, ok.to, ok.script, ok.out⟩, q, .slice (some ⟨g', off', none⟩) (s.disk.length / 64) bc, sc, ou, ⟨?_, ?_, ?_, ?_, ?_, hi.nodup⟩, hF⟩, hmem.keep kz (ne _ hap.1) (ne _ hap.2.1) (ne _ hap.2.2), hlen, hap⟩⟩
  · exact splice_bytes ok.disk.1 hMb
  · exact kz.heap hi.cs (fun hm => n1 0 (by omega) (by omega) b (by simp) hm)
  · exact hi.hq.keep kz (n1 1 (by omega) (by omega))
  · have h5 := hp.2
    show Buf _ _ _ _ ((splice s.disk (64 * s.fr) M).length / 64) (u8s (splice s.disk (64 * s.fr) M))
    rw [hsl, u8s_splice, Nat.mul_comm 64 s.fr]
    exact h5
  · exact hi.hsc.keep kz (n1 3 (by omega) (by omega))
  · exact hi.hou.keep kz (n1 4 (by omega) (by omega))

set_option maxHeartbeats 4000000 in
theorem done_two {w : World} {b : Nat} {F : List Nat} {s : DS} {r fb g n : Nat} {L : List Int} (h : DM w b F s r fb g n L) (hg : goodN s n) (hkd : s.kd ≠ 1) :
    Calls Try.prog 41 #[.pointer (some ⟨b, 3, none⟩), .pointer (some ⟨r, 0, none⟩)] w fun e w' => e = .returned (.tuple #[.int .i64 0, .bool false]) ∧
      DM w' b F { s with st := 0, disk := splice s.disk (64 * s.fr) ((L.drop s.to).take 64) } r fb g n L ∧ Keep F w w' := by
  have H := Lib.hid h
  obtain ⟨⟨ok, q, bl, sc, ou, hi, hF⟩, hmem, hlen, hap⟩ := h
  obtain ⟨ba, bc, rfl, hb1, hb2⟩ := hi.hbl.shape
  obtain ⟨hg1, hg2, hg3⟩ := hg
  obtain ⟨g', off', c', ea, _, hcell⟩ := hi.hbl.cells (by omega)
  injection ea with ea _ ec
  subst ea ec
  have hrow := disk_row ok hi.hbl hg1
  have hbl0 := hi.hbl
  have hgF : g' ∈ F := by
    obtain ⟨_, a', c2, e1, h2, h3, h4⟩ := hbl0
    injection e1 with e1 _ e3
    subst e3
    rw [hF]
    have : bc ≠ 0 := (by omega)
    simp [blk, this]
  have hgg : g' ≠ g := fun e => hap.2.2 (e ▸ hgF)
  have hgb : g' ≠ b := fun e => hi.nodup.get (i := 2) (j := 0) (by simp) (by simp) (by omega) g' (by have : bc ≠ 0 := (by omega); simp [blk, this]) (by simp [e])
  obtain ⟨nb, hnbe⟩ : ∃ nb, nb = s.disk.length / 64 := ⟨_, rfl⟩
  have hnb : nb ≤ 32 := by have := ok.disk.2.1; omega
  have e3 : w.cell? ⟨b, 3, none⟩ = some (.slice (some ⟨g', off', none⟩) nb bc) := by rw [hnbe]; exact cell_of hi.cs 3 rfl
  have e6 : w.cell? ⟨b, 6, none⟩ = some (.int .u32 s.st) := cell_of hi.cs 6 rfl
  have e7 : w.cell? ⟨b, 7, none⟩ = some (.int .u32 s.kd) := cell_of hi.cs 7 rfl
  have K1 : ((s.kd : Int) == 1) = false := by simp; omega
  have e8 : w.cell? ⟨b, 8, none⟩ = some (.int .u32 s.fr) := cell_of hi.cs 8 rfl
  have e9 : w.cell? ⟨b, 9, none⟩ = some (.int .u32 s.to) := cell_of hi.cs 9 rfl
  have fz := frozen_of hi.cs
  have l2 : IntKind.u32.wrap (nb : Int) = (nb : Int) := by rw [IntKind.wrap_u32]; omega
  have hto := ok.to
  have hbig : 64 * n < 4294967296 := by have := hmem.size; simp at this; omega
  have m2 : IntKind.u32.wrap ((s.to : Int).tmod 64) = 0 := by rw [Int.tmod_eq_emod_of_nonneg (by omega), IntKind.wrap_u32]; omega
  have td : (s.to : Int).tmod 64 = (s.to : Int) % 64 := Int.tmod_eq_emod_of_nonneg (by omega)
  have T2 : ((s.to : Int) % 64 != 0) = false := by simp; omega
  have T2' : ((s.to : Int) % 64 == 0) = true := by simp; omega
  have td2 : (s.to : Int).tdiv 64 = ((s.to / 64 : Nat) : Int) := by rw [Int.tdiv_eq_ediv_of_nonneg (by omega)]; omega
  have m3 : IntKind.u32.wrap ((s.to : Int).tdiv 64) = ((s.to / 64 : Nat) : Int) := by rw [Int.tdiv_eq_ediv_of_nonneg (by omega), IntKind.wrap_u32]; omega
  have m4 : IntKind.i64.wrap ((s.to / 64 : Nat) : Int) = ((s.to / 64 : Nat) : Int) := by rw [IntKind.wrap_i64]; omega
  have T1 : decide ((nb : Int) ≤ (s.fr : Int)) = false := decide_eq_false (by omega)
  have T1' : ¬ nb ≤ s.fr := by omega
  have T3 : decide (64 * (n : Int) ≤ (s.to : Int)) = false := decide_eq_false (by omega)
  have T3' : ¬ 64 * n ≤ s.to := by omega
  have hfrn : s.fr < nb := by omega
  have Z := Lib.hid (fun x (hk : Keep [] w x) => rsize_any (hmem.keep0 hk).sz)
  have Z1 := fun o k => Z.out _ (((Keep.refl [] w).alloc o).drewN k)
  have ho : ∀ o : Obj, (w.alloc o).cell? ⟨b, 3, none⟩ = some (.slice (some ⟨g', off', none⟩) nb bc) := fun o => ((Keep.refl [] w).alloc o).cell e3 (by simp)
  have ho6 : ∀ o : Obj, (w.alloc o).cell? ⟨b, 6, none⟩ = some (.int .u32 s.st) := fun o => ((Keep.refl [] w).alloc o).cell e6 (by simp)
  have hfz : ∀ (o : Obj) (i : Nat), (w.alloc o).frozen? ⟨b, i, none⟩ = false := fun o i => frozen_of (heap_alloc_other o hi.cs) i
  have HI := Lib.hid (And.intro ok (And.intro hi hrow))
  have HX := Lib.hid (And.intro hF (And.intro hnbe (And.intro hgg hgb)))
  clear hi ok hrow hbl0 hcell hmem hF hnbe
  go_enter Try.func41, Try.ntmps41
  go_wp2
  go_quiet ((go_at_call 54; exact quiet_same (by simpa using Z1 _ _)))
  go_wp2
  have HY := Lib.hid (done_mid H.out (.cells #[.int .u32 s.kd, .int .u32 s.fr, .int .u32 s.to] 70) nq)
  have oB : ∃ o, o = w.heap.size := ⟨_, rfl⟩
  obtain ⟨ob, hob⟩ := oB
  have hO : (((w.alloc (.cells #[.int .u32 s.kd, .int .u32 s.fr, .int .u32 s.to] 70)).drewN nq).setCell ⟨b, 6, none⟩ (.int .u32 0)).heap[ob]? = some (.cells #[.int .u32 s.kd, .int .u32 s.fr, .int .u32 s.to] 70 (0, 0)) := by
    have hlt := lt_of_heap HI.out.2.1.cs
    rw [heap_set_other (by omega)]
    exact heap_alloc_at _ hob
  rw [← hob]
  have HOB := Lib.hid hob
  clear hob
  generalize ((w.alloc (.cells #[.int .u32 s.kd, .int .u32 s.fr, .int .u32 s.to] 70)).drewN nq).setCell ⟨b, 6, none⟩ (.int .u32 0) = y at HY hO ⊢
  clear e3 e6 e7 e8 e9 fz ho ho6 hfz Z Z1
  have o0 : y.drew.cell? ⟨ob, 0, none⟩ = some (.int .u32 s.kd) := cell_of hO 0 rfl
  have o1 : y.drew.cell? ⟨ob, 1, none⟩ = some (.int .u32 s.fr) := cell_of hO 1 rfl
  have o2 : y.drew.cell? ⟨ob, 2, none⟩ = some (.int .u32 s.to) := cell_of hO 2 rfl
  have p1 : y.cell? ⟨ob, 1, none⟩ = some (.int .u32 s.fr) := o1
  have p2 : y.cell? ⟨ob, 2, none⟩ = some (.int .u32 s.to) := o2
  have hb3y : y.drew.cell? ⟨b, 3, none⟩ = some (.slice (some ⟨g', off', none⟩) nb bc) := HY.out.2.2 3 (by omega) _ (by rw [HX.out.2.1]; exact cell_of HI.out.2.1.cs 3 rfl)
  have hb3 : y.cell? ⟨b, 3, none⟩ = some (.slice (some ⟨g', off', none⟩) nb bc) := hb3y
  refine wp_region_held_drew (S := fun z => z.cell? ⟨ob, 1, none⟩ = some (.int .u32 s.fr) ∧ z.cell? ⟨ob, 2, none⟩ = some (.int .u32 s.to) ∧ z.cell? ⟨b, 3, none⟩ = some (.slice (some ⟨g', off', none⟩) nb bc)) (by kernel_rfl) ⟨o1, o2, hb3y⟩ (fun hHeld => ?_)
  have hky : Keep [] y y.drew := (Keep.refl [] _).drew
  generalize World.drew y = y2 at hHeld hky ⊢
  have hD2 := HY.out.1.keep0 hky
  have HKK := Lib.hid (show (s.to : Int) / 64 = ((s.to / 64 : Nat) : Int) by omega)
  skip
  refine wpAnyH_take (i := 0) (oi := { dst := some 60, op := Op.move (Operand.tmp 0), type := 118, pos := "disk.go:70", after := #[], guard := none }) (v := ?_) rfl (by kernel_rfl) (by kernel_rfl) (by kernel_rfl) (fun _ _ _ h => h) (Or.inl ⟨by rfl, ?_⟩) (by assumption) ?_
  rotate_left
  focus (intro w hSw; (try dsimp only at hSw); go_simp <;> with_reducible rfl)
  try simp only [Act.put, List.setIfInBounds_toArray, List.set_cons_zero, List.set_cons_succ]
  refine wpAnyH_take (i := 1) (oi := { dst := some 61, op := Op.nilCheck (Operand.tmp 60), type := 0, pos := "disk.go:70", after := #[{ on := 0, ground := Ground.data }], guard := none }) (v := ?_) rfl (by kernel_rfl) (by kernel_rfl) (by kernel_rfl) (fun _ _ _ h => h) (Or.inl ⟨by rfl, ?_⟩) (by assumption) ?_
  rotate_left
  focus (intro w hSw; (try dsimp only at hSw); go_simp <;> with_reducible rfl)
  try simp only [Act.put, List.setIfInBounds_toArray, List.set_cons_zero, List.set_cons_succ]
  refine wpAnyH_take (i := 2) (oi := { dst := some 62, op := Op.fieldAddr 72 (Operand.tmp 61) 0, type := 0, pos := "disk.go:70", after := #[{ on := 1, ground := Ground.data }], guard := none }) (v := ?_) rfl (by kernel_rfl) (by kernel_rfl) (by kernel_rfl) (fun _ _ _ h => h) (Or.inl ⟨by rfl, ?_⟩) (by assumption) ?_
  rotate_left
  focus (intro w hSw; (try dsimp only at hSw); go_simp <;> with_reducible rfl)
  try simp only [Act.put, List.setIfInBounds_toArray, List.set_cons_zero, List.set_cons_succ]
  refine wpAnyH_take (i := 3) (oi := { dst := some 63, op := Op.load 68 (Operand.tmp 62), type := 68, pos := "disk.go:70", after := #[{ on := 2, ground := Ground.data }], guard := none }) (v := ?_) rfl (by kernel_rfl) (by kernel_rfl) (by kernel_rfl) (fun _ _ _ h => h) (Or.inl ⟨by rfl, ?_⟩) (by assumption) ?_
  rotate_left
  focus (intro w hSw; (try dsimp only at hSw); go_simp <;> with_reducible rfl)
  try simp only [Act.put, List.setIfInBounds_toArray, List.set_cons_zero, List.set_cons_succ]
  refine wpAnyH_take (i := 4) (oi := { dst := some 64, op := Op.fieldAddr 70 (Operand.tmp 6) 1, type := 0, pos := "disk.go:70", after := #[], guard := none }) (v := ?_) rfl (by kernel_rfl) (by kernel_rfl) (by kernel_rfl) (fun _ _ _ h => h) (Or.inl ⟨by rfl, ?_⟩) (by assumption) ?_
  rotate_left
  focus (intro w hSw; (try dsimp only at hSw); go_simp <;> with_reducible rfl)
  try simp only [Act.put, List.setIfInBounds_toArray, List.set_cons_zero, List.set_cons_succ]
  refine wpAnyH_take (i := 5) (oi := { dst := some 65, op := Op.load 33 (Operand.tmp 64), type := 33, pos := "disk.go:70", after := #[{ on := 4, ground := Ground.data }], guard := none }) (v := ?_) rfl (by kernel_rfl) (by kernel_rfl) (by kernel_rfl) (fun _ _ _ h => h) (Or.inl ⟨by rfl, ?_⟩) (by assumption) ?_
  rotate_left
  focus (intro w hSw; (try dsimp only at hSw); go_simp <;> with_reducible rfl)
  try simp only [Act.put, List.setIfInBounds_toArray, List.set_cons_zero, List.set_cons_succ]
  refine wpAnyH_take (i := 6) (oi := { dst := some 66, op := Op.move (Operand.tmp 1), type := 53, pos := "disk.go:70", after := #[], guard := none }) (v := ?_) rfl (by kernel_rfl) (by kernel_rfl) (by kernel_rfl) (fun _ _ _ h => h) (Or.inl ⟨by rfl, ?_⟩) (by assumption) ?_
  rotate_left
  focus (intro w hSw; (try dsimp only at hSw); go_simp <;> with_reducible rfl)
  try simp only [Act.put, List.setIfInBounds_toArray, List.set_cons_zero, List.set_cons_succ]
  refine wpAnyH_take (i := 7) (oi := { dst := some 67, op := Op.move (Operand.tmp 7), type := 3, pos := "disk.go:70", after := #[], guard := none }) (v := ?_) rfl (by kernel_rfl) (by kernel_rfl) (by kernel_rfl) (fun _ _ _ h => h) (Or.inl ⟨by rfl, ?_⟩) (by assumption) ?_
  rotate_left
  focus (intro w hSw; (try dsimp only at hSw); go_simp <;> with_reducible rfl)
  try simp only [Act.put, List.setIfInBounds_toArray, List.set_cons_zero, List.set_cons_succ]
  refine wpAnyH_ready (rs := [8]) (by kernel_rfl) (by simp) ?_
  refine AllReadyH.cons (o := { dst := some 68, op := Op.call { callee := Callee.value (Operand.func 24), args := #[Operand.tmp 66, Operand.tmp 67], argTypes := #[53, 3] }, type := 22, pos := "disk.go:70", after := #[{ on := 6, ground := Ground.data }, { on := 7, ground := Ground.data }], guard := none }) rfl (fun K hK => ?_) AllReadyH.nil
  go_simp
  rw [HKK.out]
  refine (rframe_yes hD2.mem (s.to / 64) (by rw [List.length_range]; omega)).mono ?_
  rintro e z ⟨v, rfl, hown, hkz⟩
  rw [frameOf_range L (by omega), show 64 * (s.to / 64) = s.to by omega] at hown
  obtain ⟨M, hM⟩ : ∃ M, M = (L.drop s.to).take 64 := ⟨_, rfl⟩
  have hMl : M.length = 64 := by rw [hM, List.length_take, List.length_drop]; omega
  rw [← hM] at hown
  have HM := Lib.hid hM
  clear hM
  obtain ⟨va, vc, rfl, hrow⟩ := hown.shape
  have hvb := hown.block
  rw [hMl]
  obtain ⟨vb, voff, rfl⟩ := hrow.some_of (by omega)
  have hvb' : y2.heap.size ≤ vb := (hvb vb rfl).1
  have hMb := hrow.bytes
  have hrange : z.rangeAt vb voff (u8s M) := by
    have h5 := hrow.rd
    intro j u hu
    rcases h5.at' with h0 | ⟨b', off2, e', hc⟩
    · omega
    · cases e'; exact hc j u hu
  have HZ := Lib.hid (And.intro (hD2.keep0 hkz) (hky.trans hkz))
  have hHeld1 : (z.cell? ⟨ob, 1, none⟩ = some (.int .u32 s.fr) ∧ z.cell? ⟨ob, 2, none⟩ = some (.int .u32 s.to) ∧ z.cell? ⟨b, 3, none⟩ = some (.slice (some ⟨g', off', none⟩) nb bc)) ∧ z.rangeAt vb voff (u8s M) :=
    ⟨⟨hkz.cell hHeld.1 (by simp), hkz.cell hHeld.2.1 (by simp), hkz.cell hHeld.2.2 (by simp)⟩, hrange⟩
  have hlz := lt_of_heap (hky.heap hO (by simp))
  have hgw : g' < w.heap.size := H.out.dv.lt g' hgF
  have hobw := HOB.out
  have hbw : b < w.heap.size := H.out.dv.lt b H.out.dv.mem
  have hat : ∀ w, (Instr.arrayAt 113 (.slice (some ⟨vb, voff, none⟩) 64 vc)).run Try.prog w = .ok (.pointer (some ⟨vb, voff, none⟩)) w := fun w => run_arrayAt w _ _ 64 _ 64 vc Try.underlying113 (Nat.le_refl _)
  have hul : (u8s M).length = 64 := by rw [u8s_length]; exact hMl
  clear hown hrow hkz hrange hD2 hky o0 o1 o2 p1 p2 hb3y hb3 hHeld hvb
  go_wp2_with fail
  refine shut_grow (fun z => (z.cell? ⟨ob, 1, none⟩ = some (.int .u32 s.fr) ∧ z.cell? ⟨ob, 2, none⟩ = some (.int .u32 s.to) ∧ z.cell? ⟨b, 3, none⟩ = some (.slice (some ⟨g', off', none⟩) nb bc)) ∧ z.rangeAt vb voff (u8s M)) hK (fun _ h => h.1) hHeld1 (fun hHeld => ?_)
  clear hK K
  refine wpAnyH_take (i := 9) (oi := { dst := some 69, op := Op.sliceToArrayPointer 113 (Operand.tmp 68), type := 0, pos := "disk.go:70", after := #[{ on := 8, ground := Ground.data }], guard := none }) (v := ?_) rfl (by kernel_rfl) (by kernel_rfl) (by kernel_rfl) (fun _ _ _ h => h) (Or.inl ⟨by rfl, ?_⟩) (by assumption) ?_
  rotate_left
  focus (intro w hSw; (try dsimp only at hSw); go_simp <;> with_reducible rfl)
  try simp only [Act.put, List.setIfInBounds_toArray, List.set_cons_zero, List.set_cons_succ]
  refine wpAnyH_take (i := 10) (oi := { dst := some 70, op := Op.load 113 (Operand.tmp 69), type := 113, pos := "disk.go:70", after := #[{ on := 9, ground := Ground.data }], guard := none }) (v := _) rfl (by kernel_rfl) (by kernel_rfl) (by kernel_rfl) (fun _ _ _ h => h) (yieldsIf_load_mid (by rfl) 113 (.tmp 69) rfl vb voff rfl (u8s M) _ (fun _ h => h.2) Try.underlying113 rfl (by rw [hul]; exact info_block)) (by assumption) ?_
  try simp only [Act.put, List.setIfInBounds_toArray, List.set_cons_zero, List.set_cons_succ]
  refine wpAnyH_take (i := 11) (oi := { dst := some 71, op := Op.indexAddr 68 (Operand.tmp 63) (Operand.tmp 65), type := 0, pos := "disk.go:70", after := #[{ on := 3, ground := Ground.data }, { on := 5, ground := Ground.data }, { on := 0, ground := Ground.phase }, { on := 1, ground := Ground.phase }, { on := 2, ground := Ground.phase }, { on := 3, ground := Ground.phase }, { on := 4, ground := Ground.phase }, { on := 5, ground := Ground.phase }, { on := 6, ground := Ground.phase }, { on := 7, ground := Ground.phase }, { on := 8, ground := Ground.phase }, { on := 9, ground := Ground.phase }, { on := 10, ground := Ground.phase }], guard := none }) (v := ?_) rfl (by kernel_rfl) (by kernel_rfl) (by kernel_rfl) (fun _ _ _ h => h) (Or.inl ⟨by rfl, ?_⟩) (by assumption) ?_
  rotate_left
  focus (intro w hSw; (try dsimp only at hSw); go_simp <;> with_reducible rfl)
  try simp only [Act.put, List.setIfInBounds_toArray, List.set_cons_zero, List.set_cons_succ]
  refine wpAnyH_ready (rs := [12]) (by kernel_rfl) (by simp) ?_
  refine AllReadyH.cons (o := { dst := none, op := Op.store 113 (Operand.tmp 71) (Operand.tmp 70), type := 0, pos := "disk.go:70", after := #[{ on := 11, ground := Ground.data }, { on := 10, ground := Ground.data }, { on := 8, ground := Ground.chain }, { on := 0, ground := Ground.phase }, { on := 1, ground := Ground.phase }, { on := 2, ground := Ground.phase }, { on := 3, ground := Ground.phase }, { on := 4, ground := Ground.phase }, { on := 5, ground := Ground.phase }, { on := 6, ground := Ground.phase }, { on := 7, ground := Ground.phase }, { on := 8, ground := Ground.phase }, { on := 9, ground := Ground.phase }, { on := 10, ground := Ground.phase }], guard := none }) rfl (fun K hK => ?_) AllReadyH.nil
  rw [if_pos (by rfl)]
  have hput := disk_put HI.out.1 HZ.out.1 hHeld1.1.2.2 (by rw [HX.out.2.1]) hg1 hMl hMb
  refine wp_store_mid 113 (.tmp 71) (.tmp 70) (by rfl) g' (off' + s.fr * 64) (u8s M).toArray (by rfl) (by rfl) (by rw [List.size_toArray, hul]; exact hput.1) (by simp only [List.size_toArray, hul]; exact info_block) (all_oneCell_toArray (u8s_one _)) ?_
  have kz : Keep [g'] z (z.setCells g' (off' + s.fr * 64) (u8s M).toArray.toList) := keep_setCells (by simp) _ _ _ (Keep.refl _ _)
  have hDz : DM (z.setCells g' (off' + s.fr * 64) (u8s M).toArray.toList) b F { s with st := 0, disk := splice s.disk (64 * s.fr) M } r fb g n L := hput.2
  generalize z.setCells g' (off' + s.fr * 64) (u8s M).toArray.toList = z2 at kz hDz ⊢
  have HF : Hid (DM z2 b F { s with st := 0, disk := splice s.disk (64 * s.fr) M } r fb g n L ∧ Keep F w z2) := Lib.hid ⟨hDz, (HY.out.2.1.trans (HZ.out.2.weaken (fun k hk => by cases hk))).trans (kz.weaken (fun k hk _ => by simp at hk; rw [hk]; exact hgF))⟩
  have hHeld2 : (z2.cell? ⟨ob, 1, none⟩ = some (.int .u32 s.fr) ∧ z2.cell? ⟨ob, 2, none⟩ = some (.int .u32 s.to) ∧ z2.cell? ⟨b, 3, none⟩ = some (.slice (some ⟨g', off', none⟩) nb bc)) ∧ z2.rangeAt vb voff (u8s M) :=
    ⟨⟨kz.cell hHeld1.1.1 (by simp; omega), kz.cell hHeld1.1.2.1 (by simp; omega), kz.cell hHeld1.1.2.2 (by simp; exact fun h => HX.out.2.2.2 h.symm)⟩, rangeAt_keep hHeld1.2 kz (by simp; omega)⟩
  refine shut_grow _ hK (fun _ h => h) hHeld2 (fun hHeld => ?_)
  clear hK K hHeld1 hHeld2 hput kz hDz
  refine wpAnyH_done (by kernel_rfl) ?_ _
  clear hHeld
  go_wp2_with fail
  go_ret2
  have hfin := HF.out
  rw [HM.out] at hfin
  exact ⟨rfl, hfin⟩

end Go.Proofs.Ytgeakpeaohggoaa
