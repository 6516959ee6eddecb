/- Contracts of the functions that the law reaches, walked, and the plain laws on them (several texts in one). -/
import Derived.Test.YtpinoejckagjbaaM38

/- The program's spaces: whether a frame is wanted. -/
namespace Go.Proofs.Ytpinoejckagjbaa
open Go.RowKit Go.Mum
set_option linter.unusedVariables false
set_option linter.unusedSimpArgs false
set_option maxRecDepth 100000

theorem MInv.lent_le {most ns : Nat} {T : Nat → Nat → Tab} {up : Nat → Bool} {L lent : List Int} (h : MInv most ns T up L lent) : lent.length ≤ most := by
  have := nodup_le_int lent ((List.range most).map fun j : Nat => (40 : Int) + (j : Int)) h.lnd (fun z hz => by
    obtain ⟨k, n, hk, hn, ht, rfl⟩ := (h.lnt z).1 hz
    obtain ⟨h1, h2⟩ := h.frm k hk n hn ht
    rw [List.mem_map]
    exact ⟨(T k n).fr - 40, by rw [List.mem_range]; omega, by omega⟩)
  simpa using this

/-- Is it for want of a frame that a page can't be put? -/
def wantB (T : Nat → Nat → Tab) (up : Nat → Bool) (most : Nat) (lent : List Int) (n va : Nat) (frame : Int) : Bool :=
  decide (va / 1024 < 32 ∧ ¬ (16384 ≤ va ∧ up n = true) ∧ 0 ≤ frame ∧ frame < 60) && (decide (lent.length = most) && !hasB (T n) va)

def CopyAt (x : World) (b : Nat) (v0 v1 v2 v3 v4 : Value) : Prop := x.heap[b]? = some (.cells #[v0, v1, v2, v3, v4] 94 (0, 0))

theorem CopyAt.put {w : World} {b : Nat} {v0 v1 v2 v3 v4 : Value} (h : CopyAt w b v0 v1 v2 v3 v4) (u0 u1 u2 u3 u4 : Value) : CopyAt (((((w.setCell ⟨b, 0, none⟩ u0).setCell ⟨b, 1, none⟩ u1).setCell ⟨b, 2, none⟩ u2).setCell ⟨b, 3, none⟩ u3).setCell ⟨b, 4, none⟩ u4) b u0 u1 u2 u3 u4 :=
  heap_set_same (heap_set_same (heap_set_same (heap_set_same (heap_set_same h 0 u0) 1 u1) 2 u2) 3 u3) 4 u4

theorem CopyAt.facts {w : World} {b : Nat} {v0 v1 v2 v3 v4 : Value} (h : CopyAt w b v0 v1 v2 v3 v4) : (w.cell? ⟨b, 0, none⟩ = some v0 ∧ w.cell? ⟨b, 1, none⟩ = some v1 ∧ w.cell? ⟨b, 2, none⟩ = some v2 ∧ w.cell? ⟨b, 3, none⟩ = some v3 ∧ w.cell? ⟨b, 4, none⟩ = some v4) ∧ (w.frozen? ⟨b, 0, none⟩ = false ∧ w.frozen? ⟨b, 1, none⟩ = false ∧ w.frozen? ⟨b, 2, none⟩ = false ∧ w.frozen? ⟨b, 3, none⟩ = false ∧ w.frozen? ⟨b, 4, none⟩ = false) :=
  ⟨⟨cell_of h 0 rfl, cell_of h 1 rfl, cell_of h 2 rfl, cell_of h 3 rfl, cell_of h 4 rfl⟩, ⟨frozen_of h 0, frozen_of h 1, frozen_of h 2, frozen_of h 3, frozen_of h 4⟩⟩

theorem CopyAt.keep {w z : World} {b : Nat} {v0 v1 v2 v3 v4 : Value} (h : CopyAt w b v0 v1 v2 v3 v4) (hk : Keep [] w z) : CopyAt z b v0 v1 v2 v3 v4 := hk.heap h (by simp)

theorem copy_keep {x w : World} {b : Nat} (hk : Keep [] x w) (hb : x.heap.size ≤ b) (u0 u1 u2 u3 u4 : Value) : Keep [] x (((((w.setCell ⟨b, 0, none⟩ u0).setCell ⟨b, 1, none⟩ u1).setCell ⟨b, 2, none⟩ u2).setCell ⟨b, 3, none⟩ u3).setCell ⟨b, 4, none⟩ u4) :=
  ((((hk.setCell (.inr hb) u0).setCell (.inr hb) u1).setCell (.inr hb) u2).setCell (.inr hb) u3).setCell (.inr hb) u4

section
variable {x y : World} {q r fb g p pm most ns : Nat} {sh : Nat → Nat} {uv : Nat → Value} {T : Nat → Nat → Tab} {up : Nat → Bool} {L lent : List Int} {c : Nat} {A : QSt} {age : List Nat} {use : Bool} {kept lost : Nat} {f : Nat → Value} {ga gc : Nat} {ea : Option Addr} {ec : Nat}

set_option maxHeartbeats 8000000 in
theorem wants_at (h : SpAt x q r fb g p pm most ns sh uv T up L lent c A age true kept lost f ga gc ea ec) {i : Nat} (hi : i + 1 = age.length) (va : Nat) (frame : Int) (hv : va < 4294967296) (hf1 : -9223372036854775808 ≤ frame) (hf2 : frame ≤ 9223372036854775807) :
    Calls Try.prog 66 #[.pointer (some ⟨q, 0, none⟩), .int .u32 va, .int .i64 frame] x fun e y => e = .returned (.bool (wantB T up most lent (age[i]'(by omega)) va frame)) ∧ Keep [] x y := by
  have hil : i < age.length := by omega
  have hnl := h.qq.lt _ (List.getElem_mem hil)
  have CN := Lib.hid (fun u (hu : Keep [] x u) => now_at (h.qq.keep0 hu) hi)
  obtain ⟨c0, c1, c2, -, c4, -⟩ := h.qq.cells
  have hns8 := h.qq.ns8
  obtain ⟨n, hn⟩ : ∃ n, n = age[i] := ⟨_, rfl⟩
  rw [← hn] at hnl CN ⊢
  obtain ⟨q0, q1, q2, q3, q4⟩ := h.qq.space (k := n) (by omega)
  rw [if_pos hnl] at q0
  rw [h.us n hnl] at q2
  have CH : Hid (∀ u, Keep [] x u → Calls Try.prog 26 #[.pointer (some ⟨sh n, 0, none⟩), .int .u32 va] u fun e y => e = .returned (.bool (hasB (T n) va)) ∧ u = y) := Lib.hid (fun u hu => uhas_at ((h.m.shs n hnl).keep hu (by simp)) va hv)
  have CS : Hid (∀ u, Keep [] x u → Calls Try.prog 50 #[.pointer (some ⟨r, 0, none⟩)] u fun e y => e = .returned (.int .u32 3840) ∧ u = y) := Lib.hid (fun u hu => by
    have := rsize_any (h.m.keep0 hu).ram.sz
    simpa using this)
  have CL : Hid (∀ u, Keep [] x u → Calls Try.prog 24 #[.pointer (some ⟨p, 0, none⟩)] u fun e y => e = .returned (.int .i64 ((most : Int) - (lent.length : Nat))) ∧ ∃ m, y = u.drewN m) := Lib.hid (fun u hu => by
    obtain ⟨tk, sn, hp, -⟩ := (h.m.keep0 hu).pool
    have := h.m.inv.lent_le
    have := h.m.inv.mst
    exact pleft_at hp (by omega) (by omega) (by omega))
  have hle := h.m.inv.lent_le
  have hm9 := h.m.inv.mst
  have hn0 : (0 : Int) ≤ (n : Int) := by omega
  have hn8 : (n : Int) < 8 := by omega
  have HWB : Hid (wantB T up most lent n va frame = (decide (va / 1024 < 32 ∧ ¬ (16384 ≤ va ∧ up n = true) ∧ 0 ≤ frame ∧ frame < 60) && (decide (lent.length = most) && !hasB (T n) va))) := Lib.hid rfl
  generalize wantB T up most lent n va frame = wb at HWB ⊢
  generalize hasB (T n) va = hb at CH HWB
  generalize lent.length = ll at CL HWB hle
  clear h hi hil hn hnl hns8
  go_enter Try.func66, Try.ntmps66
  go_wp2_with fail
  generalize hun : up n = un at q2 HWB
  refine wp_region_held_drew (S := fun u => (u.cell? ⟨q, 3 + n * 5, none⟩ = some (.pointer (some ⟨sh n, 0, none⟩)) ∧ u.cell? ⟨q, 3 + n * 5 + 1, none⟩ = some (.bool (A.tk n)) ∧ u.cell? ⟨q, 3 + n * 5 + 2, none⟩ = some (.bool un) ∧ u.cell? ⟨q, 3 + n * 5 + 3, none⟩ = some (.int .u32 (A.kp n : Nat)) ∧ u.cell? ⟨q, 3 + n * 5 + 4, none⟩ = some (.int .u32 (A.kr n : Nat))) ∧ Keep [] x u) (by kernel_rfl) ⟨⟨q0, q1, q2, q3, q4⟩, (Keep.refl [] x).drew⟩ (fun hHeld => ?_)
  skip
  generalize World.drew x = x2 at hHeld ⊢
  refine wpAnyH_take (i := 0) (oi := { dst := some 8, op := Op.move (Operand.tmp 0), type := 75, pos := "spaces.go:122", after := #[], guard := none }) (v := ?_) rfl (by kernel_rfl) (by kernel_rfl) (by kernel_rfl) (fun _ _ _ h => h) (Or.inl ⟨by rfl, ?_⟩) (by assumption) ?_
  rotate_left
  focus (intro w hSw; (try dsimp only at hSw); go_simp <;> with_reducible rfl)
  try simp only [Act.put, List.setIfInBounds_toArray, List.set_cons_zero, List.set_cons_succ]
  refine wpAnyH_take (i := 1) (oi := { dst := some 9, op := Op.move (Operand.tmp 0), type := 75, pos := "spaces.go:122", after := #[], guard := none }) (v := ?_) rfl (by kernel_rfl) (by kernel_rfl) (by kernel_rfl) (fun _ _ _ h => h) (Or.inl ⟨by rfl, ?_⟩) (by assumption) ?_
  rotate_left
  focus (intro w hSw; (try dsimp only at hSw); go_simp <;> with_reducible rfl)
  try simp only [Act.put, List.setIfInBounds_toArray, List.set_cons_zero, List.set_cons_succ]
  refine wpAnyH_take (i := 3) (oi := { dst := some 11, op := Op.nilCheck (Operand.tmp 8), type := 0, pos := "spaces.go:122", after := #[{ on := 0, ground := Ground.data }], guard := none }) (v := ?_) rfl (by kernel_rfl) (by kernel_rfl) (by kernel_rfl) (fun _ _ _ h => h) (Or.inl ⟨by rfl, ?_⟩) (by assumption) ?_
  rotate_left
  focus (intro w hSw; (try dsimp only at hSw); go_simp <;> with_reducible rfl)
  try simp only [Act.put, List.setIfInBounds_toArray, List.set_cons_zero, List.set_cons_succ]
  refine wpAnyH_take (i := 4) (oi := { dst := some 12, op := Op.fieldAddr 102 (Operand.tmp 11) 3, type := 0, pos := "spaces.go:122", after := #[{ on := 3, ground := Ground.data }], guard := none }) (v := ?_) rfl (by kernel_rfl) (by kernel_rfl) (by kernel_rfl) (fun _ _ _ h => h) (Or.inl ⟨by rfl, ?_⟩) (by assumption) ?_
  rotate_left
  focus (intro w hSw; (try dsimp only at hSw); go_simp <;> with_reducible rfl)
  try simp only [Act.put, List.setIfInBounds_toArray, List.set_cons_zero, List.set_cons_succ]
  refine wpAnyH_ready (rs := [2, 7]) (by kernel_rfl) (by simp) ?_
  refine AllReadyH.cons (o := { dst := some 10, op := Op.call { callee := Callee.value (Operand.func 64), args := #[Operand.tmp 9], argTypes := #[75] }, type := 3, pos := "spaces.go:122", after := #[{ on := 1, ground := Ground.data }], guard := none }) rfl (fun K hK => ?_) (AllReadyH.cons (o := { dst := some 7, op := Op.alloc 94, type := 0, pos := "spaces.go:122", after := #[], guard := none }) rfl (fun K hK => ?_) AllReadyH.nil)
  all_goals go_simp
  · refine (CN.out _ hHeld.2).mono ?_
    rintro e u1 ⟨rfl, m, hu1⟩
    have hk1 : Keep [] x u1 := by rw [hu1]; exact hHeld.2.drewN _
    clear hu1
    go_wp2_with fail
    refine shut_grow (fun u => (u.cell? ⟨q, 3 + n * 5, none⟩ = some (.pointer (some ⟨sh n, 0, none⟩)) ∧ u.cell? ⟨q, 3 + n * 5 + 1, none⟩ = some (.bool (A.tk n)) ∧ u.cell? ⟨q, 3 + n * 5 + 2, none⟩ = some (.bool un) ∧ u.cell? ⟨q, 3 + n * 5 + 3, none⟩ = some (.int .u32 (A.kp n : Nat)) ∧ u.cell? ⟨q, 3 + n * 5 + 4, none⟩ = some (.int .u32 (A.kr n : Nat))) ∧ Keep [] x u) hK (fun _ h => h) ⟨⟨hk1.cell q0 (by simp), hk1.cell q1 (by simp), hk1.cell q2 (by simp), hk1.cell q3 (by simp), hk1.cell q4 (by simp)⟩, hk1⟩ (fun hHeld => ?_)
    clear hK K
    refine wpAnyH_take (i := 5) (oi := { dst := some 13, op := Op.indexAddr 95 (Operand.tmp 12) (Operand.tmp 10), type := 0, pos := "spaces.go:122", after := #[{ on := 4, ground := Ground.data }, { on := 2, ground := Ground.data }], guard := none }) (v := ?_) rfl (by kernel_rfl) (by kernel_rfl) (by kernel_rfl) (fun _ _ _ h => h) (Or.inl ⟨by rfl, ?_⟩) (by assumption) ?_
    rotate_left
    focus (intro w hSw; (try dsimp only at hSw); go_simp <;> with_reducible rfl)
    try simp only [Act.put, List.setIfInBounds_toArray, List.set_cons_zero, List.set_cons_succ]
    refine wpAnyH_take (i := 6) (oi := { dst := some 14, op := Op.load 94 (Operand.tmp 13), type := 94, pos := "spaces.go:122", after := #[{ on := 5, ground := Ground.data }], guard := none }) (v := ?_) rfl (by kernel_rfl) (by kernel_rfl) (by kernel_rfl) (fun _ _ _ h => h) (Or.inl ⟨by rfl, ?_⟩) (by assumption) ?_
    rotate_left
    focus (intro w hSw; (try dsimp only at hSw); go_simp <;> with_reducible rfl)
    try simp only [Act.put, List.setIfInBounds_toArray, List.set_cons_zero, List.set_cons_succ]
    refine wpAnyH_ready (rs := [7]) (by kernel_rfl) (by simp) ?_
    refine AllReadyH.cons (o := { dst := some 7, op := Op.alloc 94, type := 0, pos := "spaces.go:122", after := #[], guard := none }) rfl (fun K hK => ?_) AllReadyH.nil
    go_simp
    obtain ⟨bz, hbz⟩ : ∃ b, b = u1.heap.size := ⟨_, rfl⟩
    rw [← hbz]
    generalize hu2 : World.alloc u1 _ = u2
    have HU : Hid (Keep [] x u2 ∧ x.heap.size ≤ bz ∧ CopyAt u2 bz (.pointer none) (.bool false) (.bool false) (.int .u32 0) (.int .u32 0)) := Lib.hid (by
      have hsz := hk1.size
      subst hu2
      exact ⟨hk1.alloc _, by omega, heap_alloc_at _ hbz⟩)
    have hk9 := HU.out.1
    obtain ⟨⟨z0, z1, z2, z3, z4⟩, ⟨g0, g1, g2, g3, g4⟩⟩ := HU.out.2.2.facts
    clear hu2 hbz hHeld
    refine shut_grow (fun u => (u.cell? ⟨q, 3 + n * 5, none⟩ = some (.pointer (some ⟨sh n, 0, none⟩)) ∧ u.cell? ⟨q, 3 + n * 5 + 1, none⟩ = some (.bool (A.tk n)) ∧ u.cell? ⟨q, 3 + n * 5 + 2, none⟩ = some (.bool un) ∧ u.cell? ⟨q, 3 + n * 5 + 3, none⟩ = some (.int .u32 (A.kp n : Nat)) ∧ u.cell? ⟨q, 3 + n * 5 + 4, none⟩ = some (.int .u32 (A.kr n : Nat))) ∧ Keep [] x u) hK (fun _ h => h) ⟨⟨hk9.cell q0 (by simp), hk9.cell q1 (by simp), hk9.cell q2 (by simp), hk9.cell q3 (by simp), hk9.cell q4 (by simp)⟩, hk9⟩ (fun hHeld => ?_)
    clear hK K hk9
    refine wpAnyH_ready (rs := [8]) (by kernel_rfl) (by simp) ?_
    refine AllReadyH.cons (o := { dst := none, op := Op.store 94 (Operand.tmp 7) (Operand.tmp 14), type := 0, pos := "spaces.go:122", after := #[{ on := 7, ground := Ground.data }, { on := 6, ground := Ground.data }, { on := 2, ground := Ground.chain }, { on := 0, ground := Ground.phase }, { on := 1, ground := Ground.phase }, { on := 2, ground := Ground.phase }, { on := 3, ground := Ground.phase }, { on := 4, ground := Ground.phase }, { on := 5, ground := Ground.phase }, { on := 6, ground := Ground.phase }, { on := 7, ground := Ground.phase }], guard := none }) rfl (fun K hK => ?_) AllReadyH.nil
    go_simp
    have hS9 : Hid (Keep [] x (((((u2.setCell ⟨bz, 0, none⟩ (.pointer (some ⟨sh n, 0, none⟩))).setCell ⟨bz, 1, none⟩ (.bool (A.tk n))).setCell ⟨bz, 2, none⟩ (.bool un)).setCell ⟨bz, 3, none⟩ (.int .u32 (A.kp n : Nat))).setCell ⟨bz, 4, none⟩ (.int .u32 (A.kr n : Nat))) ∧ CopyAt (((((u2.setCell ⟨bz, 0, none⟩ (.pointer (some ⟨sh n, 0, none⟩))).setCell ⟨bz, 1, none⟩ (.bool (A.tk n))).setCell ⟨bz, 2, none⟩ (.bool un)).setCell ⟨bz, 3, none⟩ (.int .u32 (A.kp n : Nat))).setCell ⟨bz, 4, none⟩ (.int .u32 (A.kr n : Nat))) bz (.pointer (some ⟨sh n, 0, none⟩)) (.bool (A.tk n)) (.bool un) (.int .u32 (A.kp n : Nat)) (.int .u32 (A.kr n : Nat))) := Lib.hid ⟨copy_keep HU.out.1 HU.out.2.1 _ _ _ _ _, CopyAt.put HU.out.2.2 _ _ _ _ _⟩
    generalize World.setCell _ _ _ = w9 at hS9 ⊢
    have HE := hS9
    have hk9 := HE.out.1
    refine shut_grow (fun u => u = w9) hK (fun _ h => by rw [h]; exact ⟨⟨hk9.cell q0 (by simp), hk9.cell q1 (by simp), hk9.cell q2 (by simp), hk9.cell q3 (by simp), hk9.cell q4 (by simp)⟩, hk9⟩) rfl (fun hHeld => ?_)
    clear hK K
    refine wpAnyH_done (by kernel_rfl) ?_ _
    clear hHeld hk9 hS9
    have hC9 : CopyAt w9 bz (.pointer (some ⟨sh n, 0, none⟩)) (.bool (A.tk n)) (.bool un) (.int .u32 (A.kp n : Nat)) (.int .u32 (A.kr n : Nat)) := HE.out.2
    obtain ⟨m, hm⟩ : ∃ m, m = va / 1024 := ⟨_, rfl⟩
    have n1 : (va : Int) / 1024 = (m : Int) := by omega
    rw [← hm] at HWB
    have HC9 : Hid (w9.cell? ⟨bz, 0, none⟩ = some (.pointer (some ⟨sh n, 0, none⟩)) ∧ w9.cell? ⟨bz, 2, none⟩ = some (.bool un) ∧ w9.cell? ⟨q, 1, none⟩ = some (.pointer (some ⟨r, 0, none⟩)) ∧ w9.cell? ⟨q, 2, none⟩ = some (.pointer (some ⟨p, 0, none⟩))) := Lib.hid ⟨hC9.facts.1.1, hC9.facts.1.2.2.1, HE.out.1.cell c1 (by simp), HE.out.1.cell c2 (by simp)⟩
    clear hC9 c0 c1 c2 c4 q0 q1 q2 q3 q4
    have HX9 := Lib.hid HE.out.1
    have hmv : m < 4194304 := by omega
    clear HE hm CN
    by_cases a1 : 32 ≤ m
    · have hwb : wb = false := by rw [HWB.out]; simp; omega
      subst hwb
      have d1 : (32 : Int) ≤ (m : Int) := by omega
      clear HWB a1
      obtain ⟨e0, e2, r1, r2⟩ := HC9.out
      go_wp2_with fail
      go_ret
      exact ⟨rfl, HX9.out⟩
    · have d1 : ¬ ((32 : Int) ≤ (m : Int)) := by omega
      by_cases a2 : 16384 ≤ va ∧ un = true
      · have hwb : wb = false := by rw [HWB.out, a2.2]; simp; omega
        subst hwb
        obtain ⟨a2, rfl⟩ := a2
        have d2 : (16384 : Int) ≤ (va : Int) := by omega
        clear HWB a1 a2
        obtain ⟨e0, e2, r1, r2⟩ := HC9.out
        go_wp2_with fail
        go_ret
        exact ⟨rfl, HX9.out⟩
      · have hgd : ¬ ((16384 : Int) ≤ (va : Int)) ∨ ((16384 : Int) ≤ (va : Int) ∧ un = false) := by
          by_cases h1 : 16384 ≤ va
          · exact .inr ⟨by omega, by cases hq : un with
              | false => rfl
              | true => exact absurd ⟨h1, hq⟩ a2⟩
          · exact .inl (by omega)
        by_cases a3 : frame < 0
        · have hwb : wb = false := by rw [HWB.out]; simp; omega
          subst hwb
          clear HWB a1 a2
          rcases hgd with d2 | ⟨d2, rfl⟩
          all_goals
            obtain ⟨e0, e2, r1, r2⟩ := HC9.out
            go_wp2_with fail
            go_ret
            exact ⟨rfl, HX9.out⟩
        · by_cases a4 : 60 ≤ frame
          · have hwb : wb = false := by rw [HWB.out]; simp; omega
            subst hwb
            have d4 : decide (60 ≤ frame) = true := decide_eq_true a4
            clear HWB a1 a2
            rcases hgd with d2 | ⟨d2, rfl⟩
            all_goals
              obtain ⟨e0, e2, r1, r2⟩ := HC9.out
              have C1 := Lib.hid (CS.out w9 HX9.out)
              go_wp2_with (go_at_call 50; refine C1.out.mono ?_; rintro e u ⟨rfl, rfl⟩)
              go_ret
              exact ⟨rfl, HX9.out⟩
          · have hwb : wb = (decide (ll = most) && !hb) := by
              rw [HWB.out]
              have : decide (m < 32 ∧ ¬ (16384 ≤ va ∧ un = true) ∧ 0 ≤ frame ∧ frame < 60) = true := decide_eq_true ⟨by omega, a2, by omega, by omega⟩
              rw [this]; rfl
            clear HWB a1 a2
            have CL9 := Lib.hid (CL.out w9 HX9.out)
            by_cases a5 : ll = most
            · have hz0 : (most : Int) - (ll : Nat) = 0 := by omega
              rw [hz0] at CL9
              rw [decide_eq_true a5] at hwb
              have hwb2 : wb = !hb := by rw [hwb]; rfl
              subst hwb2
              clear hwb hz0 a5 CL
              rcases hgd with d2 | ⟨d2, rfl⟩
              all_goals
                obtain ⟨e0, e2, r1, r2⟩ := HC9.out
                have C1 := Lib.hid (CS.out w9 HX9.out)
                have CH9 := Lib.hid (fun k => CH.out (w9.drewN k) (HX9.out.drewN k))
                have HE9 := Lib.hid (fun k => HX9.out.drewN k)
                go_wp2_with fail
                refine C1.out.mono ?_
                rintro e u ⟨rfl, rfl⟩
                go_wp2_with fail
                refine CL9.out.mono ?_
                rintro e u ⟨rfl, m2, rfl⟩
                go_wp2_with fail
                refine (CH9.out m2).mono ?_
                rintro e u ⟨rfl, rfl⟩
                go_wp2_with fail
                go_ret
                exact ⟨rfl, HE9.out _⟩
            · rw [decide_eq_false a5] at hwb
              have hwb2 : wb = false := by rw [hwb]; rfl
              subst hwb2
              obtain ⟨dl, hdl⟩ : ∃ dl : Int, dl = (most : Int) - (ll : Nat) := ⟨_, rfl⟩
              rw [← hdl] at CL9
              have hd0 : ¬ (dl = 0) := by omega
              have hd1 : (dl == 0) = false := by simpa using hd0
              clear hwb a5 CL hdl
              rcases hgd with d2 | ⟨d2, rfl⟩
              all_goals
                obtain ⟨e0, e2, r1, r2⟩ := HC9.out
                have C1 := Lib.hid (CS.out w9 HX9.out)
                have HE9 := Lib.hid (fun k => HX9.out.drewN k)
                go_wp2_with fail
                refine C1.out.mono ?_
                rintro e u ⟨rfl, rfl⟩
                go_wp2_with fail
                refine CL9.out.mono ?_
                rintro e u ⟨rfl, m2, rfl⟩
                go_wp2_with fail
                go_ret
                exact ⟨rfl, HE9.out _⟩
  · obtain ⟨bz, hbz⟩ : ∃ b, b = x2.heap.size := ⟨_, rfl⟩
    rw [← hbz]
    generalize hu2 : World.alloc x2 _ = u2
    have HU0 : Hid (Keep [] x u2 ∧ x.heap.size ≤ bz ∧ CopyAt u2 bz (.pointer none) (.bool false) (.bool false) (.int .u32 0) (.int .u32 0)) := Lib.hid (by
      have hsz := hHeld.2.size
      subst hu2
      exact ⟨hHeld.2.alloc _, by omega, heap_alloc_at _ hbz⟩)
    have hk9 := HU0.out.1
    clear hu2 hbz hHeld
    refine shut_grow (fun u => (u.cell? ⟨q, 3 + n * 5, none⟩ = some (.pointer (some ⟨sh n, 0, none⟩)) ∧ u.cell? ⟨q, 3 + n * 5 + 1, none⟩ = some (.bool (A.tk n)) ∧ u.cell? ⟨q, 3 + n * 5 + 2, none⟩ = some (.bool un) ∧ u.cell? ⟨q, 3 + n * 5 + 3, none⟩ = some (.int .u32 (A.kp n : Nat)) ∧ u.cell? ⟨q, 3 + n * 5 + 4, none⟩ = some (.int .u32 (A.kr n : Nat))) ∧ Keep [] x u) hK (fun _ h => h) ⟨⟨hk9.cell q0 (by simp), hk9.cell q1 (by simp), hk9.cell q2 (by simp), hk9.cell q3 (by simp), hk9.cell q4 (by simp)⟩, hk9⟩ (fun hHeld => ?_)
    clear hK K hk9
    skip
    refine wpAnyH_ready (rs := [2]) (by kernel_rfl) (by simp) ?_
    refine AllReadyH.cons (o := { dst := some 10, op := Op.call { callee := Callee.value (Operand.func 64), args := #[Operand.tmp 9], argTypes := #[75] }, type := 3, pos := "spaces.go:122", after := #[{ on := 1, ground := Ground.data }], guard := none }) rfl (fun K hK => ?_) AllReadyH.nil
    go_simp
    refine (CN.out _ hHeld.2).mono ?_
    rintro e u1 ⟨rfl, m, hu1⟩
    have HU : Hid (Keep [] x u1 ∧ x.heap.size ≤ bz ∧ CopyAt u1 bz (.pointer none) (.bool false) (.bool false) (.int .u32 0) (.int .u32 0)) := Lib.hid (by
      rw [hu1]; exact ⟨HU0.out.1.drewN _, HU0.out.2.1, HU0.out.2.2.keep ((Keep.refl [] _).drewN _)⟩)
    have hk1 := HU.out.1
    clear hu1 HU0
    go_wp2_with fail
    refine shut_grow (fun u => (u.cell? ⟨q, 3 + n * 5, none⟩ = some (.pointer (some ⟨sh n, 0, none⟩)) ∧ u.cell? ⟨q, 3 + n * 5 + 1, none⟩ = some (.bool (A.tk n)) ∧ u.cell? ⟨q, 3 + n * 5 + 2, none⟩ = some (.bool un) ∧ u.cell? ⟨q, 3 + n * 5 + 3, none⟩ = some (.int .u32 (A.kp n : Nat)) ∧ u.cell? ⟨q, 3 + n * 5 + 4, none⟩ = some (.int .u32 (A.kr n : Nat))) ∧ Keep [] x u) hK (fun _ h => h) ⟨⟨hk1.cell q0 (by simp), hk1.cell q1 (by simp), hk1.cell q2 (by simp), hk1.cell q3 (by simp), hk1.cell q4 (by simp)⟩, hk1⟩ (fun hHeld => ?_)
    clear hK K
    obtain ⟨⟨z0, z1, z2, z3, z4⟩, ⟨g0, g1, g2, g3, g4⟩⟩ := HU.out.2.2.facts
    refine wpAnyH_take (i := 5) (oi := { dst := some 13, op := Op.indexAddr 95 (Operand.tmp 12) (Operand.tmp 10), type := 0, pos := "spaces.go:122", after := #[{ on := 4, ground := Ground.data }, { on := 2, ground := Ground.data }], guard := none }) (v := ?_) rfl (by kernel_rfl) (by kernel_rfl) (by kernel_rfl) (fun _ _ _ h => h) (Or.inl ⟨by rfl, ?_⟩) (by assumption) ?_
    rotate_left
    focus (intro w hSw; (try dsimp only at hSw); go_simp <;> with_reducible rfl)
    try simp only [Act.put, List.setIfInBounds_toArray, List.set_cons_zero, List.set_cons_succ]
    refine wpAnyH_take (i := 6) (oi := { dst := some 14, op := Op.load 94 (Operand.tmp 13), type := 94, pos := "spaces.go:122", after := #[{ on := 5, ground := Ground.data }], guard := none }) (v := ?_) rfl (by kernel_rfl) (by kernel_rfl) (by kernel_rfl) (fun _ _ _ h => h) (Or.inl ⟨by rfl, ?_⟩) (by assumption) ?_
    rotate_left
    focus (intro w hSw; (try dsimp only at hSw); go_simp <;> with_reducible rfl)
    try simp only [Act.put, List.setIfInBounds_toArray, List.set_cons_zero, List.set_cons_succ]
    refine wpAnyH_ready (rs := [8]) (by kernel_rfl) (by simp) ?_
    refine AllReadyH.cons (o := { dst := none, op := Op.store 94 (Operand.tmp 7) (Operand.tmp 14), type := 0, pos := "spaces.go:122", after := #[{ on := 7, ground := Ground.data }, { on := 6, ground := Ground.data }, { on := 2, ground := Ground.chain }, { on := 0, ground := Ground.phase }, { on := 1, ground := Ground.phase }, { on := 2, ground := Ground.phase }, { on := 3, ground := Ground.phase }, { on := 4, ground := Ground.phase }, { on := 5, ground := Ground.phase }, { on := 6, ground := Ground.phase }, { on := 7, ground := Ground.phase }], guard := none }) rfl (fun K hK => ?_) AllReadyH.nil
    go_simp
    have hS9 : Hid (Keep [] x (((((u1.setCell ⟨bz, 0, none⟩ (.pointer (some ⟨sh n, 0, none⟩))).setCell ⟨bz, 1, none⟩ (.bool (A.tk n))).setCell ⟨bz, 2, none⟩ (.bool un)).setCell ⟨bz, 3, none⟩ (.int .u32 (A.kp n : Nat))).setCell ⟨bz, 4, none⟩ (.int .u32 (A.kr n : Nat))) ∧ CopyAt (((((u1.setCell ⟨bz, 0, none⟩ (.pointer (some ⟨sh n, 0, none⟩))).setCell ⟨bz, 1, none⟩ (.bool (A.tk n))).setCell ⟨bz, 2, none⟩ (.bool un)).setCell ⟨bz, 3, none⟩ (.int .u32 (A.kp n : Nat))).setCell ⟨bz, 4, none⟩ (.int .u32 (A.kr n : Nat))) bz (.pointer (some ⟨sh n, 0, none⟩)) (.bool (A.tk n)) (.bool un) (.int .u32 (A.kp n : Nat)) (.int .u32 (A.kr n : Nat))) := Lib.hid ⟨copy_keep HU.out.1 HU.out.2.1 _ _ _ _ _, CopyAt.put HU.out.2.2 _ _ _ _ _⟩
    generalize World.setCell _ _ _ = w9 at hS9 ⊢
    have HE := hS9
    have hk9 := HE.out.1
    refine shut_grow (fun u => u = w9) hK (fun _ h => by rw [h]; exact ⟨⟨hk9.cell q0 (by simp), hk9.cell q1 (by simp), hk9.cell q2 (by simp), hk9.cell q3 (by simp), hk9.cell q4 (by simp)⟩, hk9⟩) rfl (fun hHeld => ?_)
    clear hK K
    refine wpAnyH_done (by kernel_rfl) ?_ _
    clear hHeld hk9 hS9
    have hC9 : CopyAt w9 bz (.pointer (some ⟨sh n, 0, none⟩)) (.bool (A.tk n)) (.bool un) (.int .u32 (A.kp n : Nat)) (.int .u32 (A.kr n : Nat)) := HE.out.2
    obtain ⟨m, hm⟩ : ∃ m, m = va / 1024 := ⟨_, rfl⟩
    have n1 : (va : Int) / 1024 = (m : Int) := by omega
    rw [← hm] at HWB
    have HC9 : Hid (w9.cell? ⟨bz, 0, none⟩ = some (.pointer (some ⟨sh n, 0, none⟩)) ∧ w9.cell? ⟨bz, 2, none⟩ = some (.bool un) ∧ w9.cell? ⟨q, 1, none⟩ = some (.pointer (some ⟨r, 0, none⟩)) ∧ w9.cell? ⟨q, 2, none⟩ = some (.pointer (some ⟨p, 0, none⟩))) := Lib.hid ⟨hC9.facts.1.1, hC9.facts.1.2.2.1, HE.out.1.cell c1 (by simp), HE.out.1.cell c2 (by simp)⟩
    clear hC9 c0 c1 c2 c4 q0 q1 q2 q3 q4
    have HX9 := Lib.hid HE.out.1
    have hmv : m < 4194304 := by omega
    clear HE hm CN
    by_cases a1 : 32 ≤ m
    · have hwb : wb = false := by rw [HWB.out]; simp; omega
      subst hwb
      have d1 : (32 : Int) ≤ (m : Int) := by omega
      clear HWB a1
      obtain ⟨e0, e2, r1, r2⟩ := HC9.out
      go_wp2_with fail
      go_ret
      exact ⟨rfl, HX9.out⟩
    · have d1 : ¬ ((32 : Int) ≤ (m : Int)) := by omega
      by_cases a2 : 16384 ≤ va ∧ un = true
      · have hwb : wb = false := by rw [HWB.out, a2.2]; simp; omega
        subst hwb
        obtain ⟨a2, rfl⟩ := a2
        have d2 : (16384 : Int) ≤ (va : Int) := by omega
        clear HWB a1 a2
        obtain ⟨e0, e2, r1, r2⟩ := HC9.out
        go_wp2_with fail
        go_ret
        exact ⟨rfl, HX9.out⟩
      · have hgd : ¬ ((16384 : Int) ≤ (va : Int)) ∨ ((16384 : Int) ≤ (va : Int) ∧ un = false) := by
          by_cases h1 : 16384 ≤ va
          · exact .inr ⟨by omega, by cases hq : un with
              | false => rfl
              | true => exact absurd ⟨h1, hq⟩ a2⟩
          · exact .inl (by omega)
        by_cases a3 : frame < 0
        · have hwb : wb = false := by rw [HWB.out]; simp; omega
          subst hwb
          clear HWB a1 a2
          rcases hgd with d2 | ⟨d2, rfl⟩
          all_goals
            obtain ⟨e0, e2, r1, r2⟩ := HC9.out
            go_wp2_with fail
            go_ret
            exact ⟨rfl, HX9.out⟩
        · by_cases a4 : 60 ≤ frame
          · have hwb : wb = false := by rw [HWB.out]; simp; omega
            subst hwb
            have d4 : decide (60 ≤ frame) = true := decide_eq_true a4
            clear HWB a1 a2
            rcases hgd with d2 | ⟨d2, rfl⟩
            all_goals
              obtain ⟨e0, e2, r1, r2⟩ := HC9.out
              have C1 := Lib.hid (CS.out w9 HX9.out)
              go_wp2_with (go_at_call 50; refine C1.out.mono ?_; rintro e u ⟨rfl, rfl⟩)
              go_ret
              exact ⟨rfl, HX9.out⟩
          · have hwb : wb = (decide (ll = most) && !hb) := by
              rw [HWB.out]
              have : decide (m < 32 ∧ ¬ (16384 ≤ va ∧ un = true) ∧ 0 ≤ frame ∧ frame < 60) = true := decide_eq_true ⟨by omega, a2, by omega, by omega⟩
              rw [this]; rfl
            clear HWB a1 a2
            have CL9 := Lib.hid (CL.out w9 HX9.out)
            by_cases a5 : ll = most
            · have hz0 : (most : Int) - (ll : Nat) = 0 := by omega
              rw [hz0] at CL9
              rw [decide_eq_true a5] at hwb
              have hwb2 : wb = !hb := by rw [hwb]; rfl
              subst hwb2
              clear hwb hz0 a5 CL
              rcases hgd with d2 | ⟨d2, rfl⟩
              all_goals
                obtain ⟨e0, e2, r1, r2⟩ := HC9.out
                have C1 := Lib.hid (CS.out w9 HX9.out)
                have CH9 := Lib.hid (fun k => CH.out (w9.drewN k) (HX9.out.drewN k))
                have HE9 := Lib.hid (fun k => HX9.out.drewN k)
                go_wp2_with fail
                refine C1.out.mono ?_
                rintro e u ⟨rfl, rfl⟩
                go_wp2_with fail
                refine CL9.out.mono ?_
                rintro e u ⟨rfl, m2, rfl⟩
                go_wp2_with fail
                refine (CH9.out m2).mono ?_
                rintro e u ⟨rfl, rfl⟩
                go_wp2_with fail
                go_ret
                exact ⟨rfl, HE9.out _⟩
            · rw [decide_eq_false a5] at hwb
              have hwb2 : wb = false := by rw [hwb]; rfl
              subst hwb2
              obtain ⟨dl, hdl⟩ : ∃ dl : Int, dl = (most : Int) - (ll : Nat) := ⟨_, rfl⟩
              rw [← hdl] at CL9
              have hd0 : ¬ (dl = 0) := by omega
              have hd1 : (dl == 0) = false := by simpa using hd0
              clear hwb a5 CL hdl
              rcases hgd with d2 | ⟨d2, rfl⟩
              all_goals
                obtain ⟨e0, e2, r1, r2⟩ := HC9.out
                have C1 := Lib.hid (CS.out w9 HX9.out)
                have HE9 := Lib.hid (fun k => HX9.out.drewN k)
                go_wp2_with fail
                refine C1.out.mono ?_
                rintro e u ⟨rfl, rfl⟩
                go_wp2_with fail
                refine CL9.out.mono ?_
                rintro e u ⟨rfl, m2, rfl⟩
                go_wp2_with fail
                go_ret
                exact ⟨rfl, HE9.out _⟩
end
end Go.Proofs.Ytpinoejckagjbaa
