/- Contracts of the functions that the law reaches, walked, and the plain laws on them (several texts in one). -/
import Derived.Outline
import Derived.BigQuiet
import Derived.Test.YtpinoejckagjbaaM35

/- The document's spaces: made, cleared, and whose they are. -/
namespace Go.Proofs.Ytpinoejckagjbaa
open Go.RowKit Go.Mum
set_option linter.unusedVariables false
set_option linter.unusedSimpArgs false
set_option maxRecDepth 100000

/-- Spaces that nobody has. -/
def R0 : RSt := { tk := fun _ => false, ur := fun _ => false, kp := fun _ => 0, kr := fun _ => 0, pv := fun _ => .slice none 0 0, tv := fun _ => .slice none 0 0, mf := fun _ => 0, P := fun _ => [], S := fun _ => [] }

theorem own_lower {w : World} {b b' : Nat} {e : TypeId} {size : Nat} {v : Value} {n : Nat} {xs : List Value} (h : w.ownsRow b e size v n xs) (hb : b' ≤ b) : w.ownsRow b' e size v n xs := by
  refine ⟨h.1, ?_⟩
  rcases h.2 with h1 | ⟨g, cap, cur, h1, h2, h3⟩
  · exact .inl h1
  · exact .inr ⟨g, cap, cur, h1, Nat.le_trans hb h2, h3⟩

def RfNew (n most : Nat) (x : World) (e : Ending) (y : World) : Prop :=
  ∃ rb ga ca hv, e = .returned (.pointer (some ⟨rb, 0, none⟩)) ∧ x.heap.size ≤ rb ∧ Keep [] x y ∧ ∀ B, B ≤ x.heap.size → RcAt y B rb most R0 (List.range n) false ga ca hv 0

set_option maxHeartbeats 4000000 in
theorem rfnew_at (n most : Nat) (x : World) (hn : 1 ≤ n) (hn8 : n ≤ 8) :
    Calls Try.prog 59 #[.int .i64 n, .int .i64 60, .int .i64 most, .int .i64 4] x (RfNew n most x) := by
  obtain ⟨i0, hi0, hz0, hz1, hz2⟩ := info_parts info_space
  obtain ⟨j0, hj0, hy0, hy1, hy2⟩ := info_parts info_int'
  obtain ⟨rb, hrb⟩ : ∃ b, b = x.heap.size := ⟨_, rfl⟩
  go_enter Try.func59, Try.ntmps59
  go_wp2_with fail
  rw [← hrb]
  generalize hy : World.alloc x _ = y
  have H0 : Hid (Keep [] x y ∧ y.heap[rb]? = some (.cells #[.slice none 0 0, .slice none 0 0, .bool false, .int .i64 most, .int .i64 4] 143 (0, 0)) ∧ rb = x.heap.size) := Lib.hid (by
    subst hy
    exact ⟨(Keep.refl _ _).alloc _, heap_alloc_at _ hrb, hrb⟩)
  have HYS : Hid (y.heap.size = rb + 1) := Lib.hid (by subst hy; simp; omega)
  clear hy hrb
  go_loopw [10] (fun kv wr => ∃ (k : Nat), kv = .int .i64 k ∧ k ≤ n ∧ Hid (∃ lv mv, wr.heap[rb]? = some (.cells #[lv, mv, .bool false, .int .i64 most, .int .i64 4] 143 (0, 0)) ∧ wr.ownsRow (rb + 1) 145 8 lv k (spL R0 (List.range k)) ∧ wr.ownsRow (rb + 1) 3 1 mv k ((List.range k).map fun k => .int .i64 (k : Nat)) ∧ Keep [rb] y wr)) (fun kv _ => n - (intOf kv).toNat)
  case atStart => exact ⟨0, rfl, by omega, Lib.hid ⟨_, _, H0.out.2.1, World.ownsRow_nil _ _ _ _, World.ownsRow_nil _ _ _ _, Keep.refl _ _⟩⟩
  case round =>
    obtain ⟨k, rfl, hk1, HJ⟩ := hrel
    rename World => wo
    obtain ⟨lv, mv, HJ⟩ : ∃ lv mv, Hid (wo.heap[rb]? = some (.cells #[lv, mv, .bool false, .int .i64 most, .int .i64 4] 143 (0, 0)) ∧ wo.ownsRow (rb + 1) 145 8 lv k (spL R0 (List.range k)) ∧ wo.ownsRow (rb + 1) 3 1 mv k ((List.range k).map fun k => .int .i64 (k : Nat)) ∧ Keep [rb] y wo) := by
      obtain ⟨lv, mv, h⟩ := HJ.out
      exact ⟨lv, mv, Lib.hid h⟩
    have hb := HJ.out.1
    have c0 : wo.cell? ⟨rb, 0, none⟩ = some lv := cell_of hb 0 rfl
    obtain ⟨la, lc, hlv⟩ := own_form HJ.out.2.1
    obtain ⟨ma, mc, hmv⟩ := own_form HJ.out.2.2.1
    subst hlv hmv
    have hws : rb < wo.heap.size := lt_of_heap hb
    by_cases hkl : k < n
    · have hk0 : (0 : Int) ≤ (k : Int) := by omega
      have hk3 : (k : Int) < (n : Int) := by omega
      have hrow := HJ.out.2.1
      have HAP : Hid (∀ v' w1, w1.ownsRow (rb + 1) 145 8 v' (k + 1) (spL R0 (List.range k) ++ [.bool false, .int .u32 0, .int .u32 0, .bool false, .int .i64 60, .slice none 0 0, .slice none 0 0, .int .i64 0]) → (wo.alloc (.cells #[.bool false, .int .u32 0, .int .u32 0, .bool false, .int .i64 60, .slice none 0 0, .slice none 0 0, .int .i64 0] 145)).grownBy w1 (Value.slice la k lc).ownBlock → w1.heap[rb]? = some (.cells #[.slice la k lc, .slice ma k mc, .bool false, .int .i64 most, .int .i64 4] 143 (0, 0)) ∧ w1.ownsRow (rb + 1) 145 8 v' (k + 1) (spL R0 (List.range (k + 1))) ∧ w1.ownsRow (rb + 1) 3 1 (.slice ma k mc) k ((List.range k).map fun k => .int .i64 (k : Nat)) ∧ Keep [rb] y w1) := Lib.hid (fun v' w1 ho hgr => by
        obtain ⟨l, hl1, hk⟩ := grown_keepTo hgr
        have hka : Keep l wo w1 := ((Keep.refl l wo).alloc _).trans hk
        have hl2 : ∀ k ∈ l, rb + 1 ≤ k := fun k q => (own_block hrow (hl1 k q)).1
        have hy1 : y.heap.size ≤ rb + 1 ∨ True := .inr trivial
        refine ⟨hka.heap hb (fun q => by have := hl2 _ q; omega), ?_, grow_other HJ.out.2.2.1 (fun g h1 h2 => own_apart HJ.out.2.2.1 HJ.out.2.1 (by decide) h1 h2) hgr, ?_⟩
        · have : spL R0 (List.range (k + 1)) = spL R0 (List.range k) ++ [.bool false, .int .u32 0, .int .u32 0, .bool false, .int .i64 60, .slice none 0 0, .slice none 0 0, .int .i64 0] := by
            rw [List.range_succ]; simp [spL, spC, R0]
          rw [this]; exact ho
        · have hyb : y.heap.size = rb + 1 := HYS.out
          refine ⟨hka.os.trans HJ.out.2.2.2.os, hka.tape.trans HJ.out.2.2.2.tape, hka.output.trans HJ.out.2.2.2.output, Nat.le_trans HJ.out.2.2.2.size hka.size, fun b hb' hn' => ?_⟩
          rw [hka.block b (by have := HJ.out.2.2.2.size; omega) (fun q => by have := hl2 _ q; omega)]
          exact HJ.out.2.2.2.block b hb' hn')
      go_upto_region 6 with (at_builtin; refine wpList_append_own _ rfl _ _ 141 rfl (rb + 1) 145 i0 (.agg #[.bool false, .int .u32 0, .int .u32 0, .bool false, .int .i64 0, .slice none 0 0, .slice none 0 0, .int .i64 0]) 8 80 Try.underlying141 hi0 hz0 hz1 hz2 rfl (by decide) _ _ _ rfl (hrow.alloc _) ⟨wo.heap.size, 0, none⟩ 1 1 [.bool false, .int .u32 0, .int .u32 0, .bool false, .int .i64 60, .slice none 0 0, .slice none 0 0, .int .i64 0] rfl rfl (cells_eight_new _ _ _ _ _ _ _ _ _ _) (by simp [Value.oneCell']) (by unfold maxLen; omega) (by omega) (by simp; omega) ?_; intro v' w1 hown' hgrow _; have HG := HAP.out v' w1 hown' hgrow; have hfm := own_form hown'; obtain ⟨la2, lc2, hv⟩ := hfm; subst hv; have g0 := cell_of HG.1 0 rfl; have g1 := frozen_of HG.1 0; have HG := Lib.hid HG; clear hown' hgrow)
      rename World => w1
      have HW : Hid (∀ w2, w2 = w1.setCell ⟨rb, 0, none⟩ (.slice la2 (k + 1) lc2) → w2.heap[rb]? = some (.cells #[.slice la2 (k + 1) lc2, .slice ma k mc, .bool false, .int .i64 most, .int .i64 4] 143 (0, 0)) ∧ w2.ownsRow (rb + 1) 145 8 (.slice la2 (k + 1) lc2) (k + 1) (spL R0 (List.range (k + 1))) ∧ w2.ownsRow (rb + 1) 3 1 (.slice ma k mc) k ((List.range k).map fun k => .int .i64 (k : Nat)) ∧ Keep [rb] y w2) := Lib.hid (fun w2 hw => by
        subst hw
        have hks : Keep [rb] w1 (w1.setCell ⟨rb, 0, none⟩ (.slice la2 (k + 1) lc2)) := keepSet (Keep.refl _ _) (by simp) _ _
        refine ⟨heap_set_same HG.out.1 0 _, own_keep HG.out.2.1 hks (fun g hg => ?_), own_keep HG.out.2.2.1 hks (fun g hg => ?_), HG.out.2.2.2.trans hks⟩
        · have := (own_block HG.out.2.1 hg).1
          simp only [List.mem_singleton]; omega
        · have := (own_block HG.out.2.2.1 hg).1
          simp only [List.mem_singleton]; omega)
      generalize hw2 : World.setCell w1 _ _ = w2
      have HG2 := Lib.hid (HW.out w2 hw2.symm)
      clear hw2 g0 g1 hrow
      have g0 := cell_of HG2.out.1 1 rfl
      have hrow2 := HG2.out.2.2.1
      have hrb2 := lt_of_heap HG2.out.1
      have HAP2 : Hid (∀ v' w3, w3.ownsRow (rb + 1) 3 1 v' (k + 1) ((List.range k).map (fun k => .int .i64 (k : Nat)) ++ [.int .i64 k]) → (w2.alloc (.cells #[.int .i64 k] 3)).grownBy w3 (Value.slice ma k mc).ownBlock → w3.heap[rb]? = some (.cells #[.slice la2 (k + 1) lc2, .slice ma k mc, .bool false, .int .i64 most, .int .i64 4] 143 (0, 0)) ∧ (∃ lv mv, (w3.setCell ⟨rb, 1, none⟩ v').heap[rb]? = some (.cells #[lv, mv, .bool false, .int .i64 most, .int .i64 4] 143 (0, 0)) ∧ (w3.setCell ⟨rb, 1, none⟩ v').ownsRow (rb + 1) 145 8 lv (k + 1) (spL R0 (List.range (k + 1))) ∧ (w3.setCell ⟨rb, 1, none⟩ v').ownsRow (rb + 1) 3 1 mv (k + 1) ((List.range (k + 1)).map fun k => .int .i64 (k : Nat)) ∧ Keep [rb] y (w3.setCell ⟨rb, 1, none⟩ v'))) := Lib.hid (fun v' w3 ho hgr => by
        obtain ⟨l, hl1, hk⟩ := grown_keepTo hgr
        have hka : Keep l w2 w3 := ((Keep.refl l w2).alloc _).trans hk
        have hl2 : ∀ k ∈ l, rb + 1 ≤ k := fun k q => (own_block hrow2 (hl1 k q)).1
        have hh := hka.heap HG2.out.1 (fun q => by have := hl2 _ q; omega)
        have hks : Keep [rb] w3 (w3.setCell ⟨rb, 1, none⟩ v') := keepSet (Keep.refl _ _) (by simp) _ _
        have ho1 := grow_other HG2.out.2.1 (fun g h1 h2 => own_apart HG2.out.2.1 HG2.out.2.2.1 (by decide) h1 h2) hgr
        refine ⟨hh, _, _, heap_set_same hh 1 _, own_keep ho1 hks (fun g hg => ?_), own_keep (by rw [List.range_succ, List.map_append]; exact ho) hks (fun g hg => ?_), ?_⟩
        · have := (own_block ho1 hg).1
          simp only [List.mem_singleton]; omega
        · have := (own_block ho hg).1
          simp only [List.mem_singleton]; omega
        · have hyb : y.heap.size = rb + 1 := HYS.out
          have hk0 := HG2.out.2.2.2
          have hk3 : Keep [rb] y w3 := ⟨hka.os.trans hk0.os, hka.tape.trans hk0.tape, hka.output.trans hk0.output, Nat.le_trans hk0.size hka.size, fun b hb' hn' => by
            rw [hka.block b (by have := hk0.size; omega) (fun q => by have := hl2 _ q; omega)]
            exact hk0.block b hb' hn'⟩
          exact hk3.trans hks)
      go_wp2_with (at_builtin; refine wpList_append_own _ rfl _ _ 81 rfl (rb + 1) 3 j0 (.int .i64 0) 1 8 Try.underlying81 hj0 hy0 hy1 hy2 rfl (by decide) _ _ _ rfl (hrow2.alloc _) ⟨w2.heap.size, 0, none⟩ 1 1 [.int .i64 k] rfl rfl (cell_one_new _ _ _) (by simp [Value.oneCell']) (by unfold maxLen; omega) (by omega) (by simp; omega) ?_; intro v' w3 hown' hgrow _; have HG3 := HAP2.out v' w3 hown' hgrow; have hfm := own_form hown'; obtain ⟨la3, lc3, hv⟩ := hfm; subst hv; have g0 := cell_of HG3.1 1 rfl; have g1 := frozen_of HG3.1 1; have HG3 := Lib.hid HG3.2; clear hown' hgrow)
      go_roundw
      case rel => exact ⟨k + 1, by go_num, by omega, HG3⟩
      case measure => simp [intOf]; omega
    · have hkn : k = n := by omega
      subst hkn
      have hk3 : ¬ ((k : Int) < (k : Int)) := by omega
      have HF : Hid (RfNew k most x (.returned (.pointer (some ⟨rb, 0, none⟩))) wo) := Lib.hid (by
        have hl : (List.range k).length = k := by simp
        obtain ⟨gg, hgg, -⟩ := own_some HJ.out.2.1 (by omega)
        have hgg' : la = some ⟨gg, 0, none⟩ := by cases hgg; rfl
        subst hgg'
        refine ⟨rb, gg, lc, .slice ma k mc, rfl, by have := H0.out.2.2; omega, ?_, fun B hB => ?_⟩
        · have hk0 := H0.out.1
          have hk1' := HJ.out.2.2.2
          refine ⟨hk1'.os.trans hk0.os, hk1'.tape.trans hk0.tape, hk1'.output.trans hk0.output, Nat.le_trans hk0.size hk1'.size, fun b hb' hn' => ?_⟩
          have := H0.out.2.2
          rw [hk1'.block b (by have := hk0.size; omega) (by simp only [List.mem_singleton]; omega)]
          exact hk0.block b hb' hn'
        · have hBr : B ≤ rb := by have := H0.out.2.2; omega
          exact ⟨by rw [hl]; exact HJ.out.1, hBr, by rw [hl]; exact own_lower HJ.out.2.1 (by omega), by rw [hl]; exact own_lower HJ.out.2.2.1 (by omega), List.nodup_range, fun _ _ => World.ownsRow_nil _ _ _ _, fun _ _ => World.ownsRow_nil _ _ _ _, (fun _ _ _ _ _ g q => nomatch q), (fun _ _ _ _ _ g q => nomatch q), fun _ _ => Nat.le_refl _, fun _ _ => Nat.le_refl _, by rw [hl]; omega⟩)
      go_wp2_with fail
      go_ret
      exact HF.out
end Go.Proofs.Ytpinoejckagjbaa

/- The document's spaces: all freed; their keys. -/
namespace Go.Proofs.Ytpinoejckagjbaa
open Go.RowKit Go.Mum
set_option linter.unusedVariables false
set_option linter.unusedSimpArgs false
set_option maxRecDepth 100000

def RfClr (B rb most n : Nat) (x y : World) : Prop := ∃ ga ca hv, RcAt y B rb most R0 (List.range n) false ga ca hv 0 ∧ x.heap.size ≤ ga ∧ Keep [rb] x y

set_option maxHeartbeats 4000000 in
theorem rfclear_at {x : World} {B rb most : Nat} {R : RSt} {age : List Nat} {use : Bool} {ga ca : Nat} {hv : Value} {c : Nat} (h : RcAt x B rb most R age use ga ca hv c) :
    Calls Try.prog 73 #[.pointer (some ⟨rb, 0, none⟩)] x fun e y => (∃ v, e = .returned v) ∧ RfClr B rb most age.length x y := by
  have HR := Lib.hid h
  obtain ⟨c0, c1, c2, c3, c4⟩ := h.cells
  have hal := h.al
  have q4 : x.cell? ⟨ga, 4, none⟩ = some (.int .i64 60) := by
    have := h.cell (i := 0) (by omega) (j := 4) (by omega)
    simpa [spC] using this
  obtain ⟨n, hn⟩ : ∃ n, n = age.length := ⟨_, rfl⟩
  rw [← hn] at c0 hal
  rw [← hn]
  have HN := Lib.hid hn
  have hal1 := hal.1
  have hal2 := hal.2
  have hn0 : (0 : Int) < (n : Int) := by omega
  clear h hn hal
  go_enter Try.func73, Try.ntmps73
  go_wp2_with fail
  clear q4 c0 c1 c2
  refine wp_region_held_drew (S := fun u => u.cell? ⟨rb, 3, none⟩ = some (.int .i64 most) ∧ u.cell? ⟨rb, 4, none⟩ = some (.int .i64 4)) (by kernel_rfl) ⟨c3, c4⟩ (fun hHeld => ?_)
  skip
  generalize hx2 : World.drew x = x2 at hHeld ⊢
  have HX2 : Hid (Keep [] x x2) := Lib.hid (by subst hx2; exact (Keep.refl [] x).drew)
  clear hx2 c3 c4
  refine wpAnyH_take (i := 0) (oi := { dst := some 18, op := Op.move (Operand.tmp 2), type := 3, pos := "ref.go:119", after := #[], guard := none }) (v := ?_) rfl (by kernel_rfl) (by kernel_rfl) (by kernel_rfl) (fun _ _ _ h => h) (Or.inl ⟨by rfl, ?_⟩) (by assumption) ?_
  rotate_left
  focus (intro w hSw; (try dsimp only at hSw); go_simp <;> with_reducible rfl)
  try simp only [Act.put, List.setIfInBounds_toArray, List.set_cons_zero, List.set_cons_succ]
  refine wpAnyH_take (i := 1) (oi := { dst := some 19, op := Op.move (Operand.tmp 3), type := 3, pos := "ref.go:119", after := #[], guard := none }) (v := ?_) rfl (by kernel_rfl) (by kernel_rfl) (by kernel_rfl) (fun _ _ _ h => h) (Or.inl ⟨by rfl, ?_⟩) (by assumption) ?_
  rotate_left
  focus (intro w hSw; (try dsimp only at hSw); go_simp <;> with_reducible rfl)
  try simp only [Act.put, List.setIfInBounds_toArray, List.set_cons_zero, List.set_cons_succ]
  refine wpAnyH_take (i := 2) (oi := { dst := some 20, op := Op.move (Operand.tmp 0), type := 76, pos := "ref.go:119", after := #[], guard := none }) (v := ?_) rfl (by kernel_rfl) (by kernel_rfl) (by kernel_rfl) (fun _ _ _ h => h) (Or.inl ⟨by rfl, ?_⟩) (by assumption) ?_
  rotate_left
  focus (intro w hSw; (try dsimp only at hSw); go_simp <;> with_reducible rfl)
  try simp only [Act.put, List.setIfInBounds_toArray, List.set_cons_zero, List.set_cons_succ]
  refine wpAnyH_take (i := 3) (oi := { dst := some 21, op := Op.nilCheck (Operand.tmp 20), type := 0, pos := "ref.go:119", after := #[{ on := 2, ground := Ground.data }], guard := none }) (v := ?_) rfl (by kernel_rfl) (by kernel_rfl) (by kernel_rfl) (fun _ _ _ h => h) (Or.inl ⟨by rfl, ?_⟩) (by assumption) ?_
  rotate_left
  focus (intro w hSw; (try dsimp only at hSw); go_simp <;> with_reducible rfl)
  try simp only [Act.put, List.setIfInBounds_toArray, List.set_cons_zero, List.set_cons_succ]
  refine wpAnyH_take (i := 4) (oi := { dst := some 22, op := Op.fieldAddr 143 (Operand.tmp 21) 3, type := 0, pos := "ref.go:119", after := #[{ on := 3, ground := Ground.data }], guard := none }) (v := ?_) rfl (by kernel_rfl) (by kernel_rfl) (by kernel_rfl) (fun _ _ _ h => h) (Or.inl ⟨by rfl, ?_⟩) (by assumption) ?_
  rotate_left
  focus (intro w hSw; (try dsimp only at hSw); go_simp <;> with_reducible rfl)
  try simp only [Act.put, List.setIfInBounds_toArray, List.set_cons_zero, List.set_cons_succ]
  refine wpAnyH_take (i := 5) (oi := { dst := some 23, op := Op.load 3 (Operand.tmp 22), type := 3, pos := "ref.go:119", after := #[{ on := 4, ground := Ground.data }], guard := none }) (v := ?_) rfl (by kernel_rfl) (by kernel_rfl) (by kernel_rfl) (fun _ _ _ h => h) (Or.inl ⟨by rfl, ?_⟩) (by assumption) ?_
  rotate_left
  focus (intro w hSw; (try dsimp only at hSw); go_simp <;> with_reducible rfl)
  try simp only [Act.put, List.setIfInBounds_toArray, List.set_cons_zero, List.set_cons_succ]
  refine wpAnyH_take (i := 6) (oi := { dst := some 24, op := Op.move (Operand.tmp 0), type := 76, pos := "ref.go:119", after := #[], guard := none }) (v := ?_) rfl (by kernel_rfl) (by kernel_rfl) (by kernel_rfl) (fun _ _ _ h => h) (Or.inl ⟨by rfl, ?_⟩) (by assumption) ?_
  rotate_left
  focus (intro w hSw; (try dsimp only at hSw); go_simp <;> with_reducible rfl)
  try simp only [Act.put, List.setIfInBounds_toArray, List.set_cons_zero, List.set_cons_succ]
  refine wpAnyH_take (i := 7) (oi := { dst := some 25, op := Op.nilCheck (Operand.tmp 24), type := 0, pos := "ref.go:119", after := #[{ on := 6, ground := Ground.data }], guard := none }) (v := ?_) rfl (by kernel_rfl) (by kernel_rfl) (by kernel_rfl) (fun _ _ _ h => h) (Or.inl ⟨by rfl, ?_⟩) (by assumption) ?_
  rotate_left
  focus (intro w hSw; (try dsimp only at hSw); go_simp <;> with_reducible rfl)
  try simp only [Act.put, List.setIfInBounds_toArray, List.set_cons_zero, List.set_cons_succ]
  refine wpAnyH_take (i := 8) (oi := { dst := some 26, op := Op.fieldAddr 143 (Operand.tmp 25) 4, type := 0, pos := "ref.go:119", after := #[{ on := 7, ground := Ground.data }], guard := none }) (v := ?_) rfl (by kernel_rfl) (by kernel_rfl) (by kernel_rfl) (fun _ _ _ h => h) (Or.inl ⟨by rfl, ?_⟩) (by assumption) ?_
  rotate_left
  focus (intro w hSw; (try dsimp only at hSw); go_simp <;> with_reducible rfl)
  try simp only [Act.put, List.setIfInBounds_toArray, List.set_cons_zero, List.set_cons_succ]
  refine wpAnyH_take (i := 9) (oi := { dst := some 27, op := Op.load 3 (Operand.tmp 26), type := 3, pos := "ref.go:119", after := #[{ on := 8, ground := Ground.data }], guard := none }) (v := ?_) rfl (by kernel_rfl) (by kernel_rfl) (by kernel_rfl) (fun _ _ _ h => h) (Or.inl ⟨by rfl, ?_⟩) (by assumption) ?_
  rotate_left
  focus (intro w hSw; (try dsimp only at hSw); go_simp <;> with_reducible rfl)
  try simp only [Act.put, List.setIfInBounds_toArray, List.set_cons_zero, List.set_cons_succ]
  refine wpAnyH_ready (rs := [10]) (by kernel_rfl) (by simp) ?_
  refine AllReadyH.cons (o := { dst := some 28, op := Op.call { callee := Callee.value (Operand.func 59), args := #[Operand.tmp 18, Operand.tmp 19, Operand.tmp 23, Operand.tmp 27], argTypes := #[3, 3, 3, 3] }, type := 76, pos := "ref.go:119", after := #[{ on := 0, ground := Ground.data }, { on := 1, ground := Ground.data }, { on := 5, ground := Ground.data }, { on := 9, ground := Ground.data }], guard := none }) rfl (fun K hK => ?_) AllReadyH.nil
  go_simp
  refine (rfnew_at n most x2 hal1 hal2).mono ?_
  rintro e y ⟨r2, g2, k2, h2, rfl, hr2, hk2, hRc⟩
  have HY : Hid (RcAt y B rb most R age use ga ca hv c ∧ RcAt y x2.heap.size r2 most R0 (List.range n) false g2 k2 h2 0 ∧ Keep [] x y ∧ x2.heap.size ≤ r2) := Lib.hid ⟨HR.out.keep0 (HX2.out.trans hk2), hRc _ (Nat.le_refl _), HX2.out.trans hk2, hr2⟩
  have x1 := hk2.cell hHeld.1 (by simp)
  have x2' := hk2.cell hHeld.2 (by simp)
  clear hRc hk2 hr2
  go_wp2_with fail
  refine shut_grow (fun u => u = y) hK (fun _ h => by rw [h]; exact ⟨x1, x2'⟩) rfl (fun hHeld => ?_)
  clear hK K
  refine wpAnyH_take (i := 11) (oi := { dst := some 4, op := Op.assign (Operand.tmp 28), type := 76, pos := "ref.go:119", after := #[{ on := 10, ground := Ground.data }, { on := 10, ground := Ground.chain }, { on := 0, ground := Ground.phase }, { on := 1, ground := Ground.phase }, { on := 2, ground := Ground.phase }, { on := 3, ground := Ground.phase }, { on := 4, ground := Ground.phase }, { on := 5, ground := Ground.phase }, { on := 6, ground := Ground.phase }, { on := 7, ground := Ground.phase }, { on := 8, ground := Ground.phase }, { on := 9, ground := Ground.phase }, { on := 10, ground := Ground.phase }], guard := none }) (v := ?_) rfl (by kernel_rfl) (by kernel_rfl) (by kernel_rfl) (fun _ _ _ h => h) (Or.inl ⟨by rfl, ?_⟩) (by assumption) ?_
  rotate_left
  focus (intro w hSw; (try dsimp only at hSw); go_simp <;> with_reducible rfl)
  try simp only [Act.put, List.setIfInBounds_toArray, List.set_cons_zero, List.set_cons_succ]
  refine wpAnyH_done (by kernel_rfl) ?_ _
  clear hHeld x1 x2'
  obtain ⟨e0, e1, -, -, -⟩ := HY.out.2.1.cells
  rw [show (List.range n).length = n by simp] at e0
  have hne : r2 ≠ rb := by
    have h1 := HY.out.2.2.2
    have h2 := lt_of_heap HR.out.head
    have h3 := HX2.out.size
    omega
  have hne' : rb ≠ r2 := fun q => hne q.symm
  have f0 := frozen_of HY.out.1.head 0
  have f1 := frozen_of HY.out.1.head 1
  have f2 := frozen_of HY.out.1.head 2
  obtain ⟨d0, d1, d2, -, -⟩ := HY.out.1.cells
  obtain ⟨ma, mc, hmv⟩ := own_form HY.out.2.1.home
  subst hmv
  rw [show (List.range n).length = n by simp] at e1
  have HF : Hid (RfClr B rb most n x (((y.setCell ⟨rb, 0, none⟩ (.slice (some ⟨g2, 0, none⟩) n k2)).setCell ⟨rb, 1, none⟩ (.slice ma n mc)).setCell ⟨rb, 2, none⟩ (.bool false))) := Lib.hid (by
    have hl : (List.range n).length = n := by simp
    have hks : Keep [rb] y (((y.setCell ⟨rb, 0, none⟩ (.slice (some ⟨g2, 0, none⟩) n k2)).setCell ⟨rb, 1, none⟩ (.slice ma n mc)).setCell ⟨rb, 2, none⟩ (.bool false)) := keepSet (keepSet (keepSet (Keep.refl _ _) (by simp) _ _) (by simp) _ _) (by simp) _ _
    have hC := HY.out.2.1
    have hB2 : B ≤ x2.heap.size := by
      have h2 := lt_of_heap HR.out.head
      have h3 := HX2.out.size
      have h4 := HR.out.rbB
      omega
    have hap : ∀ g, x2.heap.size ≤ g → g ∉ [rb] := fun g hg => by
      have h2 := lt_of_heap HR.out.head
      have h3 := HX2.out.size
      simp only [List.mem_singleton]; omega
    refine ⟨g2, k2, .slice ma n mc, ⟨?_, HR.out.rbB, own_lower (own_keep hC.all hks (fun g hg => hap _ (own_block hC.all hg).1)) hB2, own_lower (own_keep (by rw [← hl]; rw [← hl] at hC; simpa using hC.home) hks (fun g hg => hap _ (own_block hC.home (by rw [hl]; exact hg)).1)) hB2, List.nodup_range, fun _ _ => World.ownsRow_nil _ _ _ _, fun _ _ => World.ownsRow_nil _ _ _ _, (fun _ _ _ _ _ g q => nomatch q), (fun _ _ _ _ _ g q => nomatch q), fun _ _ => Nat.le_refl _, fun _ _ => Nat.le_refl _, hC.al⟩, Nat.le_trans HX2.out.size (own_block hC.all (g := g2) rfl).1, (HY.out.2.2.1.weaken (by simp)).trans hks⟩
    rw [hl]
    exact heap_set_same (heap_set_same (heap_set_same HY.out.1.head 0 _) 1 _) 2 _)
  go_wp2_with fail
  go_end0
  exact ⟨⟨_, rfl⟩, HF.out⟩

/-- A key in memory. -/
def keyV (R : RSt) (k : Nat) : List Value := [.int .u32 (R.kp k : Nat), .int .u32 (R.kr k : Nat)]

def RfKeys (R : RSt) (age : List Nat) (x : World) (e : Ending) (y : World) : Prop :=
  ∃ v, e = .returned v ∧ y.ownsRow x.heap.size 70 2 v (age.reverse.filter R.tk).length ((age.reverse.filter R.tk).flatMap (keyV R)) ∧ Keep [] x y

theorem info_key : (Try.prog.info? 70).map (fun i => (i.zero, i.size, i.bytes)) = some (some (.agg #[.int .u32 0, .int .u32 0]), 2, 8) := by kernel_rfl

theorem cells_two_new (w : World) (a b : Value) (t : TypeId) : ∀ j u, [a, b][j]? = some u → (w.alloc (.cells #[a, b] t)).cell? ((⟨w.heap.size, 0, none⟩ : Addr).add j) = some u := by
  intro j u hj
  have hh : (w.alloc (.cells #[a, b] t)).heap[w.heap.size]? = some (.cells #[a, b] t (0, 0)) := heap_alloc_at _ rfl
  match j, hj with
  | 0, hj => cases hj; exact cell_of hh 0 rfl
  | 1, hj => cases hj; exact cell_of hh 1 rfl

set_option maxHeartbeats 4000000 in
theorem rfkeys_at {x : World} {B rb most : Nat} {R : RSt} {age : List Nat} {use : Bool} {ga ca : Nat} {hv : Value} {c : Nat} (h : RcAt x B rb most R age use ga ca hv c) :
    Calls Try.prog 36 #[.pointer (some ⟨rb, 0, none⟩)] x (RfKeys R age x) := by
  have HR := Lib.hid h
  obtain ⟨c0, c1, c2, c3, c4⟩ := h.cells
  have hal := h.al
  obtain ⟨j0, hj0, hy0, hy1, hy2⟩ := info_parts info_key
  obtain ⟨n, hn⟩ : ∃ n, n = age.length := ⟨_, rfl⟩
  rw [← hn] at c0 hal
  have HN := Lib.hid hn
  have hal1 := hal.1
  have hal2 := hal.2
  have w1 : IntKind.i64.wrap ((n : Int) - 1) = (n : Int) - 1 := IntWalk.i64_in _ (by omega)
  clear h hn hal c1 c2 c3 c4
  go_enter Try.func36, Try.ntmps36
  go_wp2_with fail
  go_loopw [3, 4] (fun lv0 kv wr => ∃ (k : Nat) (lv : Value), lv = lv0 ∧ kv = .int .i64 ((k : Int) - 1) ∧ k ≤ n ∧ Hid (wr.ownsRow x.heap.size 70 2 lv ((age.drop k).reverse.filter R.tk).length (((age.drop k).reverse.filter R.tk).flatMap (keyV R)) ∧ Keep [] x wr)) (fun _ kv _ => (intOf kv + 1).toNat)
  case atStart => exact ⟨n, _, rfl, rfl, by omega, Lib.hid ⟨by rw [HN.out, List.drop_length]; exact World.ownsRow_nil _ _ _ _, Keep.refl _ _⟩⟩
  case round =>
    obtain ⟨k, lv, rfl, rfl, hk1, HJ⟩ := hrel
    rename World => wo
    have e0 := HJ.out.2.cell c0 (by simp)
    by_cases hk0 : k = 0
    · subst hk0
      have hk3 : ¬ ((0 : Int) ≤ ((0 : Nat) : Int) - 1) := by omega
      have HF : Hid (RfKeys R age x (.returned lv) wo) := Lib.hid ⟨lv, rfl, by simpa using HJ.out.1, HJ.out.2⟩
      go_wp2_with fail
      go_ret
      exact HF.out
    · obtain ⟨i, rfl⟩ : ∃ i, k = i + 1 := ⟨k - 1, by omega⟩
      have hi : i < age.length := by have := HN.out; omega
      have hkk : ((i + 1 : Nat) : Int) - 1 = (i : Int) := by omega
      rw [hkk]
      have hi0 : (0 : Int) ≤ (i : Int) := by omega
      have hi1 : (i : Int) < (n : Int) := by omega
      have w2 : IntKind.i64.wrap ((i : Int) - 1) = (i : Int) - 1 := IntWalk.i64_in _ (by omega)
      have hR := HR.out.keep0 HJ.out.2
      have q0 := hR.cell hi (j := 0) (by omega)
      have q1 := hR.cell hi (j := 1) (by omega)
      have q2 := hR.cell hi (j := 2) (by omega)
      have hdr : age.drop i = age[i] :: age.drop (i + 1) := List.drop_eq_getElem_cons hi
      obtain ⟨a, ha⟩ : ∃ z, z = age[i] := ⟨_, rfl⟩
      rw [← ha] at q0 q1 q2 hdr
      replace q0 : wo.cell? ⟨ga, i * 8, none⟩ = some (.bool (R.tk a)) := q0
      replace q1 : wo.cell? ⟨ga, i * 8 + 1, none⟩ = some (.int .u32 (R.kp a : Nat)) := q1
      replace q2 : wo.cell? ⟨ga, i * 8 + 2, none⟩ = some (.int .u32 (R.kr a : Nat)) := q2
      cases htk : R.tk a
      · have hf : (age.drop i).reverse.filter R.tk = (age.drop (i + 1)).reverse.filter R.tk := by
          rw [hdr, List.reverse_cons, List.filter_append]; simp [htk]
        rw [← hf] at HJ
        rw [htk] at q0
        clear hR ha hdr hf htk hkk
        go_wp2_with fail
        go_roundw
        case rel => exact ⟨i, _, rfl, rfl, by omega, HJ⟩
        case measure => simp [intOf]
      · have hf : (age.drop i).reverse.filter R.tk = (age.drop (i + 1)).reverse.filter R.tk ++ [a] := by
          rw [hdr, List.reverse_cons, List.filter_append]; simp [htk]
        obtain ⟨L, hL⟩ : ∃ L, L = (age.drop (i + 1)).reverse.filter R.tk := ⟨_, rfl⟩
        have hLl : L.length ≤ 8 := by
          have h1 := List.length_filter_le R.tk (age.drop (i + 1)).reverse
          rw [← hL] at h1
          have := HN.out
          simp at h1; omega
        rw [htk] at q0
        have HAP : Hid (∀ v' w1, w1.ownsRow x.heap.size 70 2 v' (L.length + 1) (L.flatMap (keyV R) ++ [.int .u32 (R.kp a : Nat), .int .u32 (R.kr a : Nat)]) → (wo.alloc (.cells #[.int .u32 (R.kp a : Nat), .int .u32 (R.kr a : Nat)] 70)).grownBy w1 lv.ownBlock → Hid (w1.ownsRow x.heap.size 70 2 v' ((age.drop i).reverse.filter R.tk).length (((age.drop i).reverse.filter R.tk).flatMap (keyV R)) ∧ Keep [] x w1)) := Lib.hid (fun v' w1 ho hgr => Lib.hid ⟨by
            rw [hf, ← hL, List.length_append, List.flatMap_append]; exact ho, grow_keep (Nat.le_refl _) HJ.out.2 HJ.out.1 hgr⟩)
        have hrow := HJ.out.1
        rw [← hL] at hrow
        have hxs := HJ.out.2.size
        generalize R.kp a = v1 at q1 HAP
        generalize R.kr a = v2 at q2 HAP
        clear hR ha hdr hf htk hkk hL HJ
        go_wp2_with (at_builtin; refine wpList_append_own _ rfl _ _ 84 rfl x.heap.size 70 j0 (.agg #[.int .u32 0, .int .u32 0]) 2 8 Try.underlying84 hj0 hy0 hy1 hy2 rfl (by decide) _ _ _ rfl (hrow.alloc _) ⟨wo.heap.size, 0, none⟩ 1 1 [.int .u32 v1, .int .u32 v2] rfl rfl (cells_two_new _ _ _ _) (by simp [Value.oneCell']) (by unfold maxLen; omega) (by omega) (by simp; omega) ?_; intro v' w2 hown' hgrow _; have HG := HAP.out _ _ hown' hgrow; clear hown' hgrow)
        go_roundw
        case rel => exact ⟨i, _, rfl, rfl, by omega, HG⟩
        case measure => simp [intOf]
end Go.Proofs.Ytpinoejckagjbaa
