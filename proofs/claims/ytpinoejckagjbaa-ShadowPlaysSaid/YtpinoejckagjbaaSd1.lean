/- The document's shadow: its lists in memory; a table sought; a page dropped. -/
import Derived.Test.YtpinoejckagjbaaSh9
import Derived.Test.YtpinoejckagjbaaLib
import Derived.RangeFuncBox
import Derived.Maps.AppendAt
import Derived.Outline
namespace Go.Proofs.Ytpinoejckagjbaa
open Go.RowKit Go.Mum
set_option linter.unusedVariables false
set_option linter.unusedSimpArgs false
set_option maxRecDepth 100000

abbrev Pg := Nat × Nat × Nat

def pgC (q : Pg) : List Value := [.int .u32 (q.1 : Nat), .int .i64 (q.2.1 : Nat), .int .u32 (q.2.2 : Nat)]
def pgL (ps : List Pg) : List Value := ps.flatMap pgC

theorem pgL_len (ps : List Pg) : (pgL ps).length = ps.length * 3 := by
  induction ps with
  | nil => rfl
  | cons q ps ih =>
    show (pgC q ++ pgL ps).length = _
    rw [List.length_append, ih]
    simp [pgC]; omega

theorem pgL_get : ∀ (ps : List Pg) (i : Nat) (hi : i < ps.length) (j : Nat), j < 3 → (pgL ps)[i * 3 + j]? = (pgC ps[i])[j]?
  | q :: ps, 0, _, j, hj => by
    show (pgC q ++ pgL ps)[0 * 3 + j]? = _
    rw [List.getElem?_append_left (by simp [pgC]; omega)]
    simp
  | q :: ps, i + 1, hi, j, hj => by
    show (pgC q ++ pgL ps)[(i + 1) * 3 + j]? = _
    rw [List.getElem?_append_right (by simp [pgC]; omega), show (i + 1) * 3 + j - (pgC q).length = i * 3 + j by simp [pgC]; omega]
    exact pgL_get ps i (by simpa using hi) j hj

/-- The document's shadow. -/
structure RS (x : World) (wb : Nat) (most : Nat) (ps : List Pg) (ts : List Nat) (pv tv : Value) : Prop where
  blk : x.heap[wb]? = some (.cells #[.int .i64 40, pv, tv, .int .i64 most] 46 (0, 0))
  prow : x.ownsRow (wb + 1) 65 3 pv ps.length (pgL ps)
  trow : x.ownsRow (wb + 1) 22 1 tv ts.length (ts.map fun z => .int .u32 (z : Nat))

theorem own_keep {w x : World} {base : Nat} {e : TypeId} {size : Nat} {v : Value} {n : Nat} {xs : List Value} (h : w.ownsRow base e size v n xs) {l : List Nat} (hk : Keep l w x) (hn : ∀ g, v.ownBlock = some g → g ∉ l) : x.ownsRow base e size v n xs := by
  obtain ⟨h1, h2⟩ := h
  refine ⟨h1, h2.imp id ?_⟩
  rintro ⟨g, cap, cur, rfl, a, b, c⟩
  exact ⟨g, cap, cur, rfl, a, hk.heap b (hn g rfl), c⟩

theorem own_block {w : World} {base : Nat} {e : TypeId} {size : Nat} {v : Value} {n : Nat} {xs : List Value} (h : w.ownsRow base e size v n xs) {g : Nat} (hg : v.ownBlock = some g) : base ≤ g ∧ g < w.heap.size := h.lt g hg

theorem own_base {w : World} {base base' : Nat} {e : TypeId} {size : Nat} {v : Value} {n : Nat} {xs : List Value} (h : w.ownsRow base e size v n xs) (hb : base' ≤ base) : w.ownsRow base' e size v n xs := by
  obtain ⟨h1, h2⟩ := h
  refine ⟨h1, h2.imp id ?_⟩
  rintro ⟨g, cap, cur, rfl, a, b, c⟩
  exact ⟨g, cap, cur, rfl, by omega, b, c⟩

theorem own_form {w : World} {base : Nat} {e : TypeId} {size : Nat} {v : Value} {n : Nat} {xs : List Value} (h : w.ownsRow base e size v n xs) : ∃ a cap, v = .slice a n cap := by
  rcases h.2 with ⟨rfl, rfl⟩ | ⟨g, cap, cur, rfl, _⟩
  · exact ⟨_, _, rfl⟩
  · exact ⟨_, _, rfl⟩

theorem own_some {w : World} {base : Nat} {e : TypeId} {size : Nat} {a : Option Addr} {cap n : Nat} {xs : List Value} (h : w.ownsRow base e size (.slice a n cap) n xs) (hn : 0 < n) : ∃ g, a = some ⟨g, 0, none⟩ ∧ ∀ j, j < n * size → w.cell? ⟨g, j, none⟩ = xs[j]? := by
  rcases h.2 with ⟨_, h0⟩ | ⟨g, cap', cur, h1, _⟩
  · omega
  · cases h1
    exact ⟨g, rfl, fun j hj => h.cellAt j hj⟩

theorem RS.keep {x y : World} {wb most : Nat} {ps : List Pg} {ts : List Nat} {pv tv : Value} (h : RS x wb most ps ts pv tv) {l : List Nat} (hk : Keep l x y) (hl : ∀ k ∈ l, k < wb) : RS y wb most ps ts pv tv :=
  ⟨hk.heap h.blk (fun q => by have := hl _ q; omega), own_keep h.prow hk (fun g hg q => by have := own_block h.prow hg; have := hl _ q; omega), own_keep h.trow hk (fun g hg q => by have := own_block h.trow hg; have := hl _ q; omega)⟩

theorem RS.cells {x : World} {wb most : Nat} {ps : List Pg} {ts : List Nat} {pv tv : Value} (h : RS x wb most ps ts pv tv) :
    x.cell? ⟨wb, 0, none⟩ = some (.int .i64 40) ∧ x.cell? ⟨wb, 1, none⟩ = some pv ∧ x.cell? ⟨wb, 2, none⟩ = some tv ∧ x.cell? ⟨wb, 3, none⟩ = some (.int .i64 most) :=
  ⟨cell_of h.blk 0 rfl, cell_of h.blk 1 rfl, cell_of h.blk 2 rfl, cell_of h.blk 3 rfl⟩

set_option maxHeartbeats 1000000 in
theorem rshas_at {x : World} {wb most : Nat} {ps : List Pg} {ts : List Nat} {pv tv : Value} (h : RS x wb most ps ts pv tv) (hl : ts.length ≤ 1000) (n : Nat) :
    Calls Try.prog 83 #[.pointer (some ⟨wb, 0, none⟩), .int .u32 n] x fun e y => e = .returned (.bool (decide (n ∈ ts))) ∧ x = y := by
  obtain ⟨c0, c1, c2, c3⟩ := h.cells
  obtain ⟨ta, tc, rfl⟩ := own_form h.trow
  have HT := Lib.hid h.trow
  clear h
  go_enter Try.func83, Try.ntmps83
  go_wp2_with fail
  go_loopw [5] (fun kv wr => ∃ k : Nat, kv = .int .i64 k ∧ k ≤ ts.length ∧ x = wr ∧ Hid (∀ j (hj : j < ts.length), j < k → ts[j] ≠ n)) (fun kv _ => ts.length - (intOf kv).toNat)
  case atStart => exact ⟨0, rfl, by omega, rfl, Lib.hid (fun j hj h => by omega)⟩
  case round =>
    obtain ⟨k, rfl, hk1, rfl, HJ⟩ := hrel
    by_cases hkl : k < ts.length
    · obtain ⟨g, rfl, hg⟩ := own_some HT.out (by omega)
      have hgk := hg k (by omega)
      rw [List.getElem?_map, List.getElem?_eq_getElem hkl] at hgk
      replace hgk : x.cell? ⟨g, k, none⟩ = some (.int .u32 (ts[k] : Nat)) := hgk
      have hk0 : (0 : Int) ≤ (k : Int) := by omega
      have hk3 : (k : Int) < (ts.length : Int) := by omega
      obtain ⟨tk, htk⟩ : ∃ z, z = ts[k] := ⟨_, rfl⟩
      rw [← htk] at hgk
      clear hg
      by_cases he : tk = n
      · have HF : Hid (decide (n ∈ ts) = true) := Lib.hid (decide_eq_true (by rw [← he, htk]; exact List.getElem_mem hkl))
        subst he
        clear htk
        go_wp2_with fail
        go_ret
        exact ⟨by rw [HF.out]; rfl, rfl⟩
      · have HJ2 : Hid (∀ j (hj : j < ts.length), j < k + 1 → ts[j] ≠ n) := Lib.hid (fun j hj h => by
          rcases (by omega : j < k ∨ j = k) with h | rfl
          · exact HJ.out j hj h
          · rw [← htk]; exact he)
        have he' : ((tk : Int) == (n : Int)) = false := by rw [beq_eq_false_iff_ne]; omega
        have he2 : (tk == n) = false := by rw [beq_eq_false_iff_ne]; exact he
        have he3 : decide (tk = n) = false := decide_eq_false he
        clear htk
        go_wp2_with fail
        go_roundw
        case rel => exact ⟨k + 1, by go_num, by omega, trivial, HJ2⟩
        case measure => simp [intOf]; omega
    · have HF : Hid (decide (n ∈ ts) = false) := Lib.hid (decide_eq_false (fun h => by
        obtain ⟨j, hj, e⟩ := List.getElem_of_mem h
        exact HJ.out j hj (by omega) e))
      have hk3 : ¬ ((k : Int) < (ts.length : Int)) := by omega
      clear HJ hk1
      go_wp2_with fail
      go_ret
      exact ⟨by rw [HF.out]; rfl, rfl⟩

theorem cells_three_new (w : World) (a b c : Value) (t : TypeId) : ∀ j u, [a, b, c][j]? = some u → (w.alloc (.cells #[a, b, c] t)).cell? ((⟨w.heap.size, 0, none⟩ : Addr).add j) = some u := by
  intro j u hj
  have hadd : (⟨w.heap.size, 0, none⟩ : Addr).add j = ⟨w.heap.size, j, none⟩ := by unfold Addr.add; split <;> simp_all
  rw [hadd]
  exact cell_of (heap_alloc_same w _) j (by simpa using hj)

theorem info_page : (Try.prog.info? 65).map (fun i => (i.zero, i.size, i.bytes)) = some (some (.agg #[.int .u32 0, .int .i64 0, .int .u32 0]), 3, 24) := by kernel_rfl

/-- What the document's drop leaves: the pages but one. -/
def RDrop (wb most : Nat) (ps : List Pg) (ts : List Nat) (tv : Value) (pg : Nat) (x y : World) : Prop :=
  ∃ pv', RS y wb most (ps.filter (fun q => decide (q.1 ≠ pg))) ts pv' tv ∧ Keep [wb] x y

set_option maxHeartbeats 2000000 in
theorem rsdrop_at {x : World} {wb most : Nat} {ps : List Pg} {ts : List Nat} {pv tv : Value} (h : RS x wb most ps ts pv tv) (hl : ps.length ≤ 1000) (va : Nat) (hv : va < 4294967296) :
    Calls Try.prog 53 #[.pointer (some ⟨wb, 0, none⟩), .int .u32 va] x fun e y => (∃ v, e = .returned v) ∧ RDrop wb most ps ts tv (va - va % 64) x y := by
  obtain ⟨c0, c1, c2, c3⟩ := h.cells
  have HR := Lib.hid h
  obtain ⟨i0, hi, hz0, hz1, hz2⟩ := info_parts info_page
  obtain ⟨pa, pc, hpv⟩ := own_form h.prow
  have HP := Lib.hid h.prow
  subst hpv
  obtain ⟨m, hm⟩ : ∃ m, m = va % 64 := ⟨_, rfl⟩
  obtain ⟨pg, hpg⟩ : ∃ p, p = va - va % 64 := ⟨_, rfl⟩
  have t1 : ((va : Int)).tmod 64 = (m : Int) := by rw [Int.tmod_eq_emod_of_nonneg (by omega)]; omega
  have u1 : (va : Int) % 64 = (m : Int) := by omega
  have u2 : IntKind.u32.wrap ((va : Int) - (m : Int)) = (pg : Int) := by rw [IntWalk.u32_in _ (by omega)]; omega
  rw [← hpg]
  clear h hm hpg
  go_enter Try.func53, Try.ntmps53
  go_wp2_with fail
  go_loopw [4, 5] (fun lv0 kv wr => ∃ (k : Nat) (L : List Pg) (lv : Value), lv = lv0 ∧ kv = .int .i64 k ∧ k ≤ ps.length ∧ L.length ≤ k ∧ Hid (L = (ps.take k).filter (fun q => decide (q.1 ≠ pg)) ∧ wr.ownsRow x.heap.size 65 3 lv L.length (pgL L) ∧ Keep [] x wr)) (fun _ kv _ => ps.length - (intOf kv).toNat)
  case atStart => exact ⟨0, [], _, rfl, rfl, by omega, by simp, Lib.hid ⟨by simp, World.ownsRow_nil _ _ _ _, Keep.refl _ _⟩⟩
  case round =>
    obtain ⟨k, L, lv, rfl, rfl, hk1, hL, HJ⟩ := hrel
    rename World => wo
    by_cases hkl : k < ps.length
    · obtain ⟨g, rfl, hg⟩ := own_some HP.out (by omega)
      have hq0 := hg (k * 3 + 0) (by omega)
      have hq1 := hg (k * 3 + 1) (by omega)
      have hq2 := hg (k * 3 + 2) (by omega)
      rw [pgL_get ps k hkl _ (by omega)] at hq0 hq1 hq2
      obtain ⟨q, hq⟩ : ∃ q, q = ps[k] := ⟨_, rfl⟩
      rw [← hq] at hq0 hq1 hq2
      have hk := HJ.out.2.2
      replace hq0 : wo.cell? ⟨g, k * 3, none⟩ = some (.int .u32 (q.1 : Nat)) := hk.cell hq0 (by simp)
      replace hq1 : wo.cell? ⟨g, k * 3 + 1, none⟩ = some (.int .i64 (q.2.1 : Nat)) := hk.cell hq1 (by simp)
      replace hq2 : wo.cell? ⟨g, k * 3 + 2, none⟩ = some (.int .u32 (q.2.2 : Nat)) := hk.cell hq2 (by simp)
      have e0 := hk.cell c0 (by simp)
      have e1 := hk.cell c1 (by simp)
      have hk0 : (0 : Int) ≤ (k : Int) := by omega
      have hk3 : (k : Int) < (ps.length : Int) := by omega
      have HQ := Lib.hid hq
      obtain ⟨qa, qf, qb⟩ := q
      simp only at hq0 hq1 hq2
      clear hg hq hk c0 c1 c2 c3
      have htake : ps.take (k + 1) = ps.take k ++ [(qa, qf, qb)] := by
        rw [List.take_add_one, List.getElem?_eq_getElem hkl, HQ.out]; rfl
      have HTK := Lib.hid htake
      clear htake
      by_cases he : qa = pg
      · have HJ2 : Hid (L = (ps.take (k + 1)).filter (fun q => decide (q.1 ≠ pg)) ∧ wo.ownsRow x.heap.size 65 3 lv L.length (pgL L) ∧ Keep [] x wo) := Lib.hid ⟨by
          rw [HTK.out, List.filter_append, ← HJ.out.1]
          simp [he], HJ.out.2⟩
        subst he
        go_wp2_with fail
        go_roundw
        case rel => exact ⟨k + 1, L, _, rfl, by go_num, by omega, by omega, HJ2⟩
        case measure => simp [intOf]; omega
      · have he' : ((qa : Int) == (pg : Int)) = false := by rw [beq_eq_false_iff_ne]; omega
        have he2 : (qa == pg) = false := by rw [beq_eq_false_iff_ne]; exact he
        have HE := Lib.hid he
        have hrow := HJ.out.2.1
        have hxs := HJ.out.2.2.size
        have HJ3 : Hid (∀ v' w1, w1.ownsRow x.heap.size 65 3 v' (L.length + 1) (pgL L ++ pgC (qa, qf, qb)) → (wo.alloc (.cells #[.int .u32 qa, .int .i64 qf, .int .u32 qb] 65)).grownBy w1 lv.ownBlock → Hid ((L ++ [(qa, qf, qb)]) = (ps.take (k + 1)).filter (fun q => decide (q.1 ≠ pg)) ∧ w1.ownsRow x.heap.size 65 3 v' (L ++ [(qa, qf, qb)]).length (pgL (L ++ [(qa, qf, qb)])) ∧ Keep [] x w1)) := Lib.hid (fun v' w1 ho hgr => Lib.hid ⟨by
          rw [HTK.out, List.filter_append, ← HJ.out.1]
          simp [HE.out], by
          rw [List.length_append]
          have : pgL (L ++ [(qa, qf, qb)]) = pgL L ++ pgC (qa, qf, qb) := by simp [pgL]
          rw [this]
          exact ho, by
          refine ⟨hgr.os.trans (HJ.out.2.2.os), hgr.tape.trans HJ.out.2.2.tape, hgr.output.trans HJ.out.2.2.output, Nat.le_trans HJ.out.2.2.size (Nat.le_trans (by simp) hgr.size), fun b hb _ => ?_⟩
          have h1 := hgr.block b (by have := HJ.out.2.2.size; simp; omega) (by
            intro hh
            have := own_block HJ.out.2.1 hh.symm
            omega)
          rw [h1, Below.heap_alloc _ _ _ (by have := HJ.out.2.2.size; omega)]
          exact HJ.out.2.2.block b hb (by simp)⟩)
        clear he
        go_wp2_with (at_builtin; refine wpList_append_own _ rfl _ _ 43 rfl x.heap.size 65 i0 (.agg #[.int .u32 0, .int .i64 0, .int .u32 0]) 3 24 Try.underlying43 hi hz0 hz1 hz2 rfl (by decide) _ _ _ rfl (hrow.alloc _) ⟨wo.heap.size, 0, none⟩ 1 1 (pgC (qa, qf, qb)) rfl rfl (cells_three_new _ _ _ _ _) (by simp [pgC, Value.oneCell']) (by unfold maxLen; omega) (by omega) (by simp; omega) ?_; intro v' w1 hown' hgrow _)
        go_roundw
        case rel => exact ⟨k + 1, L ++ [(qa, qf, qb)], _, rfl, by go_num, by omega, by simp; omega, HJ3.out _ _ hown' hgrow⟩
        case measure => simp [intOf]; omega
    · obtain ⟨la, lc, rfl⟩ := own_form HJ.out.2.1
      have hk3 : ¬ ((k : Int) < (ps.length : Int)) := by omega
      have hk := HJ.out.2.2
      have e1 := hk.cell c1 (by simp)
      have f1 : wo.frozen? ⟨wb, 1, none⟩ = false := frozen_of (hk.heap HR.out.blk (by simp)) 1
      have hLf : L = ps.filter (fun q => decide (q.1 ≠ pg)) := by
        have := HJ.out.1
        rw [List.take_of_length_le (by omega)] at this
        exact this
      have HF : Hid (RDrop wb most ps ts tv pg x (wo.setCell ⟨wb, 1, none⟩ (.slice la L.length lc))) := Lib.hid (by
        have hwb : wb < x.heap.size := lt_of_heap HR.out.blk
        have hks : Keep [wb] wo (wo.setCell ⟨wb, 1, none⟩ (.slice la L.length lc)) := keepSet (Keep.refl _ _) (by simp) _ _
        refine ⟨_, ⟨heap_set_same (hk.heap HR.out.blk (by simp)) 1 _, ?_, ?_⟩, (hk.weaken (by simp)).trans hks⟩
        · rw [← hLf]
          refine own_keep ?_ hks (fun g hg => ?_)
          · exact own_base HJ.out.2.1 (by omega)
          · have := own_block HJ.out.2.1 hg
            simp; omega
        · exact own_keep (own_keep HR.out.trow hk (fun _ _ => by simp)) hks (fun g hg => by have := own_block HR.out.trow hg; simp; omega))
      clear hk hLf c0 c1 c2 c3
      go_wp2_with fail
      go_end0
      exact ⟨⟨_, rfl⟩, HF.out⟩
end Go.Proofs.Ytpinoejckagjbaa
