/- Contracts of the functions that the law reaches, walked, and the plain laws on them (several texts in one). -/
import Derived.Test.YtpinoejckagjbaaM20

/- The document's shadow at any place of a row: has, drop, clear. -/
namespace Go.Proofs.Ytpinoejckagjbaa
open Go.RowKit Go.Mum
set_option linter.unusedVariables false
set_option linter.unusedSimpArgs false
set_option maxRecDepth 100000

def fset (f : Nat → Value) (i : Nat) (v : Value) : Nat → Value := fun j => if j = i then v else f j
theorem fset_same {f : Nat → Value} {i : Nat} {v : Value} : fset f i v i = v := if_pos rfl
theorem fset_ne {f : Nat → Value} {i j : Nat} {v : Value} (h : j ≠ i) : fset f i v j = f j := if_neg h

/-- The document's shadow, four cells of a row. -/
structure RSI (x : World) (B wb wo : Nat) (t : TypeId) (nc : Nat) (f : Nat → Value) (most : Int) (ps : List Pg) (ts : List Nat) (pv tv : Value) : Prop where
  arr : ArrAt x wb t nc f
  hn : wo + 3 < nc
  hB : B ≤ x.heap.size
  v0 : f wo = .int .i64 60
  v1 : f (wo + 1) = pv
  v2 : f (wo + 2) = tv
  v3 : f (wo + 3) = .int .i64 most
  prow : x.ownsRow B 65 3 pv ps.length (pgL ps)
  trow : x.ownsRow B 22 1 tv ts.length (ts.map fun z => .int .u32 (z : Nat))
  nep : pv.ownBlock ≠ some wb
  net : tv.ownBlock ≠ some wb

section
variable {x y : World} {B wb wo : Nat} {t : TypeId} {nc : Nat} {f : Nat → Value} {most : Int} {ps : List Pg} {ts : List Nat} {pv tv : Value}

theorem RSI.cells (h : RSI x B wb wo t nc f most ps ts pv tv) :
    x.cell? ⟨wb, wo, none⟩ = some (.int .i64 60) ∧ x.cell? ⟨wb, wo + 1, none⟩ = some pv ∧ x.cell? ⟨wb, wo + 2, none⟩ = some tv ∧ x.cell? ⟨wb, wo + 3, none⟩ = some (.int .i64 most) := by
  have hn := h.hn
  exact ⟨by rw [ArrAt.cell h.arr (by omega), h.v0], by rw [ArrAt.cell h.arr (by omega), h.v1], by rw [ArrAt.cell h.arr (by omega), h.v2], by rw [ArrAt.cell h.arr (by omega), h.v3]⟩

theorem RSI.keep (h : RSI x B wb wo t nc f most ps ts pv tv) {l : List Nat} (hk : Keep l x y) (h1 : wb ∉ l) (h2 : ∀ g, pv.ownBlock = some g → g ∉ l) (h3 : ∀ g, tv.ownBlock = some g → g ∉ l) : RSI y B wb wo t nc f most ps ts pv tv :=
  ⟨ArrAt.keep h.arr hk h1, h.hn, Nat.le_trans h.hB hk.size, h.v0, h.v1, h.v2, h.v3, own_keep h.prow hk h2, own_keep h.trow hk h3, h.nep, h.net⟩

theorem RSI.keep0 (h : RSI x B wb wo t nc f most ps ts pv tv) (hk : Keep [] x y) : RSI y B wb wo t nc f most ps ts pv tv := h.keep hk (by simp) (fun _ _ => by simp) (fun _ _ => by simp)

theorem RSI.setp (h : RSI x B wb wo t nc f most ps ts pv tv) {pv' : Value} {ps' : List Pg} (ho : x.ownsRow B 65 3 pv' ps'.length (pgL ps')) (hn : pv'.ownBlock ≠ some wb) : RSI (x.setCell ⟨wb, wo + 1, none⟩ pv') B wb wo t nc (fset f (wo + 1) pv') most ps' ts pv' tv := by
  have hk : Keep [wb] x (x.setCell ⟨wb, wo + 1, none⟩ pv') := keepSet (Keep.refl _ _) (by simp) _ _
  refine ⟨ArrAt.set h.arr _ _, h.hn, Nat.le_trans h.hB hk.size, by rw [fset_ne (by omega), h.v0], fset_same, by rw [fset_ne (by omega), h.v2], by rw [fset_ne (by omega), h.v3], own_keep ho hk (fun g hg => ?_), own_keep h.trow hk (fun g hg => ?_), hn, h.net⟩
  · simp only [List.mem_singleton]; rintro rfl; exact hn hg
  · simp only [List.mem_singleton]; rintro rfl; exact h.net hg

theorem RSI.sett (h : RSI x B wb wo t nc f most ps ts pv tv) {tv' : Value} {ts' : List Nat} (ho : x.ownsRow B 22 1 tv' ts'.length (ts'.map fun z => .int .u32 (z : Nat))) (hn : tv'.ownBlock ≠ some wb) : RSI (x.setCell ⟨wb, wo + 2, none⟩ tv') B wb wo t nc (fset f (wo + 2) tv') most ps ts' pv tv' := by
  have hk : Keep [wb] x (x.setCell ⟨wb, wo + 2, none⟩ tv') := keepSet (Keep.refl _ _) (by simp) _ _
  refine ⟨ArrAt.set h.arr _ _, h.hn, Nat.le_trans h.hB hk.size, by rw [fset_ne (by omega), h.v0], by rw [fset_ne (by omega), h.v1], fset_same, by rw [fset_ne (by omega), h.v3], own_keep h.prow hk (fun g hg => ?_), own_keep ho hk (fun g hg => ?_), h.nep, hn⟩
  · simp only [List.mem_singleton]; rintro rfl; exact h.nep hg
  · simp only [List.mem_singleton]; rintro rfl; exact hn hg
end

set_option maxHeartbeats 1000000 in
theorem rihas_at {x : World} {B wb wo : Nat} {t : TypeId} {nc : Nat} {f : Nat → Value} {most : Int} {ps : List Pg} {ts : List Nat} {pv tv : Value} (h : RSI x B wb wo t nc f most ps ts pv tv) (hl : ts.length ≤ 1000) (n : Nat) :
    Calls Try.prog 83 #[.pointer (some ⟨wb, wo, none⟩), .int .u32 n] x fun e y => e = .returned (.bool (decide (n ∈ ts))) ∧ x = y := by
  obtain ⟨c0, c1, c2, c3⟩ := h.cells
  obtain ⟨ta, tc, rfl⟩ := own_form h.trow
  have HT := Lib.hid h.trow
  clear h
  go_enter Try.func83, Try.ntmps83
  go_wp2_with fail
  go_loopw [5] (fun kv wr => ∃ k : Nat, kv = .int .i64 k ∧ k ≤ ts.length ∧ x = wr ∧ Hid (∀ j (hj : j < ts.length), j < k → ts[j] ≠ n)) (fun kv _ => ts.length - (intOf kv).toNat)
  case atStart => exact ⟨0, rfl, by omega, rfl, Lib.hid (fun j hj h => by omega)⟩
  case round =>
    obtain ⟨k, rfl, hk1, rfl, HJ⟩ := hrel
    by_cases hkl : k < ts.length
    · obtain ⟨g, rfl, hg⟩ := own_some HT.out (by omega)
      have hgk := hg k (by omega)
      rw [List.getElem?_map, List.getElem?_eq_getElem hkl] at hgk
      replace hgk : x.cell? ⟨g, k, none⟩ = some (.int .u32 (ts[k] : Nat)) := hgk
      have hk0 : (0 : Int) ≤ (k : Int) := by omega
      have hk3 : (k : Int) < (ts.length : Int) := by omega
      obtain ⟨tk, htk⟩ : ∃ z, z = ts[k] := ⟨_, rfl⟩
      rw [← htk] at hgk
      clear hg
      by_cases he : tk = n
      · have HF : Hid (decide (n ∈ ts) = true) := Lib.hid (decide_eq_true (by rw [← he, htk]; exact List.getElem_mem hkl))
        subst he
        clear htk
        go_wp2_with fail
        go_ret
        exact ⟨by rw [HF.out]; rfl, rfl⟩
      · have HJ2 : Hid (∀ j (hj : j < ts.length), j < k + 1 → ts[j] ≠ n) := Lib.hid (fun j hj h => by
          rcases (by omega : j < k ∨ j = k) with h | rfl
          · exact HJ.out j hj h
          · rw [← htk]; exact he)
        have he' : ((tk : Int) == (n : Int)) = false := by rw [beq_eq_false_iff_ne]; omega
        have he2 : (tk == n) = false := by rw [beq_eq_false_iff_ne]; exact he
        have he3 : decide (tk = n) = false := decide_eq_false he
        clear htk
        go_wp2_with fail
        go_roundw
        case rel => exact ⟨k + 1, by go_num, by omega, trivial, HJ2⟩
        case measure => simp [intOf]; omega
    · have HF : Hid (decide (n ∈ ts) = false) := Lib.hid (decide_eq_false (fun h => by
        obtain ⟨j, hj, e⟩ := List.getElem_of_mem h
        exact HJ.out j hj (by omega) e))
      have hk3 : ¬ ((k : Int) < (ts.length : Int)) := by omega
      clear HJ hk1
      go_wp2_with fail
      go_ret
      exact ⟨by rw [HF.out]; rfl, rfl⟩

/-- What the document's drop leaves: the pages but one. -/
def RIDrop (B wb wo : Nat) (t : TypeId) (nc : Nat) (f : Nat → Value) (most : Int) (ps : List Pg) (ts : List Nat) (tv : Value) (pg : Nat) (x y : World) : Prop :=
  ∃ pv', RSI y B wb wo t nc (fset f (wo + 1) pv') most (ps.filter (fun q => decide (q.1 ≠ pg))) ts pv' tv ∧ (∀ g, pv'.ownBlock = some g → x.heap.size ≤ g) ∧ Keep [wb] x y

set_option maxHeartbeats 2000000 in
theorem ridrop_at {x : World} {B wb wo : Nat} {t : TypeId} {nc : Nat} {f : Nat → Value} {most : Int} {ps : List Pg} {ts : List Nat} {pv tv : Value} (h : RSI x B wb wo t nc f most ps ts pv tv) (hl : ps.length ≤ 1000) (va : Nat) (hv : va < 4294967296) :
    Calls Try.prog 53 #[.pointer (some ⟨wb, wo, none⟩), .int .u32 va] x fun e y => (∃ v, e = .returned v) ∧ RIDrop B wb wo t nc f most ps ts tv (va - va % 64) x y := by
  obtain ⟨c0, c1, c2, c3⟩ := h.cells
  have HR := Lib.hid h
  obtain ⟨i0, hi, hz0, hz1, hz2⟩ := info_parts info_page
  obtain ⟨pa, pc, hpv⟩ := own_form h.prow
  have HP := Lib.hid h.prow
  subst hpv
  obtain ⟨m, hm⟩ : ∃ m, m = va % 64 := ⟨_, rfl⟩
  obtain ⟨pg, hpg⟩ : ∃ p, p = va - va % 64 := ⟨_, rfl⟩
  have t1 : ((va : Int)).tmod 64 = (m : Int) := by rw [Int.tmod_eq_emod_of_nonneg (by omega)]; omega
  have u1 : (va : Int) % 64 = (m : Int) := by omega
  have u2 : IntKind.u32.wrap ((va : Int) - (m : Int)) = (pg : Int) := by rw [IntWalk.u32_in _ (by omega)]; omega
  rw [← hpg]
  clear h hm hpg
  go_enter Try.func53, Try.ntmps53
  go_wp2_with fail
  go_loopw [4, 5] (fun lv0 kv wr => ∃ (k : Nat) (L : List Pg) (lv : Value), lv = lv0 ∧ kv = .int .i64 k ∧ k ≤ ps.length ∧ L.length ≤ k ∧ Hid (L = (ps.take k).filter (fun q => decide (q.1 ≠ pg)) ∧ wr.ownsRow x.heap.size 65 3 lv L.length (pgL L) ∧ Keep [] x wr)) (fun _ kv _ => ps.length - (intOf kv).toNat)
  case atStart => exact ⟨0, [], _, rfl, rfl, by omega, by simp, Lib.hid ⟨by simp, World.ownsRow_nil _ _ _ _, Keep.refl _ _⟩⟩
  case round =>
    obtain ⟨k, L, lv, rfl, rfl, hk1, hL, HJ⟩ := hrel
    rename World => wq
    by_cases hkl : k < ps.length
    · obtain ⟨g, rfl, hg⟩ := own_some HP.out (by omega)
      have hq0 := hg (k * 3 + 0) (by omega)
      have hq1 := hg (k * 3 + 1) (by omega)
      have hq2 := hg (k * 3 + 2) (by omega)
      rw [pgL_get ps k hkl _ (by omega)] at hq0 hq1 hq2
      obtain ⟨q, hq⟩ : ∃ q, q = ps[k] := ⟨_, rfl⟩
      rw [← hq] at hq0 hq1 hq2
      have hk := HJ.out.2.2
      replace hq0 : wq.cell? ⟨g, k * 3, none⟩ = some (.int .u32 (q.1 : Nat)) := hk.cell hq0 (by simp)
      replace hq1 : wq.cell? ⟨g, k * 3 + 1, none⟩ = some (.int .i64 (q.2.1 : Nat)) := hk.cell hq1 (by simp)
      replace hq2 : wq.cell? ⟨g, k * 3 + 2, none⟩ = some (.int .u32 (q.2.2 : Nat)) := hk.cell hq2 (by simp)
      have e0 := hk.cell c0 (by simp)
      have e1 := hk.cell c1 (by simp)
      have hk0 : (0 : Int) ≤ (k : Int) := by omega
      have hk3 : (k : Int) < (ps.length : Int) := by omega
      have HQ := Lib.hid hq
      obtain ⟨qa, qf, qb⟩ := q
      simp only at hq0 hq1 hq2
      clear hg hq hk c0 c1 c2 c3
      have htake : ps.take (k + 1) = ps.take k ++ [(qa, qf, qb)] := by
        rw [List.take_add_one, List.getElem?_eq_getElem hkl, HQ.out]; rfl
      have HTK := Lib.hid htake
      clear htake
      by_cases he : qa = pg
      · have HJ2 : Hid (L = (ps.take (k + 1)).filter (fun q => decide (q.1 ≠ pg)) ∧ wq.ownsRow x.heap.size 65 3 lv L.length (pgL L) ∧ Keep [] x wq) := Lib.hid ⟨by
          rw [HTK.out, List.filter_append, ← HJ.out.1]
          simp [he], HJ.out.2⟩
        subst he
        go_wp2_with fail
        go_roundw
        case rel => exact ⟨k + 1, L, _, rfl, by go_num, by omega, by omega, HJ2⟩
        case measure => simp [intOf]; omega
      · have he' : ((qa : Int) == (pg : Int)) = false := by rw [beq_eq_false_iff_ne]; omega
        have he2 : (qa == pg) = false := by rw [beq_eq_false_iff_ne]; exact he
        have HE := Lib.hid he
        have hrow := HJ.out.2.1
        have hxs := HJ.out.2.2.size
        have HJ3 : Hid (∀ v' w1, w1.ownsRow x.heap.size 65 3 v' (L.length + 1) (pgL L ++ pgC (qa, qf, qb)) → (wq.alloc (.cells #[.int .u32 qa, .int .i64 qf, .int .u32 qb] 65)).grownBy w1 lv.ownBlock → Hid ((L ++ [(qa, qf, qb)]) = (ps.take (k + 1)).filter (fun q => decide (q.1 ≠ pg)) ∧ w1.ownsRow x.heap.size 65 3 v' (L ++ [(qa, qf, qb)]).length (pgL (L ++ [(qa, qf, qb)])) ∧ Keep [] x w1)) := Lib.hid (fun v' w1 ho hgr => Lib.hid ⟨by
          rw [HTK.out, List.filter_append, ← HJ.out.1]
          simp [HE.out], by
          rw [List.length_append]
          have : pgL (L ++ [(qa, qf, qb)]) = pgL L ++ pgC (qa, qf, qb) := by simp [pgL]
          rw [this]
          exact ho, by
          refine ⟨hgr.os.trans (HJ.out.2.2.os), hgr.tape.trans HJ.out.2.2.tape, hgr.output.trans HJ.out.2.2.output, Nat.le_trans HJ.out.2.2.size (Nat.le_trans (by simp) hgr.size), fun b hb _ => ?_⟩
          have h1 := hgr.block b (by have := HJ.out.2.2.size; simp; omega) (by
            intro hh
            have := own_block HJ.out.2.1 hh.symm
            omega)
          rw [h1, Below.heap_alloc _ _ _ (by have := HJ.out.2.2.size; omega)]
          exact HJ.out.2.2.block b hb (by simp)⟩)
        clear he
        go_wp2_with (at_builtin; refine wpList_append_own _ rfl _ _ 43 rfl x.heap.size 65 i0 (.agg #[.int .u32 0, .int .i64 0, .int .u32 0]) 3 24 Try.underlying43 hi hz0 hz1 hz2 rfl (by decide) _ _ _ rfl (hrow.alloc _) ⟨wq.heap.size, 0, none⟩ 1 1 (pgC (qa, qf, qb)) rfl rfl (cells_three_new _ _ _ _ _) (by simp [pgC, Value.oneCell']) (by unfold maxLen; omega) (by omega) (by simp; omega) ?_; intro v' w1 hown' hgrow _)
        go_roundw
        case rel => exact ⟨k + 1, L ++ [(qa, qf, qb)], _, rfl, by go_num, by omega, by simp; omega, HJ3.out _ _ hown' hgrow⟩
        case measure => simp [intOf]; omega
    · obtain ⟨la, lc, rfl⟩ := own_form HJ.out.2.1
      have hk3 : ¬ ((k : Int) < (ps.length : Int)) := by omega
      have hk := HJ.out.2.2
      have e1 := hk.cell c1 (by simp)
      have f1 : wq.frozen? ⟨wb, wo + 1, none⟩ = false := ArrAt.frozen (HR.out.keep0 hk).arr _
      have hLf : L = ps.filter (fun q => decide (q.1 ≠ pg)) := by
        have := HJ.out.1
        rw [List.take_of_length_le (by omega)] at this
        exact this
      have HF : Hid (RIDrop B wb wo t nc f most ps ts tv pg x (wq.setCell ⟨wb, wo + 1, none⟩ (.slice la L.length lc))) := Lib.hid (by
        have hwb : wb < x.heap.size := ArrAt.lt HR.out.arr
        have hR := HR.out.keep0 hk
        have hxs := hk.size
        have hfresh : ∀ g, (Value.slice la L.length lc).ownBlock = some g → x.heap.size ≤ g := fun g hg => (own_block HJ.out.2.1 hg).1
        refine ⟨.slice la L.length lc, ?_, hfresh, (hk.weaken (by simp)).trans (keepSet (Keep.refl _ _) (by simp) _ _)⟩
        rw [← hLf]
        exact hR.setp (own_base HJ.out.2.1 (by have := HR.out.hB; omega)) (fun hg => by have := hfresh _ hg; omega))
      clear hk hLf c0 c1 c2 c3
      go_wp2_with fail
      go_end0
      exact ⟨⟨_, rfl⟩, HF.out⟩

/-- What the document's clearing leaves. -/
def RIClear (B wb wo : Nat) (t : TypeId) (nc : Nat) (f : Nat → Value) (most : Int) (x y : World) : Prop := RSI y B wb wo t nc (fset (fset f (wo + 1) (.slice none 0 0)) (wo + 2) (.slice none 0 0)) most [] [] (.slice none 0 0) (.slice none 0 0) ∧ Keep [wb] x y

theorem riclear_at {x : World} {B wb wo : Nat} {t : TypeId} {nc : Nat} {f : Nat → Value} {most : Int} {ps : List Pg} {ts : List Nat} {pv tv : Value} (h : RSI x B wb wo t nc f most ps ts pv tv) :
    Calls Try.prog 55 #[.pointer (some ⟨wb, wo, none⟩)] x fun e y => (∃ v, e = .returned v) ∧ RIClear B wb wo t nc f most x y := by
  obtain ⟨c0, c1, c2, c3⟩ := h.cells
  have f1 := ArrAt.frozen h.arr (wo + 1)
  have f2 := ArrAt.frozen h.arr (wo + 2)
  have HF : Hid (RIClear B wb wo t nc f most x ((x.setCell ⟨wb, wo + 1, none⟩ (.slice none 0 0)).setCell ⟨wb, wo + 2, none⟩ (.slice none 0 0))) := Lib.hid
    ⟨(h.setp (ps' := []) (World.ownsRow_nil _ _ _ _) (by simp [Value.ownBlock])).sett (ts' := []) (World.ownsRow_nil _ _ _ _) (by simp [Value.ownBlock]), keepSet (keepSet (Keep.refl _ _) (by simp) _ _) (by simp) _ _⟩
  clear h
  go_enter Try.func55, Try.ntmps55
  go_wp2_with fail
  go_end0
  exact ⟨⟨_, rfl⟩, HF.out⟩
end Go.Proofs.Ytpinoejckagjbaa
