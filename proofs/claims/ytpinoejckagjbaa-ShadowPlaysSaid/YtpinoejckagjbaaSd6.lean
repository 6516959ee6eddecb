/- The pages of a shadow, table by table. -/
import Derived.Test.YtpinoejckagjbaaSh9
import Derived.Laws.StructEq
namespace Go.Proofs.Ytpinoejckagjbaa
open Go.RowKit Go.Mum Go.Shelf
set_option linter.unusedVariables false
set_option linter.unusedSimpArgs false
set_option maxRecDepth 100000

attribute [local go_sem] Oper.semAt_some

def cellU (z : Nat) : Value := .int .u32 (z : Nat)

theorem run_equalIn_u32s {P : Program} (w : World) (d : Nat) (t e : TypeId) (n : Nat) (ht : P.underlying t = some (.array n e)) (he : P.underlying e = some (.int .u32)) (hsz : ∀ w, (sizeOf e).run P w = .ok 1 w)
    (xs ys : List Nat) (hx : xs.length = n) (hy : ys.length = n) :
    (Op.equalIn (d + 2) t (.agg (xs.map cellU).toArray) (.agg (ys.map cellU).toArray)).run P w = .ok ((List.range n).all fun i => xs.getD i 0 == ys.getD i 0) w := by
  rw [List.range_eq_range', Op.equalIn]
  simp only [Sem.run_bind, run_underlying ht, Result.andThen_ok, hsz, Std.Legacy.Range.forIn_eq_forIn_range', Std.Legacy.Range.size, Nat.sub_zero, Nat.add_sub_cancel, Nat.div_one]
  have hl : ∀ i ∈ List.range' 0 n 1, i < n := fun i hi => by simpa using (List.mem_range'_1.1 hi).2
  generalize List.range' 0 n 1 = l at hl ⊢
  induction l with
  | nil => simp
  | cons i l ih =>
    have hi : i < n := hl i (by simp)
    have px : (part e (xs.map cellU).toArray (i * 1)).run P w = .ok (cellU (xs.getD i 0)) w := by
      simp [part, isAgg, run_underlying he, List.getD, List.getElem?_eq_getElem (show i < xs.length by omega)]
    have py : (part e (ys.map cellU).toArray (i * 1)).run P w = .ok (cellU (ys.getD i 0)) w := by
      simp [part, isAgg, run_underlying he, List.getD, List.getElem?_eq_getElem (show i < ys.length by omega)]
    have pe : (Op.equalIn (d + 1) e (cellU (xs.getD i 0)) (cellU (ys.getD i 0))).run P w = .ok (xs.getD i 0 == ys.getD i 0) w := by
      rw [cellU, cellU, run_equalIn_int w d e .u32 .u32 _ _ he]
      congr 1
      rw [Bool.eq_iff_iff]
      simp
      omega
    simp only [List.forIn_cons, Sem.run_bind, px, py, pe, Result.andThen_ok, List.all_cons]
    cases hb : (xs.getD i 0 == ys.getD i 0)
    · simp
    · simp only [Bool.not_true, Bool.false_eq_true, if_false, Sem.run_pure, Result.andThen_ok, Bool.true_and]
      exact ih fun j hj => hl j (by simp [hj])

def enL (t : Tab) : List Nat := (List.range 16).map t.en
theorem entL_enL (t : Tab) : entL t = (enL t).map cellU := by
  unfold entL enL
  rw [List.map_map]
  rfl
theorem enL_at (t : Tab) {j : Nat} (hj : j < 16) : (enL t).getD j 0 = t.en j := by
  unfold enL
  rw [List.getD_eq_getElem?_getD, List.getElem?_map, List.getElem?_range hj]
  rfl

def noEn (t : Tab) : Bool := (List.range 16).all fun i => t.en i == 0

theorem eql_ent (t : Tab) (x y : Operand) (w : World) : ((do eqGuard .eql 107 x y (.agg (entL t).toArray) (.agg (entL tab0).toArray); binOp .eql 107 (.agg (entL t).toArray) (.agg (entL tab0).toArray)) : Sem Value).run Try.prog w = .ok (.bool (noEn t)) w := by
  have hg := run_eqGuard_agg (P := Try.prog) w .eql 107 x y (entL t).toArray (entL tab0).toArray (by kernel_rfl)
  have he := run_equalIn_u32s (P := Try.prog) w 9998 107 22 16 Try.underlying107 Try.underlying22 (fun w => by kernel_rfl) (enL t) (enL tab0) (by simp [enL]) (by simp [enL])
  have hall : ((List.range 16).all fun i => (enL t).getD i 0 == (enL tab0).getD i 0) = noEn t := by
    unfold noEn
    rw [Bool.eq_iff_iff, List.all_eq_true, List.all_eq_true]
    refine forall_congr' (fun i => ?_)
    refine imp_congr_right (fun hi => ?_)
    have := List.mem_range.1 hi
    rw [enL_at t this, enL_at tab0 this]
    rfl
  rw [hall] at he
  rw [entL_enL, entL_enL] at hg ⊢
  simp only [Sem.run_bind, hg, Result.andThen_ok]
  rw [run_eql_struct, he]
  rfl

theorem index_ent (t : Tab) {j : Nat} (hj : j < 16) (w : World) : (Instr.index 107 (.agg (entL t).toArray) (.int .i64 j)).run Try.prog w = .ok (.int .u32 (t.en j : Nat)) w := by
  have hi : (j : Int) < 16 := by omega
  have hp : (part 22 (entL t).toArray (j * 1)).run Try.prog w = .ok (.int .u32 (t.en j : Nat)) w := by
    have hg : (entL t)[j]? = some (.int .u32 (t.en j : Nat)) := by
      unfold entL
      rw [List.getElem?_map, List.getElem?_range hj]; rfl
    simp [part, isAgg, run_underlying Try.underlying22, hg]
  have hsz : (sizeOf 22).run Try.prog w = .ok 1 w := by kernel_rfl
  have hu := run_underlying Try.underlying107 w
  have ha : (asIntOf (.int .i64 j)).run Try.prog w = .ok (.i64, (j : Int)) w := rfl
  unfold Instr.index
  simp only [Sem.run_bind, ha, hu, Result.andThen_ok, hsz]
  rw [if_pos ⟨by omega, by omega⟩]
  simp only [Sem.run_bind, hsz, Result.andThen_ok, Int.toNat_natCast]
  exact hp

/-- What leads somewhere among the first m pages. -/
def plV (E : Nat → Nat) (m : Nat) : List Int := (List.range m).filterMap fun i => if E i = 0 then none else some ((64 * i : Nat) : Int)
def tabE (T : Nat → Tab) (i : Nat) : Nat := (T (i / 16)).en (i % 16)

theorem plV_succ (E : Nat → Nat) (m : Nat) : plV E (m + 1) = plV E m ++ (if E m = 0 then [] else [((64 * m : Nat) : Int)]) := by
  unfold plV
  rw [List.range_succ, List.filterMap_append]
  congr 1
  show (List.filterMap _ [m]) = _
  rw [List.filterMap_cons]
  by_cases h : E m = 0
  · simp [h]
  · simp [h]

theorem plV_len (E : Nat → Nat) (m : Nat) : (plV E m).length ≤ m := by
  unfold plV
  refine Nat.le_trans (List.length_filterMap_le _ _) ?_
  simp

theorem plV_none {T : Nat → Tab} {k : Nat} (h : noEn (T k) = true) : plV (tabE T) (16 * k + 16) = plV (tabE T) (16 * k) := by
  have hz : ∀ j, j < 16 → (T k).en j = 0 := fun j hj => by
    unfold noEn at h
    rw [List.all_eq_true] at h
    simpa using h j (List.mem_range.2 hj)
  have : ∀ j, j ≤ 16 → plV (tabE T) (16 * k + j) = plV (tabE T) (16 * k) := by
    intro j
    induction j with
    | zero => intro _; rfl
    | succ j ih =>
      intro hj
      rw [show 16 * k + (j + 1) = 16 * k + j + 1 by omega, plV_succ, ih (by omega), if_pos (by unfold tabE; rw [show (16 * k + j) / 16 = k by omega, show (16 * k + j) % 16 = j by omega]; exact hz j (by omega)), List.append_nil]
  exact this 16 (by omega)
end Go.Proofs.Ytpinoejckagjbaa
