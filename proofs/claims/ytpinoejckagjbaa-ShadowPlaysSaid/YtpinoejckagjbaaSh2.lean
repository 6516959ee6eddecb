/- A Shadow as it lies in the memory of the program. -/
import Derived.Test.YtpinoejckagjbaaSh1
import Derived.Test.YtpinoejckagjbaaPool1
import Derived.Test.YtpinoejckagjbaaArr
import Derived.Deep.MidRow
import Derived.Outline
namespace Go.Proofs.Ytpinoejckagjbaa
open Go.RowKit Go.Mum
set_option linter.unusedVariables false
set_option linter.unusedSimpArgs false
set_option maxRecDepth 100000

/-- The cells of a Shadow. -/
def shCell (r p : Nat) (dir : Int) (T : Nat → Tab) (j : Nat) : Value :=
  if j = 0 then .pointer (some ⟨r, 0, none⟩) else if j = 1 then .pointer (some ⟨p, 0, none⟩) else if j = 2 then .int .i64 dir else if j = 579 then .slice none 0 0 else
  if (j - 3) % 18 = 0 then .bool (T ((j - 3) / 18)).th else if (j - 3) % 18 = 1 then .int .i64 ((T ((j - 3) / 18)).fr : Nat) else .int .u32 (((T ((j - 3) / 18)).en ((j - 3) % 18 - 2) : Nat))

def ShAt (x : World) (s r p : Nat) (dir : Int) (T : Nat → Tab) : Prop := ArrAt x s 112 580 (shCell r p dir T)

section
variable {w x : World} {s r p : Nat} {dir : Int} {T : Nat → Tab}

theorem ShAt.keep {l : List Nat} (h : ShAt w s r p dir T) (hk : Keep l w x) (hn : s ∉ l) : ShAt x s r p dir T := ArrAt.keep h hk hn

theorem ShAt.ext {T' : Nat → Tab} (h : ShAt w s r p dir T) (he : ∀ n, n < 32 → (T n).th = (T' n).th ∧ (T n).fr = (T' n).fr ∧ ∀ k, k < 16 → (T n).en k = (T' n).en k) : ShAt w s r p dir T' := by
  refine ArrAt.ext h (fun j hj => ?_)
  unfold shCell
  by_cases h0 : j = 0
  · simp [h0]
  by_cases h1 : j = 1
  · simp [h1]
  by_cases h2 : j = 2
  · simp [h2]
  by_cases h3 : j = 579
  · simp [h3]
  obtain ⟨a, b, c⟩ := he ((j - 3) / 18) (by omega)
  rw [if_neg h0, if_neg h1, if_neg h2, if_neg h3, if_neg h0, if_neg h1, if_neg h2, if_neg h3, a, b]
  by_cases h4 : (j - 3) % 18 = 0
  · rw [if_pos h4, if_pos h4]
  by_cases h5 : (j - 3) % 18 = 1
  · rw [if_neg h4, if_neg h4, if_pos h5, if_pos h5]
  rw [if_neg h4, if_neg h4, if_neg h5, if_neg h5, c _ (by omega)]

theorem ShAt.heads (h : ShAt w s r p dir T) : w.cell? ⟨s, 0, none⟩ = some (.pointer (some ⟨r, 0, none⟩)) ∧ w.cell? ⟨s, 1, none⟩ = some (.pointer (some ⟨p, 0, none⟩)) ∧ w.cell? ⟨s, 2, none⟩ = some (.int .i64 dir) ∧ w.cell? ⟨s, 579, none⟩ = some (.slice none 0 0) := by
  refine ⟨?_, ?_, ?_, ?_⟩
  all_goals
    rw [ArrAt.cell h (by omega)]
    rfl

theorem shCell_th {n : Nat} (hn : n < 32) : shCell r p dir T (3 + n * 18) = .bool (T n).th := by
  unfold shCell
  rw [if_neg (by omega), if_neg (by omega), if_neg (by omega), if_neg (by omega), if_pos (by omega), show (3 + n * 18 - 3) / 18 = n by omega]

theorem shCell_fr {n : Nat} (hn : n < 32) : shCell r p dir T (3 + n * 18 + 1) = .int .i64 ((T n).fr : Nat) := by
  unfold shCell
  rw [if_neg (by omega), if_neg (by omega), if_neg (by omega), if_neg (by omega), if_neg (by omega), if_pos (by omega), show (3 + n * 18 + 1 - 3) / 18 = n by omega]

theorem shCell_en {n k : Nat} (hn : n < 32) (hk : k < 16) : shCell r p dir T (3 + n * 18 + 2 + k) = .int .u32 ((T n).en k : Nat) := by
  unfold shCell
  rw [if_neg (by omega), if_neg (by omega), if_neg (by omega), if_neg (by omega), if_neg (by omega), if_neg (by omega), show (3 + n * 18 + 2 + k - 3) / 18 = n by omega, show (3 + n * 18 + 2 + k - 3) % 18 - 2 = k by omega]

theorem ShAt.th (h : ShAt w s r p dir T) {n : Nat} (hn : n < 32) : w.cell? ⟨s, 3 + n * 18, none⟩ = some (.bool (T n).th) := by
  rw [ArrAt.cell h (by omega), shCell_th hn]

theorem ShAt.fr (h : ShAt w s r p dir T) {n : Nat} (hn : n < 32) : w.cell? ⟨s, 3 + n * 18 + 1, none⟩ = some (.int .i64 ((T n).fr : Nat)) := by
  rw [ArrAt.cell h (by omega), shCell_fr hn]

theorem ShAt.en (h : ShAt w s r p dir T) {n k : Nat} (hn : n < 32) (hk : k < 16) : w.cell? ⟨s, 3 + n * 18 + 2 + k, none⟩ = some (.int .u32 ((T n).en k : Nat)) := by
  rw [ArrAt.cell h (by omega), shCell_en hn hk]

theorem ShAt.frozen (h : ShAt w s r p dir T) (j : Nat) : w.frozen? ⟨s, j, none⟩ = false := ArrAt.frozen h j

/-- An entry is laid. -/
theorem ShAt.lay (h : ShAt w s r p dir T) {n k e : Nat} (hn : n < 32) (hk : k < 16) : ShAt (w.setCell ⟨s, 3 + n * 18 + 2 + k, none⟩ (.int .u32 e)) s r p dir (setTab T n (setEn (T n) k e)) := by
  refine ArrAt.ext (ArrAt.set h _ _) (fun j hj => ?_)
  by_cases hj0 : j = 3 + n * 18 + 2 + k
  · rw [if_pos hj0, hj0, shCell_en hn hk, setTab_same]
    show _ = Value.int .u32 (((if k = k then e else (T n).en k) : Nat) : Int)
    rw [if_pos rfl]
  · rw [if_neg hj0]
    unfold shCell
    by_cases h0 : j = 0
    · simp [h0]
    by_cases h1 : j = 1
    · simp [h1]
    by_cases h2 : j = 2
    · simp [h2]
    by_cases h3 : j = 579
    · simp [h3]
    rw [if_neg h0, if_neg h1, if_neg h2, if_neg h3, if_neg h0, if_neg h1, if_neg h2, if_neg h3]
    by_cases hm : (j - 3) / 18 = n
    · rw [hm, setTab_same]
      show _ = if (j - 3) % 18 = 0 then Value.bool (T n).th else if (j - 3) % 18 = 1 then .int .i64 ((T n).fr : Nat) else .int .u32 ((if (j - 3) % 18 - 2 = k then e else (T n).en ((j - 3) % 18 - 2) : Nat))
      by_cases h4 : (j - 3) % 18 = 0
      · rw [if_pos h4, if_pos h4]
      by_cases h5 : (j - 3) % 18 = 1
      · rw [if_neg h4, if_neg h4, if_pos h5, if_pos h5]
      rw [if_neg h4, if_neg h4, if_neg h5, if_neg h5, if_neg (by omega)]
    · rw [setTab_ne hm]

theorem sets_at {g : Nat} {t : TypeId} {n : Nat} : ∀ (vs : List Value) (o : Nat) (w : World) (f : Nat → Value), ArrAt w g t n f → ArrAt (w.setCells g o vs) g t n (fun j => if o ≤ j ∧ j < o + vs.length then vs.getD (j - o) undef else f j)
  | [], o, w, f, h => ArrAt.ext h (fun j _ => by rw [if_neg (by rw [List.length_nil]; omega)])
  | v :: vs, o, w, f, h => by
    refine ArrAt.ext (sets_at vs (o + 1) _ _ (ArrAt.set h o v)) (fun j hj => ?_)
    by_cases h1 : j = o
    · subst h1
      rw [if_neg (by omega), if_pos rfl, if_pos (by simp)]
      simp
    · by_cases h2 : o + 1 ≤ j ∧ j < o + 1 + vs.length
      · rw [if_pos h2, if_pos (by simp; omega), show j - o = (j - (o + 1)) + 1 by omega]
        rfl
      · rw [if_neg h2, if_neg h1, if_neg (by simp; omega)]

theorem keepSets {l : List Nat} {b : Nat} (hb : b ∈ l ∨ w.heap.size ≤ b) : ∀ (vs : List Value) (o : Nat) (x : World), Keep l w x → Keep l w (x.setCells b o vs)
  | [], o, x, h => h
  | v :: vs, o, x, h => keepSets hb vs (o + 1) _ (h.setCell hb v)

/-- The cells of a table. -/
def tabL (t : Tab) : List Value := .bool t.th :: .int .i64 (t.fr : Nat) :: (List.range 16).map (fun k => .int .u32 (t.en k : Nat))

theorem tabL_len (t : Tab) : (tabL t).length = 18 := by simp [tabL]

theorem tabL_at (t : Tab) {i : Nat} (hi : i < 18) : (tabL t).getD i undef = if i = 0 then .bool t.th else if i = 1 then .int .i64 (t.fr : Nat) else .int .u32 ((t.en (i - 2)) : Nat) := by
  match i, hi with
  | 0, _ => rfl
  | 1, _ => rfl
  | i + 2, h =>
    rw [if_neg (by omega), if_neg (by omega)]
    show ((List.range 16).map (fun k => Value.int .u32 (t.en k : Nat))).getD i undef = _
    rw [List.getD_eq_getElem?_getD, List.getElem?_map, List.getElem?_range (by omega)]
    rfl

/-- A table is set whole. -/
theorem ShAt.table (h : ShAt w s r p dir T) {n : Nat} (hn : n < 32) (t : Tab) : ShAt (w.setCells s (3 + n * 18) (tabL t)) s r p dir (setTab T n t) := by
  refine ArrAt.ext (sets_at (tabL t) (3 + n * 18) w _ h) (fun j hj => ?_)
  rw [tabL_len]
  by_cases hin : 3 + n * 18 ≤ j ∧ j < 3 + n * 18 + 18
  · rw [if_pos hin, tabL_at t (by omega)]
    unfold shCell
    rw [if_neg (show ¬ j = 0 by omega), if_neg (show ¬ j = 1 by omega), if_neg (show ¬ j = 2 by omega), if_neg (show ¬ j = 579 by omega), show (j - 3) / 18 = n by omega, setTab_same, show (j - 3) % 18 = j - (3 + n * 18) by omega]
  · rw [if_neg hin]
    unfold shCell
    by_cases h0 : j = 0
    · simp [h0]
    by_cases h1 : j = 1
    · simp [h1]
    by_cases h2 : j = 2
    · simp [h2]
    by_cases h3 : j = 579
    · simp [h3]
    rw [if_neg h0, if_neg h1, if_neg h2, if_neg h3, if_neg h0, if_neg h1, if_neg h2, if_neg h3, setTab_ne (by omega)]

/-- The tables, cell by cell. -/
def tabsL (T : Nat → Tab) : List Value := (List.range 576).map (fun j => shCell 0 0 0 T (j + 3))

theorem tabsL_len : (tabsL T).length = 576 := by simp [tabsL]

theorem shCell_body {j : Nat} (h0 : 3 ≤ j) (h1 : j < 579) : shCell r p dir T j = shCell 0 0 0 T j := by
  unfold shCell
  rw [if_neg (show ¬ j = 0 by omega), if_neg (show ¬ j = 1 by omega), if_neg (show ¬ j = 2 by omega), if_neg (show ¬ j = 579 by omega), if_neg (show ¬ j = 0 by omega), if_neg (show ¬ j = 1 by omega), if_neg (show ¬ j = 2 by omega)]

theorem tabsL_at {j : Nat} (hj : j < 576) : (tabsL T).getD j undef = shCell 0 0 0 T (j + 3) := by
  unfold tabsL
  rw [List.getD_eq_getElem?_getD, List.getElem?_map, List.getElem?_range hj]
  rfl

theorem tabsL_get {j : Nat} (hj : j < 576) : (tabsL T)[j]? = some (shCell 0 0 0 T (j + 3)) := by
  unfold tabsL
  rw [List.getElem?_map, List.getElem?_range hj]
  rfl

theorem ShAt.range (h : ShAt w s r p dir T) : w.rangeAt s 3 (tabsL T) := fun j v hj => by
  obtain ⟨hlt, _⟩ := List.getElem?_eq_some_iff.1 hj
  rw [tabsL_len] at hlt
  rw [tabsL_get hlt] at hj
  rw [ArrAt.cell h (by omega), shCell_body (by omega) (by omega), Nat.add_comm 3 j]
  exact hj

/-- All tables are set. -/
theorem ShAt.tables (h : ShAt w s r p dir T) (T' : Nat → Tab) : ShAt (w.setCells s 3 (tabsL T')) s r p dir T' := by
  refine ArrAt.ext (sets_at (tabsL T') 3 w _ h) (fun j hj => ?_)
  rw [tabsL_len]
  by_cases hin : 3 ≤ j ∧ j < 3 + 576
  · rw [if_pos hin, tabsL_at (by omega), show j - 3 + 3 = j by omega, shCell_body (r := r) (p := p) (dir := dir) (T := T') (by omega) (by omega)]
  · rw [if_neg hin]
    unfold shCell
    by_cases h0 : j = 0
    · simp [h0]
    by_cases h1 : j = 1
    · simp [h1]
    by_cases h2 : j = 2
    · simp [h2]
    have h3 : j = 579 := by omega
    simp [h3]

end
end Go.Proofs.Ytpinoejckagjbaa
