/- Contracts of the functions that the law reaches, walked, and the plain laws on them (several texts in one). -/
import Derived.Test.YtpinoejckagjbaaM29

/- The document's spaces, as they lie in memory. -/
namespace Go.Proofs.Ytpinoejckagjbaa
open Go.RowKit Go.Mum
set_option linter.unusedVariables false
set_option linter.unusedSimpArgs false
set_option maxRecDepth 100000

/-- What the document's spaces hold, by the number of the space. -/
structure RSt where
  tk : Nat → Bool
  ur : Nat → Bool
  kp : Nat → Nat
  kr : Nat → Nat
  pv : Nat → Value
  tv : Nat → Value
  mf : Nat → Int
  P : Nat → List Pg
  S : Nat → List Nat

/-- The cells of a space. -/
def spC (R : RSt) (k : Nat) : List Value := [.bool (R.tk k), .int .u32 (R.kp k : Nat), .int .u32 (R.kr k : Nat), .bool (R.ur k), .int .i64 60, R.pv k, R.tv k, .int .i64 (R.mf k)]
def spL (R : RSt) (age : List Nat) : List Value := age.flatMap (spC R)

theorem spL_len (R : RSt) (age : List Nat) : (spL R age).length = age.length * 8 := by
  induction age with
  | nil => rfl
  | cons q ps ih =>
    show (spC R q ++ spL R ps).length = _
    rw [List.length_append, ih]
    simp [spC]; omega

theorem spL_get (R : RSt) : ∀ (age : List Nat) (i : Nat) (hi : i < age.length) (j : Nat), j < 8 → (spL R age)[i * 8 + j]? = (spC R age[i])[j]?
  | q :: ps, 0, _, j, hj => by
    show (spC R q ++ spL R ps)[0 * 8 + j]? = _
    rw [List.getElem?_append_left (by simp [spC]; omega)]
    simp
  | q :: ps, i + 1, hi, j, hj => by
    show (spC R q ++ spL R ps)[(i + 1) * 8 + j]? = _
    rw [List.getElem?_append_right (by simp [spC]; omega), show (i + 1) * 8 + j - (spC R q).length = i * 8 + j by simp [spC]; omega]
    exact spL_get R ps i (by simpa using hi) j hj

theorem spC_len (R : RSt) (k : Nat) : (spC R k).length = 8 := rfl

/-- The document's spaces. -/
structure RcAt (x : World) (B rb most : Nat) (R : RSt) (age : List Nat) (use : Bool) (ga ca : Nat) (hv : Value) (c : Nat) : Prop where
  head : x.heap[rb]? = some (.cells #[.slice (some ⟨ga, 0, none⟩) age.length ca, hv, .bool use, .int .i64 most, .int .i64 4] 143 (0, 0))
  rbB : B ≤ rb
  all : x.ownsRow B 145 8 (.slice (some ⟨ga, 0, none⟩) age.length ca) age.length (spL R age)
  home : x.ownsRow B 3 1 hv age.length (age.map fun k => .int .i64 (k : Nat))
  nd : age.Nodup
  prow : ∀ k ∈ age, x.ownsRow B 65 3 (R.pv k) (R.P k).length (pgL (R.P k))
  trow : ∀ k ∈ age, x.ownsRow B 22 1 (R.tv k) (R.S k).length ((R.S k).map fun z => .int .u32 (z : Nat))
  pd : ∀ k ∈ age, ∀ j ∈ age, k ≠ j → ∀ g, (R.pv k).ownBlock = some g → (R.pv j).ownBlock ≠ some g
  td : ∀ k ∈ age, ∀ j ∈ age, k ≠ j → ∀ g, (R.tv k).ownBlock = some g → (R.tv j).ownBlock ≠ some g
  pl : ∀ k ∈ age, (R.P k).length ≤ c
  sl : ∀ k ∈ age, (R.S k).length ≤ c
  al : 1 ≤ age.length ∧ age.length ≤ 8

theorem own_type {w : World} {base : Nat} {e : TypeId} {size : Nat} {v : Value} {n : Nat} {xs : List Value} (h : w.ownsRow base e size v n xs) {g : Nat} (hg : v.ownBlock = some g) : ∃ cur, w.heap[g]? = some (.cells cur e (0, 0)) := by
  rcases h.2 with ⟨rfl, _⟩ | ⟨g1, _, c1, rfl, _, a1, _⟩
  · cases hg
  · cases hg; exact ⟨_, a1⟩

theorem type_ne {w : World} {g g' : Nat} {c c' : Array Value} {e e' : TypeId} {z z' : Nat × Nat} (h : w.heap[g]? = some (.cells c e z)) (h' : w.heap[g']? = some (.cells c' e' z')) (hne : e ≠ e') : g ≠ g' := by
  rintro rfl
  rw [h] at h'
  simp only [Option.some.injEq, Obj.cells.injEq] at h'
  exact hne h'.2.1

section
variable {x y : World} {B rb most : Nat} {R : RSt} {age : List Nat} {use : Bool} {ga ca : Nat} {hv : Value} {c : Nat}

/-- Which blocks are the spaces' own. -/
def RcOwn (R : RSt) (age : List Nat) (rb ga : Nat) (hv : Value) (k : Nat) : Prop := k = rb ∨ k = ga ∨ hv.ownBlock = some k ∨ (∃ j ∈ age, (R.pv j).ownBlock = some k) ∨ (∃ j ∈ age, (R.tv j).ownBlock = some k)

theorem RcAt.keep {l : List Nat} (h : RcAt x B rb most R age use ga ca hv c) (hk : Keep l x y) (hl : ∀ k, RcOwn R age rb ga hv k → k ∉ l) : RcAt y B rb most R age use ga ca hv c :=
  ⟨hk.heap h.head (hl _ (.inl rfl)), h.rbB, own_keep h.all hk (fun g hg => hl _ (.inr (.inl (by cases hg; rfl)))), own_keep h.home hk (fun g hg => hl _ (.inr (.inr (.inl hg)))), h.nd,
   fun k q => own_keep (h.prow k q) hk (fun g hg => hl _ (.inr (.inr (.inr (.inl ⟨k, q, hg⟩))))), fun k q => own_keep (h.trow k q) hk (fun g hg => hl _ (.inr (.inr (.inr (.inr ⟨k, q, hg⟩))))), h.pd, h.td, h.pl, h.sl, h.al⟩

theorem RcAt.keep0 (h : RcAt x B rb most R age use ga ca hv c) (hk : Keep [] x y) : RcAt y B rb most R age use ga ca hv c := h.keep hk (fun _ _ => by simp)

theorem RcAt.own_le (h : RcAt x B rb most R age use ga ca hv c) {k : Nat} (hk : RcOwn R age rb ga hv k) : B ≤ k ∧ k < x.heap.size := by
  rcases hk with rfl | rfl | hk | ⟨j, hj, hk⟩ | ⟨j, hj, hk⟩
  · exact ⟨h.rbB, lt_of_heap h.head⟩
  · exact own_block h.all rfl
  · exact own_block h.home hk
  · exact own_block (h.prow j hj) hk
  · exact own_block (h.trow j hj) hk

theorem RcAt.keepLow {l : List Nat} (h : RcAt x B rb most R age use ga ca hv c) (hk : Keep l x y) (hl : ∀ k ∈ l, k < B) : RcAt y B rb most R age use ga ca hv c :=
  h.keep hk (fun k q hq => by have := (h.own_le q).1; have := hl k hq; omega)

theorem RcAt.later {c' : Nat} (h : RcAt x B rb most R age use ga ca hv c) (hc : c ≤ c') : RcAt x B rb most R age use ga ca hv c' :=
  ⟨h.head, h.rbB, h.all, h.home, h.nd, h.prow, h.trow, h.pd, h.td, fun k q => Nat.le_trans (h.pl k q) hc, fun k q => Nat.le_trans (h.sl k q) hc, h.al⟩

theorem RcAt.cells (h : RcAt x B rb most R age use ga ca hv c) : x.cell? ⟨rb, 0, none⟩ = some (.slice (some ⟨ga, 0, none⟩) age.length ca) ∧ x.cell? ⟨rb, 1, none⟩ = some hv ∧ x.cell? ⟨rb, 2, none⟩ = some (.bool use) ∧ x.cell? ⟨rb, 3, none⟩ = some (.int .i64 most) ∧ x.cell? ⟨rb, 4, none⟩ = some (.int .i64 4) :=
  ⟨cell_of h.head 0 rfl, cell_of h.head 1 rfl, cell_of h.head 2 rfl, cell_of h.head 3 rfl, cell_of h.head 4 rfl⟩

/-- A cell of the space at a place. -/
theorem RcAt.cell (h : RcAt x B rb most R age use ga ca hv c) {i : Nat} (hi : i < age.length) {j : Nat} (hj : j < 8) : x.cell? ⟨ga, i * 8 + j, none⟩ = (spC R age[i])[j]? := by
  obtain ⟨g, h1, h2⟩ := own_some h.all (by omega)
  cases h1
  rw [h2 _ (by omega), spL_get R age i hi j hj]

theorem RcAt.homeCell (h : RcAt x B rb most R age use ga ca hv c) {i : Nat} (hi : i < age.length) : ∃ g hc, hv = .slice (some ⟨g, 0, none⟩) age.length hc ∧ x.cell? ⟨g, i, none⟩ = some (.int .i64 (age[i] : Nat)) := by
  obtain ⟨a, hc, rfl⟩ := own_form h.home
  obtain ⟨g, rfl, h2⟩ := own_some h.home (by omega)
  refine ⟨g, hc, rfl, ?_⟩
  have := h2 i (by omega)
  rw [List.getElem?_map, List.getElem?_eq_getElem hi] at this
  exact this

/-- One space, at its place of the row. -/
theorem RcAt.one (h : RcAt x B rb most R age use ga ca hv c) {i : Nat} (hi : i < age.length) : ∃ f, RSI x B ga (i * 8 + 4) 145 (ca * 8) f (R.mf age[i]) (R.P age[i]) (R.S age[i]) (R.pv age[i]) (R.tv age[i]) ∧ (∀ j, j < age.length * 8 → f j = (spL R age).getD j undef) ∧ age.length ≤ ca ∧ ca ≤ maxLen := by
  have hxl : (spL R age).length = age.length * 8 := spL_len R age
  rcases h.all.2 with ⟨h1, _⟩ | ⟨g, cap, cur, h1, hB, hh, hcap, hmax, hsz, htk⟩
  · cases h1
  · cases h1
    have hf : ∀ j, j < age.length * 8 → cur.toList.getD j undef = (spL R age).getD j undef := fun j hj => by
      rw [← htk, List.getD_eq_getElem?_getD, List.getD_eq_getElem?_getD, List.getElem?_take, if_pos hj]
    have hv8 : ∀ j, j < 8 → cur.toList.getD (i * 8 + j) undef = (spC R age[i]).getD j undef := fun j hj => by
      rw [hf _ (by omega), List.getD_eq_getElem?_getD, List.getD_eq_getElem?_getD, spL_get R age i hi j hj]
    have hxs := lt_of_heap hh
    have hmem := List.getElem_mem hi
    refine ⟨fun j => cur.toList.getD j undef, ⟨⟨cur, hh, hsz, fun j hj => ?_⟩, by omega, by omega, hv8 4 (by omega), hv8 5 (by omega), hv8 6 (by omega), hv8 7 (by omega), h.prow _ hmem, h.trow _ hmem, fun q => ?_, fun q => ?_⟩, hf, hcap, hmax⟩
    · have : j < cur.toList.length := by simpa [hsz] using hj
      show cur[j]? = some (cur.toList.getD j undef)
      rw [List.getD_eq_getElem?_getD, ← Array.getElem?_toList, List.getElem?_eq_getElem this]
      rfl
    · obtain ⟨c1, hc1⟩ := own_type (h.prow _ hmem) q
      exact type_ne hh hc1 (by decide) rfl
    · obtain ⟨c1, hc1⟩ := own_type (h.trow _ hmem) q
      exact type_ne hh hc1 (by decide) rfl

theorem own_of_arr {w : World} {B : Nat} {e : TypeId} {size : Nat} {g n cap : Nat} {f : Nat → Value} {xs : List Value} (h : ArrAt w g e (cap * size) f) (hB : B ≤ g) (hn : n ≤ cap) (hc : cap ≤ maxLen) (hx : xs.length = n * size) (hf : ∀ j, j < n * size → f j = xs.getD j undef) : w.ownsRow B e size (.slice (some ⟨g, 0, none⟩) n cap) n xs := by
  obtain ⟨cs, h1, h2, h3⟩ := h
  refine ⟨hx, .inr ⟨g, cap, cs, rfl, hB, h1, hn, hc, h2, ?_⟩⟩
  have hle : n * size ≤ cap * size := Nat.mul_le_mul_right _ hn
  apply List.ext_getElem?
  intro j
  rw [List.getElem?_take]
  by_cases hj : j < n * size
  · rw [if_pos hj, Array.getElem?_toList, h3 j (by omega), hf j hj, List.getD_eq_getElem?_getD, List.getElem?_eq_getElem (by omega)]
    rfl
  · rw [if_neg hj, List.getElem?_eq_none (by omega)]
end
end Go.Proofs.Ytpinoejckagjbaa
